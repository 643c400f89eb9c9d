/- PROVED HERE: a part of the seat's proofs; see the text that holds the claim's theorem. -/
import Derived.Test.YtojfjgjdheiffaaGreatDoorNm
import Derived.Shelf.SlSortCmp.NoneTotal
import Derived.Shelf.Sort.Plain
import Derived.Test.YtojfjgjdheiffaaGreatDoorPeE
import Derived.Test.YtojfjgjdheiffaaGreatDoorPeDr
section
/- slices.SortFunc, out of the kit's zf1, as a function that zaW into the row that it is given: what it leaves is the sorted list, where the comparison is an order of the row's elements. -/
set_option maxRecDepth 100000
namespace Pe
open Go Go.RowKit Go.Sort
variable{S:Nat->Type}
structure OrdOn {α:Type} (l:List α) (c:α->α->Int):Prop where
 irr:∀x∈l,¬c x x<0
 trans:∀x∈l,∀y∈l,∀z∈l,c x y<0->c y z<0->c x z<0
 eq:∀x∈l,∀y∈l,¬c x y<0->¬c y x<0->x=y
theorem OrdOn.sub{α:Type}{l l':List α}{c:α->α->Int}(h:OrdOn l c)(hs:∀x∈l',x∈l):OrdOn l' c :=
 ⟨λx hx=>h.irr x (hs x hx),λx hx y hy z hz=>h.trans x (hs x hx) y (hs y hy) z (hs z hz),λx hx y hy=>h.eq x (hs x hx) y (hs y hy)⟩
theorem OrdOn.ntrans{α:Type}{l:List α}{c:α->α->Int}(h:OrdOn l c){x y z:α}(hx:x∈l)(hy:y∈l)(hz:z∈l)(h1:¬c x y<0)(h2:¬c y z<0):¬c x z<0:=by
 intro h3;by_cases h4:c y x<0;·exact h2 (h.trans y hy x hx z hz h4 h3)
 ·have:=h.eq x hx y hy h1 h4;subst this;exact h2 h3
def zyh{α:Type}(c:α->α->Int)(x:α):List α->List α|[]=>[x]|y::r=>if c y x<0 then y::zyh c x r else x::y::r
def zxu{α:Type}(c:α->α->Int):List α->List α|[]=>[]|x::r=>zyh c x (zxu c r)
def zq3{α:Type}(c:α->α->Int)(l:List α):Prop:=l.Pairwise λx y=>¬c y x<0
theorem zwN{α:Type}(c:α->α->Int)(x:α):∀l:List α,(zyh c x l).Perm (x::l)
 |[]=>List.Perm.refl _|y::r=>by
   unfold zyh;split;·exact ((zwN c x r).cons y).trans (List.Perm.swap x y r)
   ·exact List.Perm.refl _
theorem zwy{α:Type}(c:α->α->Int):∀l:List α,(zxu c l).Perm l|[]=>List.Perm.refl _|x::r=>(zwN c x _).trans ((zwy c r).cons x)
theorem zxi{α:Type}{c:α->α->Int}{x:α}:∀{l:List α},OrdOn (x::l) c->zq3 c l->zq3 c (zyh c x l)
 |[],_,_=>yBs _ _|y::r,h,ha=>by
   obtain ⟨h1,h2⟩:=yBU.1 ha;unfold zyh;split
   ·rename_i hlt;refine yBU.2 ⟨λz hz=>?_,zxi (h.sub (by simp;intro z hz;exact .inr (.inr hz))) h2⟩;rcases yAm.1 ((zwN c x r).mem_iff.1 hz) with rfl|hz
    ·intro h3;exact h.irr y (by simp) (h.trans y (by simp) _ (by simp) y (by simp) hlt h3)
    ·exact h1 z hz
   ·rename_i hge;refine yBU.2 ⟨λz hz=>?_,ha⟩;rcases yAm.1 hz with rfl|hz;·exact hge
    ·exact h.ntrans (by simp[hz]) (by simp) (by simp) (h1 z hz) hge
theorem zwL{α:Type}{c:α->α->Int}:∀{l:List α},OrdOn l c->zq3 c (zxu c l)
 |[],_=>List.Pairwise.nil|x::r,h=>zxi (h.sub (by
    intro z hz;rcases yAm.1 hz with rfl|hz;·simp
    ·exact yB6 _ ((zwy c r).mem_iff.1 hz))) (zwL (h.sub λz hz=>yB6 _ hz))
theorem zjm{α:Type}{c:α->α->Int}:∀{a b:List α},OrdOn a c->zq3 c a->zq3 c b->a.Perm b->a=b
 |[],b,_,_,_,hp=>(List.Perm.nil_eq hp)|x::r,[],_,_,_,hp=>by simpa using hp.length_eq
 |x::r,y::t,h,ha,hb,hp=>by
   obtain ⟨a1,a2⟩:=yBU.1 ha;obtain ⟨b1,b2⟩:=yBU.1 hb;have hx:x∈y::t:=hp.mem_iff.1 (by simp);have hy:y∈x::r:=hp.mem_iff.2 (by simp);have hxy:x=y:=by
    rcases yAm.1 hx with e|hx2;·exact e
    ·rcases yAm.1 hy with e|hy2;·exact e.symm
     ·exact h.eq x (by simp) y hy (b1 x hx2) (a1 y hy2)
   subst hxy;rw[zjm (h.sub λz hz=>yB6 _ hz) a2 b2 (List.perm_cons x |>.1 hp)]
theorem zwV{α:Type}{c:α->α->Int}{l l':List α}(h:OrdOn l c)(hp:l'.Perm l)(ha:zq3 c l'):zxu c l=l' :=
 zjm (h.sub λ_ hx=>(zwy c l).mem_iff.1 hx) (zwL h) ha ((zwy c l).trans hp.symm)
def opt1{α:Type}:Option α->Option α|some a=>some a|none=>none
theorem zxE{α:Type}:∀x:Option α,opt1 x=x|some _=>rfl|none=>rfl
section
variable{P:Program}{un:Uni S}{D:Dat}{w:World}
def zx1(o:Orc S)(g:FuncId)(u:U)(x y:El S u):Int:=match o.d g [inj u x,inj u y] [.int .i64] with
 |some r=>eI (hd r)|none=>0
def zx3(o:Orc S)(g:FuncId)(u:U)(l:List (El S u)):Prop:=l.length<=lim/\(∀x∈l,∀y∈l,(o.d g [inj u x,inj u y] [.int .i64]).isSome=true)/\OrdOn l (zx1 o g u)
open Classical in
noncomputable def zxs(o:Orc S)(g:FuncId)(u:U)(l:List (El S u)):Option (List (El S u)):=if zx3 o g u l then some (zxu (zx1 o g u) l) else none
theorem zxO{o:Orc S}{g:FuncId}{u:U}{l l':List (El S u)}{c:El S u->El S u->Int}(h:∀x∈l,∀y∈l,@Eq (Option (Int×Unit)) (o.d g [inj u x,inj u y] [.int .i64]) (some (c x y,())))(ho:OrdOn l c)(hlim:l.length<=lim)(hl:zxu c l=l'):zxs o g u l=some l':=by
 have hc:∀x∈l,∀y∈l,zx1 o g u x y=c x y:=by intro x hx y hy;unfold zx1;have:=h x hx y hy;have h2:o.d g [inj u x,inj u y] [.int .i64]=some (c x y,()):=this;rw[h2];rfl
 have ho2:OrdOn l (zx1 o g u):=⟨λx hx=>by rw[hc x hx x hx];exact ho.irr x hx,λx hx y hy z hz h1 h2=>by
  rw[hc x hx y hy] at h1;rw[hc y hy z hz] at h2;rw[hc x hx z hz];exact ho.trans x hx y hy z hz h1 h2,λx hx y hy h1 h2=>by
  rw[hc x hx y hy] at h1;rw[hc y hy x hx] at h2;exact ho.eq x hx y hy h1 h2⟩
 have hk:zx3 o g u l:=⟨hlim,λx hx y hy=>by have h2:o.d g [inj u x,inj u y] [.int .i64]=some (c x y,()):=h x hx y hy;rw[h2];rfl,ho2⟩;unfold zxs;rw[if_pos hk];congr 1;refine zwV ho2 ((hl▸zwy c l)) ?_;have ha:zq3 c l':=hl▸zwL ho;have hm:∀x∈l',x∈l:=λx hx=>by rw[<-hl] at hx;exact (zwy c l).mem_iff.1 hx
 refine yBg ?_ ha;intro a b hma hmb hab;rw[hc b (hm b hmb) a (hm a hma)];exact hab
def zxK(P:Program)(f g:FuncId)(k:Nat)(arg:List Value->Value):Prop :=
 ∀(α:Type)[Inhabited α](enc:α->List Value)(cf:α->α->Int),(∀x,(enc x).length=k)->(∀x,∀v∈enc x,v.oneCell'=true)->SWO (Go.Proofs.ltOf cf)->∀(blk cap:Nat)(d:Array α)(w:World),
  (∀(m:Nat)(os:Array Obj)(dk:Array α),dk.size=d.size->∀x y:α,Calls P g #[arg (enc x),arg (enc y)] (Go.Proofs.sortWorldK enc k w blk 0 m dk os) λe w'=>e= .returned (.int .i64 (cf x y))/\∃q os',w'=grow ((Go.Proofs.sortWorldK enc k w blk 0 m dk os).drewN q) os') ->
  HoldsK enc k w blk 0 d->blk<w.heap.size->d.size<4611686018427387904 ->
  Calls P f #[.slice (some ⟨blk,0,none⟩) d.size cap,.func (.func g) #[] #[]] w λe w'=>e= .returned (.tuple #[])/\∃d' n os,PermIn 0 d.size d d'/\SortedIn (Go.Proofs.ltOf cf) 0 d.size d'/\w'=Go.Proofs.sortWorldK enc k w blk 0 n d' os
theorem zwU{α:Type}[Inhabited α]{enc:α->List Value}{k:Nat}{w:World}{blk m:Nat}{dk:Array α}{os:Array Obj}{i:Nat}(hi:i<w.heap.size)(hb:i≠blk):(Go.Proofs.sortWorldK enc k w blk 0 m dk os).heap[i]?=w.heap[i]? :=by show ((w.heap.modify blk _)++os)[i]?=_;rw[Array.getElem?_append,if_pos (by simpa using hi),yB1,if_neg (Ne.symm hb)]
theorem zx4{α:Type}[Inhabited α]{enc:α->List Value}{k:Nat}{w:World}{blk m:Nat}{dk:Array α}{os:Array Obj}{cur:Array Value}{T:TypeId}{fz:Nat×Nat}(h:w.heap[blk]?=some (.cells cur T fz)):(Go.Proofs.sortWorldK enc k w blk 0 m dk os).heap[blk]?=some (.cells (putCells id 0 (flatK enc k dk) cur) T fz):=by have hi:=(yAE.1 h).1;show ((w.heap.modify blk _)++os)[blk]?=_;rw[Array.getElem?_append,if_pos (by simpa using hi),yB1,if_pos rfl,h];rfl
theorem zxd{α:Type}[Inhabited α]{enc:α->List Value}{k:Nat}{w:World}{blk m:Nat}{dk:Array α}{os:Array Obj}:(Go.Proofs.sortWorldK enc k w blk 0 m dk os).heap.size=w.heap.size+os.size:=by show ((w.heap.modify blk _)++os).size=_;simp
theorem zwZ{F cur:Array Value}(h:F.size<=cur.size):(putCells id 0 F cur).toList.take F.size=F.toList:=by
 apply yAW;intro i;rw[yAD];by_cases hi:i<F.size;·rw[if_pos hi];simp only[Array.getElem?_toList,putCells,Array.getElem?_mapIdx,yAA,yAJ,hi,and_self,if_true,id_eq,Nat.sub_zero];rw[yCe (show i<cur.size by omega),yAg,yCe hi,getElem!_pos F i hi]
 ·rw[if_neg hi,Array.getElem?_toList,Array.getElem?_eq_none (by omega)]
theorem zye{α:Type}[Inhabited α]{enc:α->List Value}{k:Nat}(hk:∀x,(enc x).length=k)(d:Array α){i:Nat}(hi:i<d.size):((flatK enc k d).toList.drop (i*k)).take k=enc d[i]! :=by
 have hle:i*k+k<=d.size*k:=by have:=yAs k (show i+1<=d.size from hi);rwa[yAz,yAQ] at this
 apply yAW;intro c;rw[yAD];by_cases hc:c<k
 ·rw[if_pos hc,yAu,Array.getElem?_toList,yCe (by rw[size_flatK];omega),<-getElem!_pos,get_flatK _ _ _ _ (by omega)];have e1:(i*k+c) / k=i:=(blk_iff k i _ (by omega)).1 ⟨by omega,by omega⟩;have e2:(i*k+c) % k=c:=by rw[Nat.mod_eq_sub_div_mul,e1];omega
  rw[e1,e2,yAe (by rw[hk];exact hc),getElem!_pos _ c (by rw[hk];exact hc)]
 ·rw[if_neg hc,yAZ (by rw[hk];omega)]
theorem zxB{orc:Orc S}(hso:SoundO P un orc){f g:FuncId}{u:U}{T:TypeId}{l l':List (El S u)}(hcon:zxK P f g (U.size un u) (zbF u))
  (hnone:∀(p:Option Addr)(cap:Nat)(fv:Value)(w:World),Calls P f #[.slice p 0 cap,fv] w λe w'=>e= .returned (.tuple #[])/\w'=w) (h:zxs orc g u l=some l'):zyj P un f u T [.func (.func g) [] []] l l':=by
 intro D w v xs vs hD hown hfree hseg hargs;unfold zxs at h;split at h
 case isFalse=>cases h
 rename_i hok;simp only[yAf] at h;have hvs:vs=[.func (.func g) #[] #[]]:=by
  match vs,hargs with
  |[],hargs=>simp[RepL] at hargs|[y],hargs =>
    simp only[RepL,Rep,and_true] at hargs;obtain ⟨a,c,rfl,ha,hc⟩:=hargs;cases a with
    |nil=>cases c with
      |nil=>rfl|cons=>simp[RepL] at hc
    |cons=>simp[RepL] at ha
  |_::_::_,hargs=>simp[RepL] at hargs
 subst hvs;by_cases hn:l.length=0
 ·have hl:l=[]:=yAU.1 hn;subst hl;have hl':l'=[]:=h.symm;subst hl';obtain ⟨hlen,hh⟩:=hown;have hx:xs=[]:=yAU.1 (by rw[hlen];simp);subst hx;obtain ⟨p,cap,rfl⟩:∃p cap,v= .slice p 0 cap:=by
   rcases hh with ⟨rfl,_⟩|⟨gb,cap,cur,rfl,_⟩;·exact ⟨_,_,rfl⟩
   ·exact ⟨_,_,rfl⟩
  refine (hnone p cap _ w).mono λe w' hz=>?_;obtain ⟨rfl,rfl⟩:=hz;exact ⟨rfl,Wl.Grow.refl _ _,[],rfl,⟨hlen,hh⟩,λi x hi=>by simp at hi⟩
 obtain ⟨hlen,⟨_,hn0⟩|⟨blk,cap,cur,rfl,_,hg,hnc,hcm,hcs,htk⟩⟩:=hown;·exact absurd hn0 hn
 have hblk:blk<w.heap.size:=(yAE.1 hg).1
 let n:=l.length
 let k:=U.size un u
 have:Inhabited (Fin n):=⟨⟨0,Nat.pos_of_ne_zero hn⟩⟩
 let enc:Fin n->List Value:=λi=>(xs.drop (i.val*k)).take k
 let cf:Fin n->Fin n->Int:=λi j=>zx1 orc g u l[i] l[j]
 have hlenk:∀i:Fin n,(enc i).length=k:=by
  intro i;have hle:i.val*k+k<=n*k:=by have:=yAs k (show i.val+1<=n from i.isLt);rwa[yAz,yAQ] at this
  simp only[enc,yAY,yAL,hlen];exact yBV (by show k<=n*k - _;omega)
 have hdr:∀i:Fin n,DR un D w [u] (sg l[i]) (enc i):=λi=>hseg i.val _ (by simp);have hO:SWO (Go.Proofs.ltOf cf):=by
  have hm:∀i:Fin n,l[i]∈l:=λi=>yAy _;refine ⟨λx=>?_,λx y z h1 h2=>?_,λx y z h1 h2=>?_⟩;·simp only[Go.Proofs.ltOf,decide_eq_false_iff_not];exact hok.2.2.irr _ (hm x)
  ·simp only[Go.Proofs.ltOf,decide_eq_true_eq] at h1 h2 ⊢;exact hok.2.2.trans _ (hm x) _ (hm y) _ (hm z) h1 h2
  ·simp only[Go.Proofs.ltOf,decide_eq_false_iff_not] at h1 h2 ⊢;exact hok.2.2.ntrans (hm x) (hm y) (hm z) h1 h2
 let d:Array (Fin n):=Array.ofFn λi=>i
 have hds:d.size=n:=Array.size_ofFn;have hd:∀i (hi:i<n),d[i]! =⟨i,hi⟩:=λi hi=>by rw[getElem!_pos d i (by rw[hds];exact hi)];simp[d]
 have hge:∀(m:Nat)(os:Array Obj)(dk:Array (Fin n)),Ge D w D (Go.Proofs.sortWorldK enc k w blk 0 m dk os):=λm os dk =>
  ⟨λ_ _ h=>h,λi o hi=>World.cell?_of_block (zwU (hD i o hi) λhe=>by subst he;exact hfree _ rfl o hi)⟩
 have hcell:∀t (ht:t<n*k),w.cell? ⟨blk,t,none⟩=some (xs[t]'(by rw[hlen];exact ht)):=by
  intro t ht;have h1:cur[t]?=some (xs[t]'(by rw[hlen];exact ht)):=by rw[<-Array.getElem?_toList,<-yAt (show t<n*k from ht),htk,yAe]
  simp only[World.cell?,hg];exact h1
 have hH:HoldsK enc k w blk 0 d:=by
  intro t ht;rw[size_flatK,hds] at ht
  have hk0:0<k:=by rcases yCg k with h0|h0;· rw[h0] at ht;simp at ht
                   ·exact h0
  refine ⟨?_,by simp[World.frozen?,hg]⟩;rw[yAJ,hcell t ht];refine congrArg some (Eq.trans ?_ (get_flatK enc k d t (by rw[hds];exact ht)).symm);have ht2:t / k<n:=Nat.div_lt_of_lt_mul (by rwa[Nat.mul_comm] at ht);rw[hd _ ht2];have hm:t % k<(enc ⟨t / k,ht2⟩).length:=by rw[hlenk];exact Nat.mod_lt _ hk0
  rw[getElem!_pos (enc ⟨t / k,ht2⟩) (t % k) hm];have he:(t / k)*k+t % k=t:=by rw[Nat.mul_comm];exact Nat.div_add_mod t k
  simp only[enc,List.getElem_take,List.getElem_drop,he]
 have hcall:=hcon (Fin n) enc cf hlenk (λx v hv=>(hdr x).one v hv) hO blk cap d w (λm os dk hdk x y=>?_) hH hblk (by rw[hds];have:=hok.1;unfold lim at this;show l.length<_;omega)
 ·rw[hds] at hcall;refine hcall.mono λe w' hz=>?_;obtain ⟨rfl,d',m,os,hp,hs,rfl⟩:=hz;obtain ⟨hp1,_,hp3⟩:=hp;have hd's:d'.size=n:=hp1.trans hds;have hperm:d'.toList.Perm d.toList:=by
   have e0:∀(z:Array (Fin n))(m:Nat),z.size=m->(z.extract 0 m).toList=z.toList:=λz m hz=>by subst hz;simp
   rwa[e0 d' n hd's,e0 d n hds] at hp3
  have hmapd:d.toList.map (λi:Fin n=>l[i])=l:=by
   apply yAW;intro i;simp only[yAh,Array.getElem?_toList,d,Array.getElem?_ofFn];by_cases hi:i<l.length;·rw[dif_pos hi,yAe hi];rfl
   ·rw[dif_neg hi,yAZ (Nat.le_of_not_lt hi)];rfl
  have hl':d'.toList.map (λi:Fin n=>l[i])=l':=by
   rw[<-h];refine (zwV hok.2.2 ?_ ?_).symm;·have:=hperm.map λi:Fin n=>l[i];rwa[hmapd] at this
   ·unfold zq3;rw[yA6,yAH];intro i j hi hj hij;have hj2:j<n:=by rw[<-hd's];simpa using hj
    have:=hs i j (yAA _) hij hj2;rw[getElem!_pos d' j (by rw[hd's];exact hj2),getElem!_pos d' i (by rw[hd's];omega)] at this;simpa[Go.Proofs.ltOf,cf] using this
  have hll:l'.length=n:=by rw[<-hl'];simp[hd's]
  refine ⟨rfl,⟨rfl,rfl,rfl,by rw[zxd];omega,λi hi hne=>zwU hi λhe=>hne (by subst he;simp[Value.ownBlock])⟩,(flatK enc k d').toList,hll,?_,?_⟩
  ·have hFs:(flatK enc k d').size=n*k:=(by rw[size_flatK,hd's]);refine ⟨by rw[Array.length_toList,hFs,hll],.inr ⟨blk,cap,_,by rw[hll],yAA _,zx4 hg,by rw[hll];exact hnc,hcm,by simp[putCells,hcs],?_⟩⟩;rw[hll,<-hFs];exact zwZ (by rw[hFs,hcs];exact yAs k hnc)
  ·intro i x hi;have hi2:i<d'.size:=by rw[hd's,<-hll];exact (yAc.1 hi).1
   rw[<-hl',yAh,Array.getElem?_toList,yCe hi2,yAg,yAf] at hi;subst hi;show DR un _ _ [u] _ (((flatK enc k d').toList.drop (i*k)).take k);rw[zye hlenk d' hi2,getElem!_pos d' i hi2];exact ((hdr d'[i]).mono (hge m os d')).mono ⟨λ_ _ h=>.inl h,λ_ _ _=>rfl⟩
 ·have hx:=hok.2.1 l[x] (yAy _) l[y] (yAy _);obtain ⟨r,hr⟩:=Option.isSome_iff_exists.1 hx;have hcf:cf x y=eI (Pe.hd r):=by
   show zx1 orc g u l[x] l[y]=_;unfold zx1;rw[hr]
  have hsat:=hso.d g _ _ r hr D (Go.Proofs.sortWorldK enc k w blk 0 m dk os) [zbF u (enc x),zbF u (enc y)] (λi o hi=>by rw[zxd];have:=hD i o hi;omega) (by simp only[RepL,and_true];exact ⟨zld ((hdr x).mono (hge m os dk)),zld ((hdr y).mono (hge m os dk))⟩);refine (Dr.calls_le hsat λe w' ⟨v,h1,_⟩=>⟨v,h1⟩).mono λe w' hz=>?_;obtain ⟨⟨v,rfl,hb,hrep⟩,hdrw⟩:=hz;have hv:v= .int .i64 (eI (Pe.hd r)):=hrep;subst hv;obtain ⟨q,os',rfl⟩:=Dr.grown_of hb hdrw;exact ⟨by rw[hcf],q,os',rfl⟩
end
end Pe
namespace Pe
open Go Go.RowKit Go.Sort
variable{S:Nat->Type}{P:Program}{ρ:Go.Shelf.Ren}
theorem zw3{α:Type}[Inhabited α](enc:α->Value)(d:Array α):flatK (λx=>[enc x]) 1 d=d.map enc:=by
 apply Array.ext (by simp);intro i h1 h2;have hi:i<d.size:=by simpa using h2
 have:=get_flatK (λx=>[enc x]) 1 d i (by omega);rw[getElem!_pos (flatK (λx=>[enc x]) 1 d) i h1] at this;rw[this];simp[Nat.mod_one,hi]
theorem zw9{α:Type}[Inhabited α](enc:α->Value)(d:Array α)(off:Nat)(c:Array Value):putCells enc off d c=putCells id off (flatK (λx=>[enc x]) 1 d) c:=by
 rw[zw3];unfold putCells;congr 1;funext k x;simp only[Array.size_map,id_eq];split;·rename_i h;rw[getElem!_pos (d.map enc) (k - off) (by simp;omega),getElem!_pos d (k - off) (by omega),Array.getElem_map]
 ·rfl
theorem zxV{α:Type}[Inhabited α](enc:α->Value)(w:World)(blk off m:Nat)(d:Array α)(os:Array Obj):Go.Proofs.sortWorld enc w blk off m d os=Go.Proofs.sortWorldK (λx=>[enc x]) 1 w blk off m d os:=by show grow (mapBlock _ blk (putCells enc off d)) os=grow (mapBlock _ blk (putCells id off _)) os;rw[show putCells enc off d=putCells id off (flatK (λx=>[enc x]) 1 d) from funext λc=>zw9 enc d off c]
theorem zxI{α:Type}[Inhabited α](enc:α->Value)(w:World)(blk off:Nat)(d:Array α)(h:HoldsK (λx=>[enc x]) 1 w blk off d):Go.Sort.Holds enc w blk off d:=by intro j hj;have:=h j (by rw[zw3];simpa using hj);rw[zw3,id_eq,getElem!_pos (d.map enc) j (by simpa using hj),Array.getElem_map] at this;rw[getElem!_pos d j hj];exact this
theorem zxe(L:Go.Proofs.SlLaysF.n6 P ρ){g:FuncId}(eg:∀args w,(callFunc g args).run P w= .ok (.enter g args) w){arg:List Value->Value}(harg:∀v,arg [v]=v):zxK P (ρ.f 6) g 1 arg:=by
 intro α _ enc cf hk h1 hO blk cap d w hc hH hb hs;obtain ⟨enc1,rfl⟩:∃enc1:α->Value,enc=λx=>[enc1 x]:=by
  refine ⟨λx=>(enc x).headD undef,funext λx=>?_⟩;have h:=hk x;show enc x=[(enc x).headD undef];generalize enc x=z at h
  match z,h with
  |[v],_=>rfl
 simp only[harg] at hc;refine (Go.Proofs.Any.slices_SortFunc L enc1 (λx=>h1 x _ (by simp)) cf hO g #[] blk 0 cap d w eg (λm os dk hdk x y=>?_) (zxI _ _ _ _ _ hH) hb hs).mono λe w' hz=>?_;·rw[zxV];exact hc m os dk hdk x y
 ·obtain ⟨he,d',n,os,h2,h3,h4⟩:=hz;exact ⟨he,d',n,os,h2,h3,by rw[h4,zxV]⟩
end Pe
end
section
/- slices.Sort at whole numbers, out of the kit's zf1, as a function that zaW into the row that it is given. -/
set_option maxRecDepth 100000
namespace Pe
open Go Go.RowKit Go.Sort
variable{S:Nat->Type}{P:Program}{un:Uni S}
theorem zya{D:Dat}{w:World}{x:Int}{cc:List Value}(h:DR (S:=S) un D w [.int .i64] (sg (u:= .int .i64) x) cc):cc=[.int .i64 x]:=by
 cases h with
 |int h'=>cases h';rfl
theorem zxt{f:FuncId}{T:TypeId}{l:List Int}(hl:l.length<=lim)
  (hcon:∀(blk off cap:Nat)(zs:List Int)(w:World),Go.Sort.Holds (Value.int .i64) w blk off zs.toArray->blk<w.heap.size->zs.length<4611686018427387904 ->
   Calls P f #[.slice (some ⟨blk,off,none⟩) zs.length cap] w λe w'=>e= .returned (.tuple #[])/\∃n os,w'=grow (putRow (Value.int .i64) (Go.Sort.ahead w n) blk off (zs.mergeSort λx y=>decide (x<=y)).toArray) os)
  (hnone:∀(p:Option Addr)(cap:Nat)(w:World),Calls P f #[.slice p 0 cap] w λe w'=>e= .returned (.tuple #[])/\w'=w) :
  zyj P un f (.int .i64) T [] l (l.mergeSort λx y=>decide (x<=y)):=by
 intro D w v xs vs hD hown hfree hseg hargs;have hvs:vs=[]:=by cases vs with
  |nil=>rfl|cons=>simp[RepL] at hargs
 subst hvs;have hperm:=List.mergeSort_perm l λx y=>decide (x<=y);have hlen':(l.mergeSort λx y=>decide (x<=y)).length=l.length:=hperm.length_eq;have hcon:=λblk cap w h1 h2=>hcon blk 0 cap l w h1 h2 (by unfold lim at hl;omega);generalize l.mergeSort (λx y=>decide (x<=y))=l' at hperm hlen' hcon ⊢;have hnx:xs.length=l.length:=hown.1.trans (yBj _);have hxs:xs=l.map (Value.int .i64):=by
  apply List.ext_getElem;·rw[hnx,yBi]
  ·intro i h1 h2;have hi:i<l.length:=by simpa using h2
   have h3:=zya (hseg i l[i] (yAe hi));have h4:=congrArg (λc=>c[0]?) h3;simp only[U.size,yBj,yAt Nat.zero_lt_one,yAu,yBu,List.getElem?_cons_zero] at h4;rw[yAe h1] at h4;simpa using h4
 by_cases hn:l.length=0
 ·obtain rfl:l=[]:=yAU.1 hn;obtain rfl:l'=[]:=yAU.1 hlen';obtain ⟨hlen,hh⟩:=hown;obtain rfl:xs=[]:=by rw[hxs];rfl
  obtain ⟨p,cap,rfl⟩:∃p cap,v= .slice p 0 cap:=by
   rcases hh with ⟨rfl,_⟩|⟨gb,cap,cur,rfl,_⟩;·exact ⟨_,_,rfl⟩
   ·exact ⟨_,_,rfl⟩
  refine (hnone p cap w).mono λe w' hz=>?_;obtain ⟨rfl,rfl⟩:=hz;exact ⟨rfl,Wl.Grow.refl _ _,[],rfl,⟨hlen,hh⟩,λi x hi=>by cases hi⟩
 have htk0:=hown;obtain ⟨hlen,⟨_,hn0⟩|⟨blk,cap,cur,rfl,_,hg,hnc,hcm,hcs,htk⟩⟩:=hown;·exact absurd hn0 hn
 have hblk:blk<w.heap.size:=(yAE.1 hg).1;have hH:Go.Sort.Holds (Value.int .i64) w blk 0 l.toArray:=by
  intro j hj;have hj':j<l.length:=by simpa using hj
  refine ⟨?_,by simp[World.frozen?,hg]⟩;have h1:(cur.toList.take l.length)[j]?=(l.map (Value.int .i64))[j]? :=by rw[<-hxs];exact congrArg (λz:List Value=>z[j]?) ((congrArg (λm=>cur.toList.take m) (yBj _).symm).trans htk)
  rw[yAt hj'] at h1;simp only[World.cell?,hg,yAJ];simp only[Option.isSome_none,yBW,if_false];rw[<-Array.getElem?_toList,h1];simp[hj']
 refine (hcon blk cap w hH hblk).mono λe w' hz=>?_;obtain ⟨rfl,n,os,rfl⟩:=hz;have hnew:(grow (putRow (Value.int .i64) (Go.Sort.ahead w n) blk 0 l'.toArray) os).heap[blk]?=some (.cells (putCells (Value.int .i64) 0 l'.toArray cur) T (0,0)):=by rw[heap_grow_old _ _ (by simpa using hblk)];simp[putRow,mapBlock,Go.Sort.ahead,yB1,hg,onCells]
 have hoth:∀k,k<w.heap.size->k≠blk->(grow (putRow (Value.int .i64) (Go.Sort.ahead w n) blk 0 l'.toArray) os).heap[k]?=w.heap[k]? :=λk hk hne=>by rw[heap_grow_old _ _ (by simpa using hk)];simp[putRow,mapBlock,Go.Sort.ahead,yB1,Ne.symm hne]
 have htk2:(putCells (Value.int .i64) 0 l'.toArray cur).toList.take l'.length=l'.map (Value.int .i64):=by
  have hc:l'.length<=cur.size:=by rw[hcs,hlen'];exact yAo hnc (Nat.le_of_eq (yBj _).symm)
  apply yAW;intro j;by_cases hj:j<l'.length;·rw[yAt hj,Array.getElem?_toList];simp[putCells,hj,show j<cur.size by omega]
  ·rw[List.getElem?_take_eq_none (by omega),yAZ (by simp;omega)]
 refine ⟨rfl,⟨rfl,rfl,rfl,by simp,λi hi hne=>hoth i hi λhe=>hne (by subst he;simp[Value.ownBlock])⟩,l'.map (Value.int .i64),hlen',⟨by rw[yBi];exact (yBj _).symm,.inr ⟨blk,cap,_,congrArg (λm=>Value.slice (some ⟨blk,0,none⟩) m cap) hlen'.symm,yAA _,hnew,yAo (Nat.le_of_eq hlen') hnc,hcm,by simp[putCells,hcs],(congrArg (λm=>(putCells (Value.int .i64) 0 l'.toArray cur).toList.take m) (yBj _)).trans htk2⟩⟩,λi x hi=>?_⟩;have hi2:i<l'.length:=(yAc.1 hi).1;have hc:((l'.map (Value.int .i64)).drop (i*U.size un (.int .i64))).take (U.size un (.int .i64))=[.int .i64 x]:=by rw[show i*U.size un (.int .i64)=i from yBj _,show U.size un (.int .i64)=1 from rfl,yAV (by simpa using hi2)];have:l'[i]=x:=yAS ((yAe hi2).symm.trans hi);simp[this]
 rw[hc];exact .int .nil
end Pe
end
