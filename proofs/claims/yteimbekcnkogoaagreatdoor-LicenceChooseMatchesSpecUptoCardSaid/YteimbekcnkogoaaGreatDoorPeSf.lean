/- slices.SortFunc, out of the kit's contract, as a function that writes into the row that it is given: what it leaves is the sorted list, where the comparison is an order of the row's elements. -/
import Derived.Test.YteimbekcnkogoaaGreatDoorNm
import Derived.Shelf.SlSortCmp.NoneTotal
import Derived.Test.YteimbekcnkogoaaGreatDoorPeE
import Derived.Test.YteimbekcnkogoaaGreatDoorPeDr
set_option maxRecDepth 100000
namespace Pe
open Go Go.RowKit Go.Sort
variable {S:Nat→Type}
structure OrdOn {α:Type} (l:List α) (c:α→α→Int):Prop where
 irr:∀x∈l,¬c x x<0
 trans:∀x∈l,∀y∈l,∀z∈l,c x y<0→c y z<0→c x z<0
 eq:∀x∈l,∀y∈l,¬c x y<0→¬c y x<0→x=y
theorem OrdOn.sub {α:Type} {l l':List α} {c:α→α→Int} (h:OrdOn l c) (hs:∀x∈l',x∈l):OrdOn l' c :=
 ⟨fun x hx=>h.irr x (hs x hx),fun x hx y hy z hz=>h.trans x (hs x hx) y (hs y hy) z (hs z hz),fun x hx y hy=>h.eq x (hs x hx) y (hs y hy)⟩
theorem OrdOn.ntrans {α:Type} {l:List α} {c:α→α→Int} (h:OrdOn l c) {x y z:α} (hx:x∈l) (hy:y∈l) (hz:z∈l) (h1:¬c x y<0) (h2:¬c y z<0):¬c x z<0:=by
 intro h3
 by_cases h4:c y x<0
 ·exact h2 (h.trans y hy x hx z hz h4 h3)
 ·have:=h.eq x hx y hy h1 h4
  subst this
  exact h2 h3
def ztt {α:Type} (c:α→α→Int) (x:α):List α→List α
 | []=>[x]
 | y::r=>if c y x<0 then y::ztt c x r else x::y::r
def zdi {α:Type} (c:α→α→Int):List α→List α
 | []=>[]
 | x::r=>ztt c x (zdi c r)
def zqx {α:Type} (c:α→α→Int) (l:List α):Prop:=l.Pairwise fun x y=>¬c y x<0
theorem zhZ {α:Type} (c:α→α→Int) (x:α):∀l:List α,(ztt c x l).Perm (x::l)
 | []=>List.Perm.refl _
 | y::r=>by
   unfold ztt
   split
   ·exact ((zhZ c x r).cons y).trans (List.Perm.swap x y r)
   ·exact List.Perm.refl _
theorem zbc {α:Type} (c:α→α→Int):∀l:List α,(zdi c l).Perm l
 | []=>List.Perm.refl _
 | x::r=>(zhZ c x _).trans ((zbc c r).cons x)
theorem znt {α:Type} {c:α→α→Int} {x:α}:∀{l:List α},OrdOn (x::l) c→zqx c l→zqx c (ztt c x l)
 | [],_,_=>yAT _ _
 | y::r,h,ha=>by
   obtain ⟨h1,h2⟩:=yAE.1 ha
   unfold ztt
   split
   ·rename_i hlt
    refine yAE.2 ⟨fun z hz=> ?_,znt (h.sub (by simp;intro z hz;exact .inr (.inr hz))) h2⟩
    rcases yAj.1 ((zhZ c x r).mem_iff.1 hz) with rfl | hz
    ·intro h3
     exact h.irr y (by simp) (h.trans y (by simp) _ (by simp) y (by simp) hlt h3)
    ·exact h1 z hz
   ·rename_i hge
    refine yAE.2 ⟨fun z hz=> ?_,ha⟩
    rcases yAj.1 hz with rfl | hz
    ·exact hge
    ·exact h.ntrans (by simp [hz]) (by simp) (by simp) (h1 z hz) hge
theorem zfE {α:Type} {c:α→α→Int}:∀{l:List α},OrdOn l c→zqx c (zdi c l)
 | [],_=>List.Pairwise.nil
 | x::r,h=>znt (h.sub (by
    intro z hz
    rcases yAj.1 hz with rfl | hz
    ·simp
    ·exact yBL _ ((zbc c r).mem_iff.1 hz))) (zfE (h.sub fun z hz=>yBL _ hz))
theorem zgL {α:Type} {c:α→α→Int}:∀{a b:List α},OrdOn a c→zqx c a→zqx c b→a.Perm b→a=b
 | [],b,_,_,_,hp=>(List.Perm.nil_eq hp)
 | x::r,[],_,_,_,hp=>by simpa using hp.length_eq
 | x::r,y::t,h,ha,hb,hp=>by
   obtain ⟨a1,a2⟩:=yAE.1 ha
   obtain ⟨b1,b2⟩:=yAE.1 hb
   have hx:x∈y::t:=hp.mem_iff.1 (by simp)
   have hy:y∈x::r:=hp.mem_iff.2 (by simp)
   have hxy:x=y:=by
    rcases yAj.1 hx with e | hx2
    ·exact e
    ·rcases yAj.1 hy with e | hy2
     ·exact e.symm
     ·exact h.eq x (by simp) y hy (b1 x hx2) (a1 y hy2)
   subst hxy
   rw [zgL (h.sub fun z hz=>yBL _ hz) a2 b2 (List.perm_cons x |>.1 hp)]
theorem zmQ {α:Type} {c:α→α→Int} {l l':List α} (h:OrdOn l c) (hp:l'.Perm l) (ha:zqx c l'):zdi c l=l' :=
 zgL (h.sub fun _ hx=>(zbc c l).mem_iff.1 hx) (zfE h) ha ((zbc c l).trans hp.symm)
section
variable {P:Program} {un:Uni S} {D:Dat} {w:World}
def zkh (o:Orc S) (g:FuncId) (u:U) (x y:El S u):Int:=match o.d g [inj u x,inj u y] [.int .i64] with
 | some r=>eI (hd r)
 | none=>0
def zr8 (o:Orc S) (g:FuncId) (u:U) (l:List (El S u)):Prop:=l.length≤lim∧(∀x∈l,∀y∈l,(o.d g [inj u x,inj u y] [.int .i64]).isSome=true)∧OrdOn l (zkh o g u)
open Classical in
noncomputable def zef (o:Orc S) (g:FuncId) (u:U) (l:List (El S u)):Option (List (El S u)):=if zr8 o g u l then some (zdi (zkh o g u) l) else none
theorem zjq {o:Orc S} {g:FuncId} {u:U} {l l':List (El S u)} {c:El S u→El S u→Int} (h:∀x∈l,∀y∈l,@Eq (Option (Int×Unit)) (o.d g [inj u x,inj u y] [.int .i64]) (some (c x y,()))) (ho:OrdOn l c) (hlim:l.length≤lim) (hl:zdi c l=l'):zef o g u l=some l':=by
 have hc:∀x∈l,∀y∈l,zkh o g u x y=c x y:=by
  intro x hx y hy
  unfold zkh
  have:=h x hx y hy
  have h2:o.d g [inj u x,inj u y] [.int .i64]=some (c x y,()):=this
  rw [h2];rfl
 have ho2:OrdOn l (zkh o g u):=⟨fun x hx=>by rw [hc x hx x hx];exact ho.irr x hx,fun x hx y hy z hz h1 h2=>by
  rw [hc x hx y hy] at h1;rw [hc y hy z hz] at h2;rw [hc x hx z hz];exact ho.trans x hx y hy z hz h1 h2,fun x hx y hy h1 h2=>by
  rw [hc x hx y hy] at h1;rw [hc y hy x hx] at h2;exact ho.eq x hx y hy h1 h2⟩
 have hk:zr8 o g u l:=⟨hlim,fun x hx y hy=>by have h2:o.d g [inj u x,inj u y] [.int .i64]=some (c x y,()):=h x hx y hy;rw [h2];rfl,ho2⟩
 unfold zef
 rw [if_pos hk]
 congr 1
 refine zmQ ho2 ((hl▸zbc c l)) ?_
 have ha:zqx c l':=hl▸zfE ho
 have hm:∀x∈l',x∈l:=fun x hx=>by rw [←hl] at hx;exact (zbc c l).mem_iff.1 hx
 refine List.Pairwise.imp_of_mem ?_ ha
 intro a b hma hmb hab
 rw [hc b (hm b hmb) a (hm a hma)]
 exact hab
def zmC (P:Program) (f g:FuncId) (k:Nat) (arg:List Value→Value):Prop :=
 ∀(α:Type) [Inhabited α] (enc:α→List Value) (cf:α→α→Int),(∀x,(enc x).length=k)→(∀x,∀v∈enc x,v.oneCell'=true)→SWO (Go.Proofs.ltOf cf)→∀(blk cap:Nat) (d:Array α) (w:World),
  (∀(m:Nat) (os:Array Obj) (dk:Array α),dk.size=d.size→∀x y:α,Calls P g #[arg (enc x),arg (enc y)] (Go.Proofs.sortWorldK enc k w blk 0 m dk os) fun e w'=>e= .returned (.int .i64 (cf x y))∧∃q os',w'=grow ((Go.Proofs.sortWorldK enc k w blk 0 m dk os).drewN q) os') →
  HoldsK enc k w blk 0 d→blk<w.heap.size→d.size<4611686018427387904 →
  Calls P f #[.slice (some ⟨blk,0,none⟩) d.size cap,.func (.func g) #[] #[]] w fun e w'=>e= .returned (.tuple #[])∧∃d' n os,PermIn 0 d.size d d'∧SortedIn (Go.Proofs.ltOf cf) 0 d.size d'∧w'=Go.Proofs.sortWorldK enc k w blk 0 n d' os
theorem zmM {α:Type} [Inhabited α] {enc:α→List Value} {k:Nat} {w:World} {blk m:Nat} {dk:Array α} {os:Array Obj} {i:Nat} (hi:i<w.heap.size) (hb:i≠blk):(Go.Proofs.sortWorldK enc k w blk 0 m dk os).heap[i]? =w.heap[i]? :=by
 show ((w.heap.modify blk _)++os)[i]? =_
 rw [yCp,if_pos (by simpa using hi),yBx,if_neg (Ne.symm hb)]
theorem zsn {α:Type} [Inhabited α] {enc:α→List Value} {k:Nat} {w:World} {blk m:Nat} {dk:Array α} {os:Array Obj} {cur:Array Value} {T:TypeId} {fz:Nat×Nat} (h:w.heap[blk]? =some (.cells cur T fz)):(Go.Proofs.sortWorldK enc k w blk 0 m dk os).heap[blk]? =some (.cells (putCells id 0 (flatK enc k dk) cur) T fz):=by
 have hi:=(yAz.1 h).1
 show ((w.heap.modify blk _)++os)[blk]? =_
 rw [yCp,if_pos (by simpa using hi),yBx,if_pos rfl,h]
 rfl
theorem zo4 {α:Type} [Inhabited α] {enc:α→List Value} {k:Nat} {w:World} {blk m:Nat} {dk:Array α} {os:Array Obj}:(Go.Proofs.sortWorldK enc k w blk 0 m dk os).heap.size=w.heap.size+os.size:=by
 show ((w.heap.modify blk _)++os).size=_
 simp
theorem zjB {F cur:Array Value} (h:F.size≤cur.size):(putCells id 0 F cur).toList.take F.size=F.toList:=by
 apply yAP
 intro i
 rw [yAF]
 by_cases hi:i<F.size
 ·rw [if_pos hi]
  simp only [yBw,putCells,Array.getElem?_mapIdx,yAD,yA0,hi,and_self,if_true,id_eq,Nat.sub_zero]
  rw [yBh (show i<cur.size by omega),yAg,yBh hi,getElem!_pos F i hi]
 ·rw [if_neg hi,yBw,Array.getElem?_eq_none (by omega)]
theorem zs2 {α:Type} [Inhabited α] {enc:α→List Value} {k:Nat} (hk:∀x,(enc x).length=k) (d:Array α) {i:Nat} (hi:i<d.size):((flatK enc k d).toList.drop (i*k)).take k=enc d[i]! :=by
 have hle:i*k+k≤d.size*k:=by have:=yAm k (show i+1≤d.size from hi);rwa [yAw,yAN] at this
 apply yAP
 intro c
 rw [yAF]
 by_cases hc:c<k
 ·rw [if_pos hc,yAu,yBw,yBh (by rw [size_flatK];omega),←getElem!_pos,get_flatK _ _ _ _ (by omega)]
  have e1:(i*k+c) / k=i:=(blk_iff k i _ (by omega)).1 ⟨by omega,by omega⟩
  have e2:(i*k+c) % k=c:=by rw [Nat.mod_eq_sub_div_mul,e1];omega
  rw [e1,e2,yAe (by rw [hk];exact hc),getElem!_pos _ c (by rw [hk];exact hc)]
 ·rw [if_neg hc,yA6 (by rw [hk];omega)]
theorem zfD {orc:Orc S} (hso:SoundO P un orc) {f g:FuncId} {u:U} {T:TypeId} {l l':List (El S u)} (hcon:zmC P f g (U.size un u) (zbv u))
  (hnone:∀(p:Option Addr) (cap:Nat) (fv:Value) (w:World),Calls P f #[.slice p 0 cap,fv] w fun e w'=>e= .returned (.tuple #[])∧w'=w) (h:zef orc g u l=some l'):zub P un f u T [.func (.func g) [] []] l l':=by
 intro D w v xs vs hD hown hfree hseg hargs
 unfold zef at h
 split at h
 case isFalse=>cases h
 rename_i hok
 simp only [yAf] at h
 have hvs:vs=[.func (.func g) #[] #[]]:=by
  match vs,hargs with
  | [],hargs=>simp [RepL] at hargs
  | [y],hargs =>
    simp only [RepL,Rep,and_true] at hargs
    obtain ⟨a,c,rfl,ha,hc⟩:=hargs
    cases a with
    | nil=>cases c with
      | nil=>rfl
      | cons=>simp [RepL] at hc
    | cons=>simp [RepL] at ha
  | _::_::_,hargs=>simp [RepL] at hargs
 subst hvs
 by_cases hn:l.length=0
 ·have hl:l=[]:=yAJ.1 hn
  subst hl
  have hl':l'=[]:=h.symm
  subst hl'
  obtain ⟨hlen,hh⟩:=hown
  have hx:xs=[]:=yAJ.1 (by rw [hlen];simp)
  subst hx
  obtain ⟨p,cap,rfl⟩:∃p cap,v= .slice p 0 cap:=by
   rcases hh with ⟨rfl,_⟩ | ⟨gb,cap,cur,rfl,_⟩
   ·exact ⟨_,_,rfl⟩
   ·exact ⟨_,_,rfl⟩
  refine (hnone p cap _ w).mono fun e w' hz=> ?_
  obtain ⟨rfl,rfl⟩:=hz
  exact ⟨rfl,Wl.Grow.refl _ _,[],rfl,⟨hlen,hh⟩,fun i x hi=>by simp at hi⟩
 obtain ⟨hlen,⟨_,hn0⟩ | ⟨blk,cap,cur,rfl,_,hg,hnc,hcm,hcs,htk⟩⟩:=hown
 ·exact absurd hn0 hn
 have hblk:blk<w.heap.size:=(yAz.1 hg).1
 let n:=l.length
 let k:=U.size un u
 have:Inhabited (Fin n):=⟨⟨0,Nat.pos_of_ne_zero hn⟩⟩
 let enc:Fin n→List Value:=fun i=>(xs.drop (i.val*k)).take k
 let cf:Fin n→Fin n→Int:=fun i j=>zkh orc g u l[i] l[j]
 have hlenk:∀i:Fin n,(enc i).length=k:=by
  intro i
  have hle:i.val*k+k≤n*k:=by have:=yAm k (show i.val+1≤n from i.isLt);rwa [yAw,yAN] at this
  simp only [enc,yA8,yA2,hlen]
  exact yBH (by show k≤n*k - _;omega)
 have hdr:∀i:Fin n,DR un D w [u] (sg l[i]) (enc i):=fun i=>hseg i.val _ (by simp)
 have hO:SWO (Go.Proofs.ltOf cf):=by
  have hm:∀i:Fin n,l[i]∈l:=fun i=>yAl _
  refine ⟨fun x=> ?_,fun x y z h1 h2=> ?_,fun x y z h1 h2=> ?_⟩
  ·simp only [Go.Proofs.ltOf,decide_eq_false_iff_not];exact hok.2.2.irr _ (hm x)
  ·simp only [Go.Proofs.ltOf,decide_eq_true_eq] at h1 h2 ⊢;exact hok.2.2.trans _ (hm x) _ (hm y) _ (hm z) h1 h2
  ·simp only [Go.Proofs.ltOf,decide_eq_false_iff_not] at h1 h2 ⊢;exact hok.2.2.ntrans (hm x) (hm y) (hm z) h1 h2
 let d:Array (Fin n):=Array.ofFn fun i=>i
 have hds:d.size=n:=Array.size_ofFn
 have hd:∀i (hi:i<n),d[i]! =⟨i,hi⟩:=fun i hi=>by
  rw [getElem!_pos d i (by rw [hds];exact hi)];simp [d]
 have hge:∀(m:Nat) (os:Array Obj) (dk:Array (Fin n)),Ge D w D (Go.Proofs.sortWorldK enc k w blk 0 m dk os):=fun m os dk =>
  ⟨fun _ _ h=>h,fun i o hi=>World.cell?_of_block (zmM (hD i o hi) fun he=>by subst he;exact hfree _ rfl o hi)⟩
 have hcell:∀t (ht:t<n*k),w.cell? ⟨blk,t,none⟩=some (xs[t]'(by rw [hlen];exact ht)):=by
  intro t ht
  have h1:cur[t]? =some (xs[t]'(by rw [hlen];exact ht)):=by
   rw [←yBw,←yAq (show t<n*k from ht),htk,yAe]
  simp only [World.cell?,hg];exact h1
 have hH:HoldsK enc k w blk 0 d:=by
  intro t ht
  rw [size_flatK,hds] at ht
  have hk0:0<k:=by rcases Nat.eq_zero_or_pos k with h0 | h0;· rw [h0] at ht;simp at ht
                   ·exact h0
  refine ⟨?_,by simp [World.frozen?,hg]⟩
  rw [yA0,hcell t ht]
  refine congrArg some (Eq.trans ?_ (get_flatK enc k d t (by rw [hds];exact ht)).symm)
  have ht2:t / k<n:=Nat.div_lt_of_lt_mul (by rwa [Nat.mul_comm] at ht)
  rw [hd _ ht2]
  have hm:t % k<(enc ⟨t / k,ht2⟩).length:=by rw [hlenk];exact Nat.mod_lt _ hk0
  rw [getElem!_pos (enc ⟨t / k,ht2⟩) (t % k) hm]
  have he:(t / k)*k+t % k=t:=by rw [Nat.mul_comm];exact Nat.div_add_mod t k
  simp only [enc,List.getElem_take,List.getElem_drop,he]
 have hcall:=hcon (Fin n) enc cf hlenk (fun x v hv=>(hdr x).one v hv) hO blk cap d w (fun m os dk hdk x y=> ?_) hH hblk (by rw [hds];have:=hok.1;unfold lim at this;show l.length<_;omega)
 ·rw [hds] at hcall
  refine hcall.mono fun e w' hz=> ?_
  obtain ⟨rfl,d',m,os,hp,hs,rfl⟩:=hz
  obtain ⟨hp1,_,hp3⟩:=hp
  have hd's:d'.size=n:=hp1.trans hds
  have hperm:d'.toList.Perm d.toList:=by
   have e0:∀(z:Array (Fin n)) (m:Nat),z.size=m→(z.extract 0 m).toList=z.toList:=fun z m hz=>by subst hz;simp
   rwa [e0 d' n hd's,e0 d n hds] at hp3
  have hmapd:d.toList.map (fun i:Fin n=>l[i])=l:=by
   apply yAP
   intro i
   simp only [yAh,yBw,d,Array.getElem?_ofFn]
   by_cases hi:i<l.length
   ·rw [dif_pos hi,yAe hi];rfl
   ·rw [dif_neg hi,yA6 (Nat.le_of_not_lt hi)];rfl
  have hl':d'.toList.map (fun i:Fin n=>l[i])=l':=by
   rw [←h]
   refine (zmQ hok.2.2 ?_ ?_).symm
   ·have:=hperm.map fun i:Fin n=>l[i]
    rwa [hmapd] at this
   ·unfold zqx
    rw [yBY,yAH]
    intro i j hi hj hij
    have hj2:j<n:=by rw [←hd's];simpa using hj
    have:=hs i j (yAD _) hij hj2
    rw [getElem!_pos d' j (by rw [hd's];exact hj2),getElem!_pos d' i (by rw [hd's];omega)] at this
    simpa [Go.Proofs.ltOf,cf] using this
  have hll:l'.length=n:=by rw [←hl'];simp [hd's]
  refine ⟨rfl,⟨rfl,rfl,rfl,by rw [zo4];omega,fun i hi hne=>zmM hi fun he=>hne (by subst he;simp [Value.ownBlock])⟩,(flatK enc k d').toList,hll,?_,?_⟩
  ·have hFs:(flatK enc k d').size=n*k:=by rw [size_flatK,hd's]
   refine ⟨by rw [Array.length_toList,hFs,hll],.inr ⟨blk,cap,_,by rw [hll],yAD _,zsn hg,by rw [hll];exact hnc,hcm,by simp [putCells,hcs],?_⟩⟩
   rw [hll,←hFs]
   exact zjB (by rw [hFs,hcs];exact yAm k hnc)
  ·intro i x hi
   have hi2:i<d'.size:=by rw [hd's,←hll];exact (yAb.1 hi).1
   rw [←hl',yAh,yBw,yBh hi2,yAg,yAf] at hi
   subst hi
   show DR un _ _ [u] _ (((flatK enc k d').toList.drop (i*k)).take k)
   rw [zs2 hlenk d' hi2,getElem!_pos d' i hi2]
   exact ((hdr d'[i]).mono (hge m os d')).mono ⟨fun _ _ h=> .inl h,fun _ _ _=>rfl⟩
 ·have hx:=hok.2.1 l[x] (yAl _) l[y] (yAl _)
  obtain ⟨r,hr⟩:=Option.isSome_iff_exists.1 hx
  have hcf:cf x y=eI (Pe.hd r):=by
   show zkh orc g u l[x] l[y]=_
   unfold zkh;rw [hr]
  have hsat:=hso.d g _ _ r hr D (Go.Proofs.sortWorldK enc k w blk 0 m dk os) [zbv u (enc x),zbv u (enc y)] (fun i o hi=>by rw [zo4];have:=hD i o hi;omega) (by
   simp only [RepL,and_true]
   exact ⟨zev ((hdr x).mono (hge m os dk)),zev ((hdr y).mono (hge m os dk))⟩)
  refine (Dr.calls_le hsat fun e w' ⟨v,h1,_⟩=>⟨v,h1⟩).mono fun e w' hz=> ?_
  obtain ⟨⟨v,rfl,hb,hrep⟩,hdrw⟩:=hz
  have hv:v= .int .i64 (eI (Pe.hd r)):=hrep
  subst hv
  obtain ⟨q,os',rfl⟩:=Dr.grown_of hb hdrw
  exact ⟨by rw [hcf],q,os',rfl⟩
end
end Pe
namespace Pe
open Go Go.RowKit Go.Sort
variable {S:Nat→Type} {P:Program} {ρ:Go.Shelf.Ren}
theorem ziE (L:Go.Proofs.SlLaysF0.n6 P ρ) {k:Nat} (aE:∀w,(isAgg (ρ.t 24)).run P w= .ok true w) (zE:∀w,(Go.sizeOf (ρ.t 24)).run P w= .ok k w) {g:FuncId} (eg:∀args w,(callFunc g args).run P w= .ok (.enter g args) w) (n:Nat):zmC P (ρ.f 6) g k (zbv (.st n)) :=
 fun _ _ enc cf hk h1 hO blk cap d w hc hH hb hs=>Go.Proofs.AnyQ.slices_SortFunc L k aE zE enc hk h1 cf hO g #[] blk 0 cap d w eg hc hH hb hs
theorem zj2 {α:Type} [Inhabited α] (enc:α→Value) (d:Array α):flatK (fun x=>[enc x]) 1 d=d.map enc:=by
 apply Array.ext (by simp)
 intro i h1 h2
 have hi:i<d.size:=by simpa using h2
 have:=get_flatK (fun x=>[enc x]) 1 d i (by omega)
 rw [getElem!_pos (flatK (fun x=>[enc x]) 1 d) i h1] at this
 rw [this]
 simp [Nat.mod_one,hi]
theorem zkT {α:Type} [Inhabited α] (enc:α→Value) (d:Array α) (off:Nat) (c:Array Value):putCells enc off d c=putCells id off (flatK (fun x=>[enc x]) 1 d) c:=by
 rw [zj2]
 unfold putCells
 congr 1
 funext k x
 simp only [Array.size_map,id_eq]
 split
 ·rename_i h
  rw [getElem!_pos (d.map enc) (k - off) (by simp;omega),getElem!_pos d (k - off) (by omega),Array.getElem_map]
 ·rfl
theorem zrO {α:Type} [Inhabited α] (enc:α→Value) (w:World) (blk off m:Nat) (d:Array α) (os:Array Obj):Go.Proofs.sortWorld enc w blk off m d os=Go.Proofs.sortWorldK (fun x=>[enc x]) 1 w blk off m d os:=by
 show grow (mapBlock _ blk (putCells enc off d)) os=grow (mapBlock _ blk (putCells id off _)) os
 rw [show putCells enc off d=putCells id off (flatK (fun x=>[enc x]) 1 d) from funext fun c=>zkT enc d off c]
theorem zpP {α:Type} [Inhabited α] (enc:α→Value) (w:World) (blk off:Nat) (d:Array α) (h:HoldsK (fun x=>[enc x]) 1 w blk off d):Go.Sort.Holds enc w blk off d:=by
 intro j hj
 have:=h j (by rw [zj2];simpa using hj)
 rw [zj2,id_eq,getElem!_pos (d.map enc) j (by simpa using hj),Array.getElem_map] at this
 rw [getElem!_pos d j hj]
 exact this
theorem zhv (L:Go.Proofs.SlLaysF.n6 P ρ) {g:FuncId} (eg:∀args w,(callFunc g args).run P w= .ok (.enter g args) w) {arg:List Value→Value} (harg:∀v,arg [v]=v):zmC P (ρ.f 6) g 1 arg:=by
 intro α _ enc cf hk h1 hO blk cap d w hc hH hb hs
 obtain ⟨enc1,rfl⟩:∃enc1:α→Value,enc=fun x=>[enc1 x]:=by
  refine ⟨fun x=>(enc x).headD undef,funext fun x=> ?_⟩
  have h:=hk x
  show enc x=[(enc x).headD undef]
  generalize enc x=z at h
  match z,h with
  | [v],_=>rfl
 simp only [harg] at hc
 refine (Go.Proofs.Any.slices_SortFunc L enc1 (fun x=>h1 x _ (by simp)) cf hO g #[] blk 0 cap d w eg (fun m os dk hdk x y=> ?_) (zpP _ _ _ _ _ hH) hb hs).mono fun e w' hz=> ?_
 ·rw [zrO];exact hc m os dk hdk x y
 ·obtain ⟨he,d',n,os,h2,h3,h4⟩:=hz
  exact ⟨he,d',n,os,h2,h3,by rw [h4,zrO]⟩
end Pe
