/- PROVED HERE: a part of the seat's proofs; see the text that holds the claim's theorem. -/
import Derived.Test.YtojfjgjdheiffaaGreatDoorNm
import Derived.Test.YtojfjgjdheiffaaGreatDoorBoF
section
/- Refs of numbers, numbers of Refs. -/
set_option maxRecDepth 100000
namespace Pe
open Bfs Go
namespace Tryz
theorem zsm{x:Int}{n:Nat}(h:x=(n:Int))(hn:n<=4000000000):Go.IntKind.i64.wrap x=(n:Int):=by subst h;exact zaH (by omega) (by omega)
theorem midI{i j:Nat}(h:i+j<=4000000000):Go.IntKind.i64.wrap (zp9 .u64 (Go.IntKind.u64.wrap (Go.IntKind.i64.wrap ((i:Int)+(j:Int)))) 1)=(((i+j) / 2:Nat):Int):=by
 rw[show Go.IntKind.i64.wrap ((i:Int)+(j:Int))=((i+j:Nat):Int) from zsm (by omega) h];have e1:Go.IntKind.u64.wrap ((i+j:Nat):Int)=((i+j:Nat):Int):=by unfold Go.IntKind.wrap;simp[Go.IntKind.bits,Go.IntKind.signed];omega
 rw[e1];unfold zp9;have e2:(2:Int) ^ (min (1:Int).toNat Go.IntKind.u64.bits)=2:=by decide
 rw[e2];exact zsm (by rw[Int.fdiv_eq_ediv_of_nonneg _ (by decide)];omega) (by omega)
theorem zfV(p:Nat->Bool):∀l:List Nat,l.filterMap (λk=>if p k=true then some (k:Int) else none)=ofN (l.filter p)
 |[]=>rfl|k::l=>by
   rw[yAC];cases hp:p k with
   |true=>simp only[if_pos,List.filter_cons_of_pos hp];rw[zfV p l];rfl|false=>rw[yBR (by simp[hp]),<-zfV p l];rfl
def zbd(b:Gt.Bill)(l:List Nat):List By:=l.map (cR b)
theorem m59_eq'(orc:Orc Sx){b:Gt.Bill}{g:Gt.Gf}(hg:g.b=b)(_:b.components.length<=1000000){l:List Nat}(hl:∀i∈l,i<b.components.length)(hs:l.length<=1000000):m59 orc g (ofN l)=some (zbd b l,()):=by
 unfold m59;rw[zeF (f:=_) l (λi=>some (cR b i)) (λa=>(.inl (a,()):(List By×Unit)⊕(List By×Unit))) (λk hk a ha=>?_) λa=>?_]
 rotate_left
 ·dsimp only;have hi:=hl _ (yAy hk);rw[za2,show decide ((k:Int)<((l.length:Nat):Int))=true from by simp;exact hk,zac,ze1 hk,zaa,hg,zan hi,zaa,zbc (by simp[lim];omega),zaa,zaf hk (by omega),zcU hi]
 ·dsimp only;rw[za2,show decide (((l.length:Nat):Int)<((l.length:Nat):Int))=false from by simp,zab]
 rw[zaj];unfold zbd;rw[<-List.filterMap_eq_map];rfl
theorem m64_eq'(orc:Orc Sx){b:Gt.Bill}{w:Gt.Wb}(hg:w.refs=zbr b)(_:b.components.length<=1000000){l:List Nat}(hl:∀i∈l,i<b.components.length)(hs:l.length<=1000000):m64 orc w (ofN l)=some (zbd b l,()):=by
 unfold m64;rw[zeF (f:=_) l (λi=>some (cR b i)) (λa=>(.inl (a,()):(List By×Unit)⊕(List By×Unit))) (λk hk a ha=>?_) λa=>?_]
 rotate_left
 ·dsimp only;have hi:=hl _ (yAy hk);rw[za2,show decide ((k:Int)<((l.length:Nat):Int))=true from by simp;exact hk,zac,ze1 hk,zaa,hg,zan (by simpa[zbr] using hi),zaa,zbc (by simp[lim];omega),zaa,zaf hk (by omega),zcU hi];simp[zbr]
 ·dsimp only;rw[za2,show decide (((l.length:Nat):Int)<((l.length:Nat):Int))=false from by simp,zab]
 rw[zaj];unfold zbd;rw[<-List.filterMap_eq_map];rfl
def zyg(bs:List Bool):List Nat:=(List.range bs.length).filter λk=>bs.getD k false
theorem m65_eq'(orc:Orc Sx){bs:List Bool}(hs:bs.length<=1000000):m65 orc bs=some (ofN (zyg bs),()):=by
 unfold m65;rw[zeF (f:=_) (List.range bs.length) (λk=>if bs.getD k false=true then some (k:Int) else none) (λa=>(.inl (a,()):(List Int×Unit)⊕(List Int×Unit))) (λk hk a ha=>?_) λa=>?_]
 rotate_left
 ·dsimp only;have hk':k<bs.length:=by simpa using hk
  rw[show decide ((k:Int)<len bs)=true from by simp[len];exact hk',zac,zan hk',zaa,yBc,show bs.getD k false=bs[k] from by simp[hk'],zaf hk' (by omega)];cases hb:bs[k] with
  |true=>rw[zac,zbc (by simp[lim];omega),zaa,if_pos rfl]|false=>rw[zab,if_neg (by simp)]
 ·dsimp only;rw[yBe,show decide (((bs.length:Nat):Int)<len bs)=false from by simp[len],zab]
 rw[zaj];rw[zfV λk=>bs.getD k false];rfl
theorem m67_eq'(orc:Orc Sx)(h109:∀(c:Gt.Component) r,orc.d 109 [.st 5 c,.str r] [.int .i64]=(some (cS c.ref r,()):Option (Int×Unit))){b:Gt.Bill}(hb:Right b)(r:By) :
  (zbm b r->m67 orc b r=some ((num b r:Int),true,()))/\(¬zbm b r->∃k:Int,m67 orc b r=some (k,false,())):=by
 have hn:=hb.n;have key:∃p:Nat,p<=b.components.length/\(∀k,k<p->cR b k<r)/\(∀k,p<=k->k<b.components.length->¬cR b k<r)/\m67 orc b r=ob (br (decide ((p:Int)<len b.components)) (ob (at? b.components (p:Int)) λy6=>ob (α:=Int×Unit) (orc.d 109 [.st 5 y6,.str r] [I6]) λ(r7:Int×Unit)=>some (r7.1==0)) (some false)) λb8=>some ((p:Int),b8,()):=by
  have hl:∀(d lo hi:Nat),hi - lo<=d->lo<=hi->hi<=b.components.length->(∀k,k<lo->cR b k<r)->(∀k,hi<=k->k<b.components.length->¬cR b k<r) ->
    ∃p:Nat,p<=b.components.length/\(∀k,k<p->cR b k<r)/\(∀k,p<=k->k<b.components.length->¬cR b k<r) /\
    zak (σ:=Int×Int×Unit) (R:=(Int×Unit)⊕(Int×Bool×Unit)) (λ(t2:Int×Int×Unit)=>br (decide (t2.1<t2.2.1)) (ob (at? (Gt.Bill.components b) (IntKind.i64.wrap (zp9 .u64 (IntKind.u64.wrap (IntKind.i64.wrap (t2.1+t2.2.1))) 1))) λy3=>ob (α:=Int×Unit) (orc.d 109 [.st 5 y3,.str r] [I6]) λ(r4:Int×Unit)=>br (decide (r4.1<0)) (some (.inl (IntKind.i64.wrap ((IntKind.i64.wrap (zp9 .u64 (IntKind.u64.wrap (IntKind.i64.wrap (t2.1+t2.2.1))) 1))+1),t2.2.1,()))) (some (.inl (t2.1,IntKind.i64.wrap (zp9 .u64 (IntKind.u64.wrap (IntKind.i64.wrap (t2.1+t2.2.1))) 1),())))) (some (.inr (.inl (t2.1,()))))) ((lo:Int),(hi:Int),())=some (.inl ((p:Int),())):=by
   intro d;induction d with
   |zero =>
     intro lo hi hd hlh hhn h1 h2;have:lo=hi:=by omega
     subst this;refine ⟨lo,hhn,h1,h2,zaD ?_⟩;dsimp only;rw[show decide ((lo:Int)<(lo:Int))=false from by simp,zab]
   |succ d ih =>
     intro lo hi hd hlh hhn h1 h2;rcases yBJ hlh with rfl|hlt
     ·refine ⟨lo,hhn,h1,h2,zaD ?_⟩;dsimp only;rw[show decide ((lo:Int)<(lo:Int))=false from by simp,zab]
     ·have hm:(lo+hi) / 2<b.components.length:=(by omega);by_cases hc:cR b ((lo+hi) / 2)<r
      ·obtain ⟨p,q1,q2,q3,q4⟩:=ih ((lo+hi) / 2+1) hi (by omega) (by omega) hhn (λk hk=>by
        rcases yAT k ((lo+hi) / 2) with h3|h3;·exact yCa (hb.refs k _ h3 hm) hc
        ·have:k=(lo+hi) / 2:=by omega
         rw[this];exact hc) h2
       refine ⟨p,q1,q2,q3,(zaR ?_).trans q4⟩;dsimp only;rw[show decide ((lo:Int)<(hi:Int))=true from by simp;omega,zac,midI (by omega),zan hm,zaa,h109,zaa,<-zcU hm,show decide (cS (cR b ((lo+hi) / 2)) r<0)=true from by simpa using (zc4 _ _).2 hc,zac,zaH (by omega) (by omega)];rfl
      ·obtain ⟨p,q1,q2,q3,q4⟩:=ih lo ((lo+hi) / 2) (by omega) (by omega) (by omega) h1 (λk hk hkn hkr=>by
        rcases yAT ((lo+hi) / 2) k with h3|h3;·exact hc (yCa (hb.refs _ k h3 hkn) hkr)
        ·have:k=(lo+hi) / 2:=by omega
         rw[this] at hkr;exact hc hkr)
       refine ⟨p,q1,q2,q3,(zaR ?_).trans q4⟩;dsimp only;rw[show decide ((lo:Int)<(hi:Int))=true from by simp;omega,zac,midI (by omega),zan hm,zaa,h109,zaa,<-zcU hm,show decide (cS (cR b ((lo+hi) / 2)) r<0)=false from by simpa using λh=>hc ((zc4 _ _).1 h),zab]
  obtain ⟨p,q1,q2,q3,q4⟩:=hl b.components.length 0 b.components.length (by omega) (yAA _) (yAi _) (λk hk=>by omega) (λk hk hk'=>by omega);refine ⟨p,q1,q2,q3,?_⟩;unfold m67;rw[show len b.components=((b.components.length:Nat):Int) from rfl,show zak (σ:=Int×Int×Unit) (R:=(Int×Unit)⊕(Int×Bool×Unit)) _ (0,((b.components.length:Nat):Int),())=some (.inl ((p:Int),())) from q4,zaj];cases (br (decide ((p:Int)<((b.components.length:Nat):Int))) (ob (at? b.components (p:Int)) λy6=>ob (α:=Int×Unit) (orc.d 109 [.st 5 y6,.str r] [I6]) λ(r7:Int×Unit)=>some (r7.1==0)) (some false))<;>rfl
 obtain ⟨p,q1,q2,q3,q4⟩:=key;rw[q4];rcases yAT p b.components.length with hp|hp
 ·rw[show decide ((p:Int)<len b.components)=true from by simp[len];exact hp,zac,zan hp,zaa,h109,zaa,zaa,<-zcU hp];constructor
  ·rintro ⟨k,hk,rfl⟩
   have:p=k:=by
    rcases yBL p k with h|h|h;·exact absurd (hb.refs p k h hk) (q3 p (yAi _) hp)
    ·exact h
    ·exact absurd (q2 k h) (yBn _)
   subst this;rw[hb.num_cR hp,show cS (cR b p) (cR b p)=0 from by simp[cS,yBn]];rfl
  ·intro hno;refine ⟨(p:Int),?_⟩;have:(cS (cR b p) r==0)=false:=by
    cases hc:cS (cR b p) r==0 with
    |false=>rfl|true =>
      exfalso;have hc:cS (cR b p) r=0:=by simpa using hc
      exact hno ⟨p,hp,zly.eq _ _ (by omega) (by
       intro h;rw[zc4] at h;unfold cS at hc;by_cases h1:cR b p<r;·rw[if_pos h1] at hc;omega
       ·rw[if_neg h1,if_pos h] at hc;omega)⟩
   rw[this]
 ·have:p=b.components.length:=by omega
  subst this;rw[show decide (((b.components.length:Nat):Int)<len b.components)=false from by simp[len],zab];constructor
  ·rintro ⟨k,hk,rfl⟩
   exact absurd (q2 k hk) (yBn _)
  ·intro _;exact ⟨_,rfl⟩
end Tryz
end Pe
end
section
/- Shortest paths. -/
set_option maxRecDepth 100000
namespace Pe
open Bfs Go
theorem ziY{σ α R:Type}{f:σ->Option (σ⊕R)}(mk:Nat->σ)(l:List α)(p:α->Bool)(out:Nat->R)(fin:R)
  (h:∀k (hk:k<l.length),f (mk k)=if p l[k]=true then some (.inr (out k)) else some (.inl (mk (k+1)))) (he:f (mk l.length)=some (.inr fin)) :
  zak f (mk 0)=some (match l.findIdx? p with|some k=>out k|none=>fin):=by
 refine zby (A:=Unit) (λk _=>mk k) l.length (λ_ _=>match l.findIdx? p with|some k=>out k|none=>fin) (λk _=>∀j (hj:j<l.length),j<k->p l[j]=false) (λk _ hk hI=>?_) 0 () (yAA _) (λj _ hj=>by omega);by_cases hlt:k<l.length
 ·rw[h k hlt];by_cases hp:p l[k]=true
  ·right;have:l.findIdx? p=some k:=by
    rw[yBv];exact ⟨hlt,hp,λj hj=>by rw[hI j (by omega) hj];simp⟩
   rw[if_pos hp,this]
  ·left;refine ⟨(),hlt,by rw[if_neg hp],λj hj hjk=>?_,rfl⟩;by_cases hjk':j=k;·subst hjk';simpa using hp
   ·exact hI j hj (by omega)
 ·right;obtain rfl:k=l.length:=by omega
  have:l.findIdx? p=none:=by rw[yBA];intro x hx;obtain ⟨j,hj,rfl⟩:=yBH hx;exact hI j hj hj
  rw[he,this]
namespace Bfs
def nx(N:List (List Nat))(d:List Int)(n:Nat):Nat:=((row N n).findIdx? λj=>dAt d j==dAt d n - 1).getD 0
def zgv(N:List (List Nat))(d:List Int)(n:Nat):Nat:=(row N n).getD (nx N d n) n
def walk(N:List (List Nat))(d:List Int):Nat->Nat->List Nat
 |0,n=>[n]|k+1,n=>n::walk N d k (zgv N d n)
structure Down (N:List (List Nat)) (d:List Int) (to:Nat):Prop where
 len:d.length=N.length
 lt:∀i,∀j∈row N i,j<N.length
 zero:∀j,dAt d j=0↔j=to
 step:∀n,1<=dAt d n->∃j∈row N n,dAt d j=dAt d n - 1
section
variable{N:List (List Nat)}{d:List Int}{to:Nat}(h:Down N d to)
include h
theorem Down.next{n:Nat}(hn:1<=dAt d n):∃k,(row N n).findIdx? (λj=>dAt d j==dAt d n - 1)=some k/\k<(row N n).length/\(row N n)[k]?=some (zgv N d n)/\dAt d (zgv N d n)=dAt d n - 1/\zgv N d n<N.length:=by
 obtain ⟨j,hj,h1⟩:=h.step n hn;have hs:((row N n).findIdx? λj=>dAt d j==dAt d n - 1).isSome:=by rw[List.findIdx?_isSome];exact yBd.2 ⟨j,hj,by simpa using h1⟩
 obtain ⟨k,hk⟩:=Option.isSome_iff_exists.1 hs;have hk2:=yBv.1 hk;obtain ⟨h2,h3,_⟩:=hk2;have e1:zgv N d n=(row N n)[k]:=by unfold zgv nx;rw[hk];simp[h2]
 refine ⟨k,hk,h2,by rw[e1,yAe h2],by rw[e1];simpa using h3,by rw[e1];exact h.lt n _ (yAy h2)⟩
theorem Down.walk_at:∀(k n:Nat),n<N.length->dAt d n=(k:Int)->(walk N d k n).length=k+1/\(∀j,j<=k->∃x,(walk N d k n)[j]?=some x/\dAt d x=(k:Int) - (j:Int)/\x<N.length)/\(walk N d k n)[0]?=some n
 |0,n,hn,hd=>⟨rfl,λj hj=>by
   have:j=0:=by omega
   subst this;exact ⟨n,rfl,by omega,hn⟩,rfl⟩
 |k+1,n,hn,hd=>by
   obtain ⟨_,_,_,_,h4,h5⟩:=h.next (n:=n) (by omega);obtain ⟨q1,q2,q3⟩:=Down.walk_at k (zgv N d n) h5 (by omega);refine ⟨by simp[walk,q1],λj hj=>?_,rfl⟩;cases j with
   |zero=>exact ⟨n,rfl,by omega,hn⟩|succ j =>obtain ⟨x,h6,h7,h8⟩:=q2 j (by omega);exact ⟨x,by simpa[walk] using h6,by omega,h8⟩
end
end Bfs
namespace Tryz
theorem Right.web{b:Gt.Bill}(hb:Right b)(scope:Int):Web (outs b scope)/\Web (zi4 b scope)/\(outs b scope).length=b.components.length/\(zi4 b scope).length=b.components.length/\∀i j,j∈row (outs b scope) i↔i∈row (zi4 b scope) j:=by have hE:=hb.edges scope;obtain ⟨h1,h2⟩:=hE.web1 (by have:=hb.n;omega) (by have:=hb.m;omega);exact ⟨h1,h2,hE.web_row.1,hE.web_row.2.1,λi j=>by unfold outs zi4;rw[hE.mem_out,hE.mem_inn]⟩
noncomputable def left(b:Gt.Bill)(scope:Int)(to:Nat):List Int:=zeI (zi4 b scope) to (-1)
theorem Right.down{b:Gt.Bill}(hb:Right b)(scope:Int){to:Nat}(ht:to<b.components.length):Down (outs b scope) (left b scope to) to:=by
 obtain ⟨w1,w2,w3,w4,w5⟩:=hb.web scope;have hok:=zme (next:=zi4 b scope) (from_:=to) (wo:= -1) w2.lt (by rw[w4];exact ht) (by omega);refine ⟨by rw[w3,<-w4];exact hok.len,w1.lt,λj=>⟨λh=>?_,λh=>by subst h;exact hok.home⟩,λn hn=>?_⟩
 ·rcases hok.src j (by unfold left at h;omega) with h1|⟨h1,_⟩;·exact h1.1
  ·unfold left at h;omega
 ·rcases hok.src n (by unfold left at hn;omega) with h1|⟨_,i,h2,h3⟩;·unfold left at hn;omega
  ·exact ⟨i,(w5 n i).2 h2,h3⟩
theorem Right.left_lt{b:Gt.Bill}(hb:Right b)(scope:Int){to:Nat}(ht:to<b.components.length)(n:Nat):dAt (left b scope to) n<3000:=by
 obtain ⟨w1,w2,w3,w4,w5⟩:=hb.web scope;have hok:=zme (next:=zi4 b scope) (from_:=to) (wo:= -1) w2.lt (by rw[w4];exact ht) (by omega);by_cases h:0<=dAt (left b scope to) n;·have:=hok.bound n h;have:=hb.n;unfold left;omega
 ·omega
theorem Right.left_len{b:Gt.Bill}(hb:Right b)(scope:Int){to:Nat}(ht:to<b.components.length):(left b scope to).length=b.components.length:=by rw[(hb.down scope ht).len,(hb.web scope).2.2.1]
theorem zoi{d:List Int}{k:Nat}(h:k<d.length):at? d (k:Int)=some (dAt d k):=by rw[zcV];exact zpr h
noncomputable def zbV(b:Gt.Bill)(scope:Int)(to:Nat):List Nat:=walk (outs b scope) (left b scope to) (dAt (left b scope to) (num b b.root)).toNat (num b b.root)
noncomputable def zc3(b:Gt.Bill)(scope:Int):Gt.Gf:=Gt.Gf.mk b (num b b.root) (za6 (outs b scope)) (za6 (zi4 b scope))
noncomputable def zpQ(b:Gt.Bill)(scope:Int):Gt.Wb:=Gt.Wb.mk (zbr b) (za6 (outs b scope)) (za6 (zi4 b scope)) (num b b.root)
theorem m57_eq'(orc:Orc Sx)(h58:∀(N:List (List Nat))(from_:Nat)(wo:Int),Web N->from_<N.length->orc.d 58 [.sl LI (za6 N),.int .i64 (from_:Int),.int .i64 wo] [LI]=(some (zeI N from_ wo,()):Option (List Int×Unit)))
  {b:Gt.Bill} (hb:Right b) (scope:Int) {to:Nat} (ht:to<b.components.length) :
  m57 orc (zc3 b scope) (to:Int)=some (bif decide (dAt (left b scope to) (num b b.root)<0) then [] else ofN (zbV b scope to),()):=by
 obtain ⟨w1,w2,w3,w4,w5⟩:=hb.web scope;have hD:=hb.down scope ht;have hr:=(hb.num_lt hb.root).1;have hll:=hb.left_len scope ht;have hlb:=hb.left_lt scope ht;unfold m57;rw[show (zc3 b scope).inn=za6 (zi4 b scope) from rfl,show (zc3 b scope).root=(num b b.root:Int) from rfl,show (zc3 b scope).out=za6 (outs b scope) from rfl,h58 _ _ _ w2 (by rw[w4];exact ht),zaa];rw[show zeI (zi4 b scope) to (-1)=left b scope to from rfl];dsimp only;rw[zoi (by rw[hll];exact hr),zaa];cases hneg:decide (dAt (left b scope to) (num b b.root)<0) with
 |true=>rfl|false =>
   have hpos:0<=dAt (left b scope to) (num b b.root):=(by simpa using hneg);rw[zab,cond_false]
   have key:∀(k n:Nat)(pre:List Nat),n<b.components.length->dAt (left b scope to) n=(k:Int)->pre.length+k<=10000 ->
     zak (σ:=List Int×Int×Unit) (R:=(List Int×Unit)⊕(List Int×Unit)) (λ(t3:List Int×Int×Unit)=>br (t3.2.1 != (to:Int)) (ob (at? (za6 (outs b scope)) t3.2.1) λy4=>ob (α:=Int×Unit) (zaE (σ:=Unit) (R:=Int×Unit) (zak (σ:=Int×Unit) (R:=Unit⊕(Int×Unit)) (λ(t6:Int×Unit)=>br (decide (t6.1<(len y4))) (ob (at? y4 t6.1) λy7=>ob (α:=Bool×Unit) (ob (at? (left b scope to) y7) λy9=>ob (at? (left b scope to) t3.2.1) λy10=>some (y9==(IntKind.i64.wrap (y10 - 1)),())) λ(r11:Bool×Unit)=>br r11.1 (some (.inr (.inr (t6.1,())))) (some (.inl (IntKind.i64.wrap (t6.1+1),())))) (some (.inr (.inl (()))))) (0,())) λ(_:Unit)=>some (-1,())) λ(r13:Int×Unit)=>ob (at? (za6 (outs b scope)) t3.2.1) λy14=>ob (at? y14 r13.1) λy15=>ob (zdJ t3.1 [y15]) λl16=>some (.inl (l16,y15,()))) (some (.inr (.inl (t3.1,())))))
      (ofN (pre++[n]),(n:Int),())=some (.inl (ofN (pre++walk (outs b scope) (left b scope to) k n),())):=by
    intro k;induction k with
    |zero =>intro n pre hn hd hp;have:n=to:=(hD.zero n).1 (by rw[hd];rfl);subst this;refine zaD ?_;dsimp only;rw[show ((n:Int) != (n:Int))=false from by simp,zab];rfl
    |succ k ih =>
      intro n pre hn hd hp;have hne:n≠to:=λhe=>by have:=(hD.zero n).2 he;omega
      obtain ⟨j,h1,h2,h3,h4,h5⟩:=hD.next (n:=n) (by omega);rw[w3] at h5;refine (zaR (y:=(ofN (pre++[n]++[zgv (outs b scope) (left b scope to) n]),((zgv (outs b scope) (left b scope to) n:Nat):Int),())) ?_).trans ?_
      ·dsimp only;rw[show ((n:Int) != (to:Int))=true from by simp;omega,zac,zjl (by rw[w3];exact hn),zaa];rw[zei (row (outs b scope) n) (λj=>dAt (left b scope to) j==dAt (left b scope to) n - 1) (λk=>(.inr ((k:Int),()):Unit⊕(Int×Unit))) (.inl ()) (λm hm=>?_) ?_]
       ·rw[h1,zaU,zaa,zaa];dsimp only;have:(row (outs b scope) n)[j]'h2=zgv (outs b scope) (left b scope to) n:=by rw[yAe h2] at h3;exact yAS h3
        rw[ze1 h2,this,zaa,zbc (by simp[ofN,lim];omega),zaa];simp[ofN]
       ·dsimp only;rw[za2,show decide (((row (outs b scope) n).length:Int)<((row (outs b scope) n).length:Int))=false from by simp,zab]
       ·dsimp only;have hm2:(row (outs b scope) n)[m]<(left b scope to).length:=by rw[hll,<-w3];exact w1.lt n _ (yAy hm)
        rw[za2,show decide ((m:Int)<((row (outs b scope) n).length:Int))=true from by simp;exact hm,zac,ze1 hm,zaa,zoi hm2,zaa,zoi (by rw[hll];exact hn),zaa,zaa,zaH (by omega) (by have:=hlb n;omega),zfq,zaf hm (by have:=w1.rows n;omega)]
      ·rw[ih _ _ h5 (by omega) (by simp;omega)];simp[walk]
   have hk:=key (dAt (left b scope to) (num b b.root)).toNat (num b b.root) [] hr (by omega) (by have:=hlb (num b b.root);simp;omega);rw[show zak (σ:=List Int×Int×Unit) (R:=(List Int×Unit)⊕(List Int×Unit)) _ ([(num b b.root:Int)],(num b b.root:Int),())=_ from hk,zaj];rfl
end Tryz
end Pe
end
section
/- Gates and Keeps of both sides. -/
set_option maxRecDepth 100000
namespace Pe
open Bfs Go
namespace Tryz
def zeT(scope:Int):Bool:=decide (scope<1)||decide (4<scope)
open Classical in
noncomputable def za5(chk:Gt.Bill->Int)(b:Gt.Bill)(r:By)(scope:Int):Int:=if chk b≠0 then chk b else if zeT scope=true then 9 else if zbm b r then 0 else 4
structure GrO (chk:Gt.Bill->Int) (orc:Orc Sx) (b:Gt.Bill):Prop where
 right:chk b=0->Right b
 h56:∀(r:By)(scope:Int),(za5 chk b r scope=0->orc.d 56 [.st 3 b,.str r,.int .i64 scope] [.st 14,I6,I6]=(some (zc3 b scope,(num b r:Int),0,()):Option (Gt.Gf×Int×Int×Unit))) /\
  (za5 chk b r scope≠0->∃g k,orc.d 56 [.st 3 b,.str r,.int .i64 scope] [.st 14,I6,I6]=(some (g,k,za5 chk b r scope,()):Option (Gt.Gf×Int×Int×Unit)))
 h63:∀(r:By)(scope:Int),orc.d 63 [.st 3 b,.int .i64 scope,.sl .str [r]] [I6]=(some (za5 chk b r scope,()):Option (Int×Unit))
 h58:∀(N:List (List Nat))(from_:Nat)(wo:Int),Web N->from_<N.length->orc.d 58 [.sl LI (za6 N),.int .i64 (from_:Int),.int .i64 wo] [LI]=(some (zeI N from_ wo,()):Option (List Int×Unit))
 h71:∀(N:List (List Nat))(from_:Nat),Web N->from_<N.length->orc.d 71 [.sl LI (za6 N),.int .i64 (from_:Int)] [LI]=(some (zeI N from_ (-1),()):Option (List Int×Unit))
 h61:∀b scope (from_:Nat) (wo:Int),Right b->from_<b.components.length->orc.d 61 [.st 19 (zpQ b scope),.int .i64 (from_:Int),.int .i64 wo] [.sl .bool]=(some (Bfs.inD (zeI (outs b scope) from_ wo),()):Option (List Bool×Unit))
 h60:∀b scope,Right b->orc.d 60 [.st 3 b,.int .i64 scope] [.st 19]=(some (zpQ b scope,()):Option (Gt.Wb×Unit))
 h62:∀(b:Gt.Bill)(r:By),Right b->orc.d 62 [.st 3 b,.str r] [I6]=(some (zfF b r,()):Option (Int×Unit))
 h64:∀b scope (l:List Nat),Right b->(∀i∈l,i<b.components.length)->l.length<=1000000->orc.d 64 [.st 19 (zpQ b scope),.sl I6 (ofN l)] [LS]=(some (zbd b l,()):Option (List By×Unit))
 h65:∀bs:List Bool,bs.length<=1000000->orc.d 65 [.sl .bool bs] [LI]=(some (ofN (zyg bs),()):Option (List Int×Unit))
 h59:∀b scope (l:List Nat),Right b->(∀i∈l,i<b.components.length)->l.length<=1000000->orc.d 59 [.st 14 (zc3 b scope),.sl I6 (ofN l)] [LS]=(some (zbd b l,()):Option (List By×Unit))
 h57:∀b scope (to:Nat),Right b->to<b.components.length->orc.d 57 [.st 14 (zc3 b scope),.int .i64 (to:Int)] [LI]=(some (bif decide (dAt (left b scope to) (num b b.root)<0) then [] else ofN (zbV b scope to),()):Option (List Int×Unit))
variable{chk:Gt.Bill->Int}{orc:Orc Sx}
theorem zjc{b:Gt.Bill}(K:GrO chk orc b){r:By}{scope:Int}(h:za5 chk b r scope=0):Right b/\zbm b r:=by
 unfold za5 at h;split at h;·rename_i h1;exact absurd h h1
 ·rename_i h1;split at h;·cases h
  ·split at h;·rename_i h2;exact ⟨K.right (by simpa using h1),h2⟩
   ·cases h
noncomputable def zli(b:Gt.Bill)(scope:Int)(to j:Nat):Bool:=(j != num b b.root)&&((j != to)&&decide (dAt (zeI (outs b scope) (num b b.root) (j:Int)) to<0))
noncomputable def zct(b:Gt.Bill)(scope:Int)(to:Nat):List Nat:=bif decide (dAt (left b scope to) (num b b.root)<0) then [] else zbV b scope to
noncomputable def ze0(b:Gt.Bill)(scope:Int)(to:Nat):List Nat:=(zct b scope to).filter (zli b scope to)
theorem Right.path_at{b:Gt.Bill}(hb:Right b)(scope:Int){to:Nat}(ht:to<b.components.length)(hp:0<=dAt (left b scope to) (num b b.root)) :
  (zbV b scope to).length=(dAt (left b scope to) (num b b.root)).toNat+1/\(∀j,j<(zbV b scope to).length->∃x,(zbV b scope to)[j]?=some x/\dAt (left b scope to) x=dAt (left b scope to) (num b b.root) - (j:Int)/\x<b.components.length)/\(zbV b scope to)[0]?=some (num b b.root):=by
 have hr:=(hb.num_lt hb.root).1;obtain ⟨h1,h2,h3⟩:=(hb.down scope ht).walk_at (dAt (left b scope to) (num b b.root)).toNat (num b b.root) (by rw[(hb.web scope).2.2.1];exact hr) (by omega);refine ⟨h1,λj hj=>?_,h3⟩
 obtain ⟨x,g1,g2,g3⟩:=h2 j (by have:j<(walk (outs b scope) (left b scope to) (dAt (left b scope to) (num b b.root)).toNat (num b b.root)).length:=hj
                               omega)
 exact ⟨x,g1,by omega,by rw[(hb.web scope).2.2.1] at g3;exact g3⟩
theorem Right.path_lt{b:Gt.Bill}(hb:Right b)(scope:Int){to:Nat}(ht:to<b.components.length):(∀i∈zct b scope to,i<b.components.length)/\(zct b scope to).length<=3001:=by
 unfold zct;cases hneg:decide (dAt (left b scope to) (num b b.root)<0) with
 |true=>simp|false =>
   have hpos:0<=dAt (left b scope to) (num b b.root):=(by simpa using hneg);obtain ⟨h1,h2,_⟩:=hb.path_at scope ht hpos;refine ⟨λi hi=>?_,?_⟩;·obtain ⟨j,hj⟩:=yAl hi;obtain ⟨x,g1,_,g3⟩:=h2 j (yAc.1 hj).1;have hj:(zbV b scope to)[j]?=some i:=hj;rw[hj] at g1;cases g1;exact g3
   ·have:=hb.left_lt scope ht (num b b.root);rw[cond_false,h1];omega
theorem Right.dist_len{b:Gt.Bill}(hb:Right b)(scope wo:Int):(zeI (outs b scope) (num b b.root) wo).length=b.components.length:=by obtain ⟨w1,w2,w3,w4,w5⟩:=hb.web scope;rw[Bfs.dist_len w1.lt (by rw[w3];exact (hb.num_lt hb.root).1),w3]
theorem m14_eq'{b:Gt.Bill}(K:GrO chk orc b)(r:By)(scope:Int) :
  (za5 chk b r scope=0->m14 orc b r scope=some (zbd b (ze0 b scope (num b r)),0,()))/\(za5 chk b r scope≠0->m14 orc b r scope=some ([],za5 chk b r scope,())):=by
 constructor
 ·intro he;obtain ⟨hb,hr⟩:=zjc K he;obtain ⟨w1,w2,w3,w4,w5⟩:=hb.web scope;have ht:=(hb.num_lt hr).1;have hrt:=(hb.num_lt hb.root).1;obtain ⟨hp1,hp2⟩:=hb.path_lt scope ht;unfold m14;rw[(K.h56 r scope).1 he,zaa];dsimp only;rw[show ((0:Int) != 0)=false from rfl,zab,K.h57 b scope _ hb ht,zaa];rw[show (bif decide (dAt (left b scope (num b r)) (num b b.root)<0) then [] else ofN (zbV b scope (num b r)))=ofN (zct b scope (num b r)) from by unfold zct;cases decide (dAt (left b scope (num b r)) (num b b.root)<0)<;>rfl];rw[zeF (f:=_) (zct b scope (num b r)) (λj=>if zli b scope (num b r) j=true then some (j:Int) else none) (λa=>(.inl (a,()):(List Int×Unit)⊕(List By×Int×Unit))) (λk hk a ha=>?_) λa=>?_];·rw[zaj,zfV (zli b scope (num b r))];dsimp only;rw[show (zct b scope (num b r)).filter (zli b scope (num b r))=ze0 b scope (num b r) from rfl,K.h59 b scope (ze0 b scope (num b r)) hb (λi hi=>hp1 i (yAO.1 hi).1) (yAo (yA0 _ _) (by omega)),zaa]
  ·have hj:=hp1 _ (yAy hk);dsimp only;rw[za2,show decide ((k:Int)<(((zct b scope (num b r)).length:Nat):Int))=true from by simp;exact hk,zac,ze1 hk,zaa,show (zc3 b scope).root=(num b b.root:Int) from rfl,show (zc3 b scope).out=za6 (outs b scope) from rfl,zaf hk (by omega)];rw[K.h58 _ _ _ w1 (by rw[w3];exact hrt),zaa];dsimp only;rw[zoi (by rw[hb.dist_len];exact ht),zaa];have e1:∀x y:Nat,(((x:Nat):Int) != ((y:Nat):Int))=(x != y):=λx y=>by rw[yBC];simp only[bne_iff_ne,ne_eq];omega
   rw[e1,e1];have hc:zli b scope (num b r) (zct b scope (num b r))[k]=(((zct b scope (num b r))[k] != num b b.root)&&(((zct b scope (num b r))[k] != num b r)&&decide (dAt (zeI (outs b scope) (num b b.root) (((zct b scope (num b r))[k]:Nat):Int)) (num b r)<0))):=rfl;rw[hc];cases (zct b scope (num b r))[k] != num b b.root with
   |false=>rfl|true =>
     cases (zct b scope (num b r))[k] != num b r with
     |false=>rfl|true =>
       cases decide (dAt (zeI (outs b scope) (num b b.root) (((zct b scope (num b r))[k]:Nat):Int)) (num b r)<0) with
       |false=>rfl|true =>rw[zac,zaa,zac,zaa,zac,zbc (by simp[lim];omega),zaa];rfl
  ·dsimp only;rw[za2,show decide ((((zct b scope (num b r)).length:Nat):Int)<(((zct b scope (num b r)).length:Nat):Int))=false from by simp,zab]
 ·intro he;obtain ⟨g,k,hg⟩:=(K.h56 r scope).2 he;unfold m14;rw[hg,zaa];dsimp only;rw[show (za5 chk b r scope != 0)=true from by simpa using he,zac]
end Tryz
end Pe
end
section
/- Path, Gates of the reference; Keeps of both sides. -/
set_option maxRecDepth 100000
namespace Pe
open Bfs Go
namespace Tryz
variable{chk:Gt.Bill->Int}{orc:Orc Sx}
theorem m28_eq'{b:Gt.Bill}(K:GrO chk orc b)(r:By)(scope:Int) :
  (za5 chk b r scope=0->m28 orc b r scope=some (bif decide (dAt (left b scope (num b r)) (num b b.root)<0) then ([],false,0,()) else (zbd b (zbV b scope (num b r)),true,0,()))) /\
  (za5 chk b r scope≠0->m28 orc b r scope=some ([],false,za5 chk b r scope,())):=by
 constructor
 rotate_left
 ·intro he;unfold m28;rw[K.h63,zaa];dsimp only;rw[show (za5 chk b r scope != 0)=true from by simpa using he,zac]
 intro he;obtain ⟨hb,hr⟩:=zjc K he;obtain ⟨w1,w2,w3,w4,w5⟩:=hb.web scope;have ht:=(hb.num_lt hr).1;have hrt:=(hb.num_lt hb.root).1;have hD:=hb.down scope ht;have hll:=hb.left_len scope ht;have hlb:=hb.left_lt scope ht;unfold m28;rw[K.h63,zaa];dsimp only;rw[he,show ((0:Int) != 0)=false from rfl,zab,K.h60 b scope hb,zaa,K.h62 b r hb,zaa,hb.place hr];dsimp only;rw[show (zpQ b scope).from_=za6 (zi4 b scope) from rfl,show (zpQ b scope).root=(num b b.root:Int) from rfl,show (zpQ b scope).to=za6 (outs b scope) from rfl,K.h71 _ _ w2 (by rw[w4];exact ht),zaa];rw[show zeI (zi4 b scope) (num b r) (-1)=left b scope (num b r) from rfl];dsimp only;rw[zoi (by rw[hll];exact hrt),zaa];cases hneg:decide (dAt (left b scope (num b r)) (num b b.root)<0) with
 |true=>rfl|false =>
   have hpos:0<=dAt (left b scope (num b r)) (num b b.root):=(by simpa using hneg);rw[zab,cond_false]
   have key:∀(k n:Nat)(pre:List Nat),n<b.components.length->dAt (left b scope (num b r)) n=(k:Int)->pre.length+k<=10000 ->
     zak (σ:=Int×List Int×Unit) (R:=(List Int×Unit)⊕(List By×Bool×Int×Unit)) (λ(t6:Int×List Int×Unit)=>ob (at? (left b scope (num b r)) t6.1) λy7=>br (decide (0<y7)) (zaE (σ:=Int×List Int×Unit) (R:=(Int×List Int×Unit)⊕((List Int×Unit)⊕(List By×Bool×Int×Unit))) (ob (at? (za6 (outs b scope)) t6.1) λy8=>zak (σ:=Int×List Int×Int×Unit) (R:=(Int×List Int×Unit)⊕((Int×List Int×Unit)⊕((List Int×Unit)⊕(List By×Bool×Int×Unit)))) (λ(t9:Int×List Int×Int×Unit)=>br (decide (t9.2.2.1<(len y8))) (ob (at? y8 t9.2.2.1) λy10=>ob (at? (left b scope (num b r)) y10) λy11=>ob (at? (left b scope (num b r)) t9.1) λy12=>br (y11==(IntKind.i64.wrap (y12 - 1))) (some (.inr (.inl (y10,t9.2.1,())))) (some (.inl (t9.1,t9.2.1,IntKind.i64.wrap (t9.2.2.1+1),())))) (some (.inr (.inl (t9.1,t9.2.1,()))))) (t6.1,t6.2.1,0,())) λ(t13:Int×List Int×Unit)=>ob (zdJ t13.2.1 [t13.1]) λl14=>some (.inl (t13.1,l14,()))) (some (.inr (.inl (t6.2.1,())))))
      ((n:Int),ofN (pre++[n]),())=some (.inl (ofN (pre++walk (outs b scope) (left b scope (num b r)) k n),())):=by
    intro k;induction k with
    |zero =>intro n pre hn hd hp;refine zaD ?_;dsimp only;rw[zoi (by rw[hll];exact hn),zaa,hd,show decide ((0:Int)<((0:Nat):Int))=false from by simp,zab];rfl
    |succ k ih =>
      intro n pre hn hd hp;obtain ⟨j,h1,h2,h3,h4,h5⟩:=hD.next (n:=n) (by omega);rw[w3] at h5;refine (zaR (y:=(((zgv (outs b scope) (left b scope (num b r)) n:Nat):Int),ofN (pre++[n]++[zgv (outs b scope) (left b scope (num b r)) n]),())) ?_).trans ?_
      ·dsimp only;rw[zoi (by rw[hll];exact hn),zaa,show decide ((0:Int)<dAt (left b scope (num b r)) n)=true from by simp;omega,zac,zjl (by rw[w3];exact hn),zaa]
       rw[show zak (σ:=Int×List Int×Int×Unit) (R:=(Int×List Int×Unit)⊕((Int×List Int×Unit)⊕((List Int×Unit)⊕(List By×Bool×Int×Unit)))) _ ((n:Int),ofN (pre++[n]),0,())=some (match (row (outs b scope) n).findIdx? (λj=>dAt (left b scope (num b r)) j==dAt (left b scope (num b r)) n - 1) with|some k=>.inl ((((row (outs b scope) n).getD k 0:Nat):Int),ofN (pre++[n]),())|none=>.inl ((n:Int),ofN (pre++[n]),())) from
        ziY (λk=>((n:Int),ofN (pre++[n]),(k:Int),())) (row (outs b scope) n) (λj=>dAt (left b scope (num b r)) j==dAt (left b scope (num b r)) n - 1) (λk=>(.inl ((((row (outs b scope) n).getD k 0:Nat):Int),ofN (pre++[n]),()):((Int×List Int×Unit)⊕((Int×List Int×Unit)⊕((List Int×Unit)⊕(List By×Bool×Int×Unit)))))) (.inl ((n:Int),ofN (pre++[n]),()):((Int×List Int×Unit)⊕((Int×List Int×Unit)⊕((List Int×Unit)⊕(List By×Bool×Int×Unit))))) (λm hm=>?_) ?_]
       ·rw[h1];have:(row (outs b scope) n).getD j 0=zgv (outs b scope) (left b scope (num b r)) n:=by rw[yAj,h3];rfl
        dsimp only;rw[zaj,this,zbc (by simp[ofN,lim];omega),zaa];simp[ofN]
       ·dsimp only;rw[za2,show decide (((row (outs b scope) n).length:Int)<((row (outs b scope) n).length:Int))=false from by simp,zab]
       ·dsimp only;have hm2:(row (outs b scope) n)[m]<(left b scope (num b r)).length:=by rw[hll,<-w3];exact w1.lt n _ (yAy hm)
        rw[za2,show decide ((m:Int)<((row (outs b scope) n).length:Int))=true from by simp;exact hm,zac,ze1 hm,zaa,zoi hm2,zaa,zoi (by rw[hll];exact hn),zaa,zaH (by omega) (by have:=hlb n;omega),zfq,zaf hm (by have:=w1.rows n;omega),show (row (outs b scope) n).getD m 0=(row (outs b scope) n)[m] from by simp[hm]]
      ·rw[ih _ _ h5 (by omega) (by simp;omega)];simp[walk]
   have hk:=key (dAt (left b scope (num b r)) (num b b.root)).toNat (num b b.root) [] hrt (by omega) (by have:=hlb (num b b.root);simp;omega);have hpl:=hb.path_lt scope ht;have hpO:zct b scope (num b r)=zbV b scope (num b r):=(by unfold zct;rw[hneg,cond_false]);rw[hpO] at hpl;rw[show zak (σ:=Int×List Int×Unit) (R:=(List Int×Unit)⊕(List By×Bool×Int×Unit)) _ ((num b b.root:Int),[(num b b.root:Int)],())=some (.inl (ofN (zbV b scope (num b r)),())) from hk,zaj];dsimp only;rw[K.h64 b scope (zbV b scope (num b r)) hb hpl.1 (by have:=hpl.2;omega),zaa]
theorem zrY{α β:Type}(p:α->Bool)(c:α->β):∀l:List α,l.filterMap (λx=>if p x=true then some (c x) else none)=(l.filter p).map c
 |[]=>rfl|x::l=>by
   rw[yAC];cases hp:p x with
   |true=>simp only[if_pos,List.filter_cons_of_pos hp,yAn];rw[zrY p c l]|false=>rw[yBR (by simp[hp]),<-zrY p c l];rfl
theorem filtC{α β:Type}(l:List α)(z:α)(p:α->Bool)(c:α->β):(List.range l.length).filterMap (λk=>if p (l.getD k z)=true then some (c (l.getD k z)) else none)=(l.filter p).map c:=by
 have h1:(List.range l.length).map (λk=>l.getD k z)=l:=by apply List.ext_getElem (by simp);intro i h1 h2;simp at h1;simp[h1]
 rw[<-zrY p c l];have:=List.filterMap_map (f:=λk=>l.getD k z) (g:=λx=>if p x=true then some (c x) else none) (l:=List.range l.length);rw[h1] at this;rw[this];rfl
theorem m15_eq'{b:Gt.Bill}{orc':Orc Sx}(K:GrO chk orc b)(K':GrO chk orc' b)(h28:∀(b:Gt.Bill)(r:By)(scope:Int),orc.d 28 [.st 3 b,.str r,.int .i64 scope] [LS,.bool,I6]=(m28 orc' b r scope:Option (List By×Bool×Int×Unit)))(r:By)(scope:Int) :
  (za5 chk b r scope=0->m15 orc b r scope=some (zbd b (ze0 b scope (num b r)),0,()))/\(za5 chk b r scope≠0->m15 orc b r scope=some ([],za5 chk b r scope,())):=by
 constructor
 rotate_left
 ·intro he;unfold m15;rw[h28,(m28_eq' K' r scope).2 he,zaa];dsimp only;rw[show (za5 chk b r scope != 0)=true from by simpa using he,zac,zaa,zac]
 intro he;obtain ⟨hb,hr⟩:=zjc K he;obtain ⟨w1,w2,w3,w4,w5⟩:=hb.web scope;have ht:=(hb.num_lt hr).1;have hrt:=(hb.num_lt hb.root).1;have hD:=hb.down scope ht;unfold m15;rw[h28,(m28_eq' K' r scope).1 he,zaa];cases hneg:decide (dAt (left b scope (num b r)) (num b b.root)<0) with
 |true =>rw[cond_true];dsimp only;rw[show ze0 b scope (num b r)=[] from by unfold ze0 zct;rw[hneg];rfl];rfl|false =>
   have hpos:0<=dAt (left b scope (num b r)) (num b b.root):=(by simpa using hneg);obtain ⟨p1,p2,p3⟩:=hb.path_at scope ht hpos;have hpl:=hb.path_lt scope ht;have hpO:zct b scope (num b r)=zbV b scope (num b r):=by unfold zct;rw[hneg,cond_false]
   rw[hpO] at hpl;rw[cond_false];dsimp only;rw[show ((0:Int) != 0)=false from rfl,zab,zaa,show (!true)=false from rfl,zab,K.h60 b scope hb,zaa];have hlen:(zbd b (zbV b scope (num b r))).length=(zbV b scope (num b r)).length:=by simp[zbd]
   rw[zeF (f:=_) (List.range (zbV b scope (num b r)).length) (λk=>if zli b scope (num b r) ((zbV b scope (num b r)).getD k 0)=true then some (cR b ((zbV b scope (num b r)).getD k 0)) else none) (λa=>(.inl (a,()):(List By×Unit)⊕(List By×Int×Unit))) (λk hk a ha=>?_) λa=>?_];·rw[zaj,filtC];dsimp only;unfold ze0 zbd;rw[hpO]
   ·have hk':k<(zbV b scope (num b r)).length:=(by simpa using hk);obtain ⟨x,g1,g2,g3⟩:=p2 k hk';have hx:(zbV b scope (num b r)).getD k 0=x:=by rw[yAj,g1];rfl
    have hxr:(zbd b (zbV b scope (num b r)))[k]?=some (cR b x):=(by simp[zbd,g1]);have hxh:zbm b (cR b x):=⟨x,g3,rfl⟩;dsimp only;rw[yBc,hx];rw[show decide ((k:Int)<len (zbd b (zbV b scope (num b r))))=true from by simp[len,hlen];exact hk',zac,zcV,hxr,zaa,zaf hk' (by have:=hpl.2;omega)];rw[K.h62 b _ hb,hb.place hxh,hb.num_cR g3,show (zpQ b scope).root=(num b b.root:Int) from rfl];rw[show len (zbd b (zbV b scope (num b r)))=(((zbV b scope (num b r)).length:Nat):Int) from by simp[len,hlen],zaH (by omega) (by have:=hpl.2;omega)];have c1:(decide ((0:Int)<(k:Int)))=(x != num b b.root):=by
     have:(0<k)↔x≠num b b.root:=by
      constructor;·intro h0 he;rw[he] at g2;omega
      ·intro hne;rcases yCg k with h0|h0
       ·subst h0;rw[p3] at g1;cases g1;exact absurd rfl hne
       ·exact h0
     rw[yBC];simp only[decide_eq_true_eq,bne_iff_ne];rw[<-this];omega
    have c2:decide ((k:Int)<(((zbV b scope (num b r)).length:Nat):Int) - 1)=(x != num b r):=by
     have hz:=hD.zero x;rw[yBC];simp only[decide_eq_true_eq,bne_iff_ne];constructor;·intro h0 he;have:=hz.2 he;omega
     ·intro hne;have:dAt (left b scope (num b r)) x≠0:=λh=>hne (hz.1 h);omega
    rw[c1,c2];have hg:zli b scope (num b r) x=((x != num b b.root)&&((x != num b r)&&decide (dAt (zeI (outs b scope) (num b b.root) (x:Int)) (num b r)<0))):=rfl;rw[hg];cases x != num b b.root with
    |false=>rfl|true =>
      cases x != num b r with
      |false=>rfl|true =>
        rw[zac,zaa,zac,zaa,K.h61 b scope _ _ hb hrt,zaa,K.h62 b r hb,hb.place hr,zaa];dsimp only;rw[zcV,show (Bfs.inD (zeI (outs b scope) (num b b.root) (x:Int)))[num b r]?=some (decide (0<=dAt (zeI (outs b scope) (num b b.root) (x:Int)) (num b r))) from zh2 (by rw[hb.dist_len];exact ht),zaa,zaa,show (!decide (0<=dAt (zeI (outs b scope) (num b b.root) (x:Int)) (num b r)))=decide (dAt (zeI (outs b scope) (num b b.root) (x:Int)) (num b r)<0) from by rw[<-decide_not];congr 1;simp];cases decide (dAt (zeI (outs b scope) (num b b.root) (x:Int)) (num b r)<0) with
        |false=>rfl|true =>rw[zac,zbc (by simp[lim];have:=hpl.2;omega),zaa];rfl
   ·dsimp only;rw[yBe,show decide ((((zbV b scope (num b r)).length:Nat):Int)<len (zbd b (zbV b scope (num b r))))=false from by simp[len,hlen],zab]
end Tryz
end Pe
end
section
/- Keeps of both sides. -/
set_option maxRecDepth 100000
namespace Pe
open Bfs Go
namespace Tryz
variable{chk:Gt.Bill->Int}{orc:Orc Sx}
noncomputable def zgb(b:Gt.Bill)(scope:Int):List Int:=zeI (outs b scope) (num b b.root) (-1)
noncomputable def zjE(b:Gt.Bill)(scope:Int)(i:Nat):List Int:=zeI (outs b scope) (num b b.root) (i:Int)
noncomputable def zeP(b:Gt.Bill)(scope:Int)(i k:Nat):Bool:=(k != i)&&(decide (0<=dAt (zgb b scope) k)&&decide (dAt (zjE b scope i) k<0))
noncomputable def zi2(b:Gt.Bill)(scope:Int)(i:Nat):List Nat:=bif (i==num b b.root)||decide (dAt (zgb b scope) i<0) then [] else (List.range b.components.length).filter (zeP b scope i)
theorem neI(x y:Nat):(((x:Nat):Int) != ((y:Nat):Int))=(x != y):=by rw[yBC];simp only[bne_iff_ne,ne_eq];omega
theorem eqI(x y:Nat):(((x:Nat):Int)==((y:Nat):Int))=(x==y):=by rw[yBC];simp only[beq_iff_eq];omega
theorem m16_eq'{b:Gt.Bill}(K:GrO chk orc b)(r:By)(scope:Int) :
  (za5 chk b r scope=0->m16 orc b r scope=some (zbd b (zi2 b scope (num b r)),0,()))/\(za5 chk b r scope≠0->m16 orc b r scope=some ([],za5 chk b r scope,())):=by
 constructor
 rotate_left
 ·intro he;obtain ⟨g,k,hg⟩:=(K.h56 r scope).2 he;unfold m16;rw[hg,zaa];dsimp only;rw[show (za5 chk b r scope != 0)=true from by simpa using he,zac]
 intro he;obtain ⟨hb,hr⟩:=zjc K he;obtain ⟨w1,w2,w3,w4,w5⟩:=hb.web scope;have ht:=(hb.num_lt hr).1;have hrt:=(hb.num_lt hb.root).1;have hn:=hb.n;unfold m16;rw[(K.h56 r scope).1 he,zaa];dsimp only;rw[show ((0:Int) != 0)=false from rfl,zab,show (zc3 b scope).root=(num b b.root:Int) from rfl,show (zc3 b scope).out=za6 (outs b scope) from rfl,K.h58 _ _ _ w1 (by rw[w3];exact hrt),zaa];rw[show zeI (outs b scope) (num b b.root) (-1)=zgb b scope from rfl];dsimp only;have hla:(zgb b scope).length=b.components.length:=hb.dist_len scope _;have hlr:(zjE b scope (num b r)).length=b.components.length:=hb.dist_len scope _;rw[eqI,zoi (by rw[hla];exact ht),zaa,zai,zaa,zbS];unfold zi2;cases (num b r==num b b.root)||decide (dAt (zgb b scope) (num b r)<0) with
 |true=>rfl|false =>
   rw[zab,cond_false,K.h58 _ _ _ w1 (by rw[w3];exact hrt),zaa];rw[show zeI (outs b scope) (num b b.root) (num b r:Int)=zjE b scope (num b r) from rfl];dsimp only;rw[zeF (f:=_) (List.range b.components.length) (λk=>if zeP b scope (num b r) k=true then some (k:Int) else none) (λa=>(.inl (a,()):(List Int×Unit)⊕(List By×Int×Unit))) (λk hk a ha=>?_) λa=>?_];·rw[zaj,zfV (zeP b scope (num b r))];dsimp only;rw[K.h59 b scope ((List.range b.components.length).filter (zeP b scope (num b r))) hb (λi hi=>by simpa using (yAO.1 hi).1) (yAo (yA0 _ _) (by simp;omega)),zaa]
   ·have hk':k<b.components.length:=(by simpa using hk);dsimp only;rw[yBc];rw[show decide ((k:Int)<len (zgb b scope))=true from by simp[len,hla];exact hk',zac,neI,zoi (by rw[hla];exact hk'),zaa,zoi (by rw[hlr];exact hk'),zaa,zai,zaa,zcw,zai,zaa,zcw,zaf hk' (by omega)];rw[show (k != num b r&&decide (0<=dAt (zgb b scope) k)&&decide (dAt (zjE b scope (num b r)) k<0))=zeP b scope (num b r) k from by unfold zeP;rw[Bool.and_assoc]];cases zeP b scope (num b r) k with
    |false=>rfl|true=>rw[zac,zbc (by simp[lim];omega),zaa];rfl
   ·dsimp only;rw[yBe,show decide (((b.components.length:Nat):Int)<len (zgb b scope))=false from by simp[len,hla],zab]
theorem zqr(n:Nat)(c:Nat->Bool):zyg ((List.range n).map c)=(List.range n).filter c:=by
 unfold zyg;rw[yBi,yBe];apply List.filter_congr;intro k hk;have hk:k<n:=by simpa using hk
 simp[hk]
theorem m17_eq'{b:Gt.Bill}(K:GrO chk orc b)(r:By)(scope:Int) :
  (za5 chk b r scope=0->m17 orc b r scope=some (zbd b (zi2 b scope (num b r)),0,()))/\(za5 chk b r scope≠0->m17 orc b r scope=some ([],za5 chk b r scope,())):=by
 constructor
 rotate_left
 ·intro he;unfold m17;rw[K.h63,zaa];dsimp only;rw[show (za5 chk b r scope != 0)=true from by simpa using he,zac]
 intro he;obtain ⟨hb,hr⟩:=zjc K he;obtain ⟨w1,w2,w3,w4,w5⟩:=hb.web scope;have ht:=(hb.num_lt hr).1;have hrt:=(hb.num_lt hb.root).1;have hn:=hb.n;unfold m17;rw[K.h63,zaa];dsimp only;rw[he,show ((0:Int) != 0)=false from rfl,zab,K.h60 b scope hb,zaa,K.h62 b r hb,zaa,hb.place hr];dsimp only;rw[show (zpQ b scope).root=(num b b.root:Int) from rfl,K.h61 b scope _ _ hb hrt,zaa,K.h61 b scope _ _ hb hrt,zaa];rw[show zeI (outs b scope) (num b b.root) (-1)=zgb b scope from rfl,show zeI (outs b scope) (num b b.root) (num b r:Int)=zjE b scope (num b r) from rfl];dsimp only;have hla:(zgb b scope).length=b.components.length:=hb.dist_len scope _;have hlr:(zjE b scope (num b r)).length=b.components.length:=hb.dist_len scope _;have gA:∀k,k<b.components.length->at? (Bfs.inD (zgb b scope)) (k:Int)=some (decide (0<=dAt (zgb b scope) k)):=λk hk=>by rw[zcV];exact zh2 (by rw[hla];exact hk)
 have gR:∀k,k<b.components.length->at? (Bfs.inD (zjE b scope (num b r))) (k:Int)=some (decide (0<=dAt (zjE b scope (num b r)) k)):=λk hk=>by rw[zcV];exact zh2 (by rw[hlr];exact hk)
 have nt:∀x:Int,(!decide (0<=x))=decide (x<0):=λx=>by rw[<-decide_not];congr 1;simp
 rw[eqI,gA _ ht,zaa,nt,zai,zaa,zbS];unfold zi2;cases (num b r==num b b.root)||decide (dAt (zgb b scope) (num b r)<0) with
 |true=>rfl|false =>
   rw[zab,cond_false,show len (Bfs.inD (zgb b scope))=((b.components.length:Nat):Int) from by simp[len,zpb,hla],ziK (by omega),zaa]
   rw[show zak (σ:=List Bool×Int×Unit) (R:=(List Bool×Unit)⊕(List By×Int×Unit)) _ (List.replicate b.components.length false,0,())=some (.inl ((List.range b.components.length).map (zeP b scope (num b r)),())) from
    zby (A:=List Bool) (λk a=>(a,(k:Int),())) b.components.length (λ_ _=>(.inl ((List.range b.components.length).map (zeP b scope (num b r)),()):(List Bool×Unit)⊕(List By×Int×Unit)))
     (λk a=>a.length=b.components.length/\∀j,j<k->a[j]?=some (zeP b scope (num b r) j)) (λk a hk hI=>?_) 0 (List.replicate b.components.length false) (yAA _) ⟨by simp,λj hj=>by omega⟩]
   ·rw[zaj];dsimp only;rw[K.h65 _ (by simp;omega),zaa,zqr];dsimp only;rw[K.h64 b scope ((List.range b.components.length).filter (zeP b scope (num b r))) hb (λi hi=>by simpa using (yAO.1 hi).1) (yAo (yA0 _ _) (by simp;omega)),zaa]
   ·obtain ⟨i1,i2⟩:=hI;by_cases hlt:k<b.components.length
    ·left;refine ⟨a.set k (zeP b scope (num b r) k),hlt,?_,⟨by simp[i1],λj hj=>?_⟩,rfl⟩;·dsimp only;rw[show decide ((k:Int)<len (List.replicate b.components.length false))=true from by simp[len];exact hlt,zac,gA k hlt,zaa,gR k hlt,zaa,nt,neI,zai,zaa,zcw,zai,zaa,zcw,zle (by rw[i1];exact hlt),zaa,show zdc a k=some (a[k]'(by rw[i1];exact hlt)) from yAe _,zaa,zaf hlt (by omega)];rw[show (decide (0<=dAt (zgb b scope) k)&&decide (dAt (zjE b scope (num b r)) k<0)&&k != num b r)=zeP b scope (num b r) k from by unfold zeP;rw[Bool.and_comm]]
     ·by_cases hjk:j=k;·subst hjk;rw[yAx (by rw[i1];exact hlt)]
      ·rw[yAr (Ne.symm hjk)];exact i2 j (by omega)
    ·right;have hk':k=b.components.length:=by omega
     subst hk';dsimp only;rw[show decide (((b.components.length:Nat):Int)<len (List.replicate b.components.length false))=false from by simp[len],zab];have:a=(List.range b.components.length).map (zeP b scope (num b r)):=by
      apply yAW ;intro j;by_cases hj:j<b.components.length;·rw[i2 j hj];simp[hj]
      ·rw[yAZ (by omega),yAZ (by simp;omega)]
     rw[this]
theorem m18_same(o:Orc Sx)(l:List By)(hl:l.length<=1000000):m18 o l l=some (true,()):=by
 unfold m18;rw[show (len l != len l)=false from by simp,zab]
 rw[show zak (σ:=Int×Unit) (R:=Unit⊕(Bool×Unit)) _ (0,())=some (.inl ()) from
  ziY (λk=>((k:Int),())) l (λ_=>false) (λ_=>(.inl ():Unit⊕(Bool×Unit))) (.inl ()) (λk hk=>?_) ?_ |>.trans (by cases l.findIdx? λ_=>false<;>rfl)]
 ·rfl
 ·dsimp only;rw[show decide ((l.length:Int)<len l)=false from by simp[len],zab]
 ·dsimp only;rw[show decide ((k:Int)<len l)=true from by simp[len];exact hk,zac,zan hk,zaa,zaa,show (l[k] != l[k])=false from by simp,zab,zaf hk (by omega)];rfl
end Tryz
end Pe
end
