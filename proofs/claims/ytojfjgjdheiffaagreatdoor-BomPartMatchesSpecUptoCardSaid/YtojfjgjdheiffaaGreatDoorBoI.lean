/- PROVED HERE: a part of the seat's proofs; see the text that holds the claim's theorem. -/
import Derived.Test.YtojfjgjdheiffaaGreatDoorBoF
set_option maxRecDepth 100000
section
namespace Pe
open Bfs Go
namespace Tryz
theorem zsm{x:Int}{n:Nat}(h:x=(n:Int))(hn:n<=4000000000):Go.IntKind.i64.wrap x=(n:Int):=by grind[zaH]
theorem midI{i j:Nat}(h:i+j<=4000000000):Go.IntKind.i64.wrap (zp9 .u64 (Go.IntKind.u64.wrap (Go.IntKind.i64.wrap ((i:Int)+(j:Int)))) 1)=(((i+j) / 2:Nat):Int):=by
 rw[show Go.IntKind.i64.wrap ((i:Int)+(j:Int))=((i+j:Nat):Int) from zsm (by omega) h];have e1:Go.IntKind.u64.wrap ((i+j:Nat):Int)=((i+j:Nat):Int):=by grind[Go.IntKind.wrap,Go.IntKind.bits]
 rw[e1];unfold zp9;have e2:(2:Int) ^ (min (1:Int).toNat Go.IntKind.u64.bits)=2:=by decide
 rw[e2];exact zsm (by grind) (by omega)
theorem zfV(p:Nat->Bool):∀l:List Nat,l.filterMap (λk=>if p k=true then some (k:Int) else none)=ofN (l.filter p)
 |[]=>rfl|k::l=>by
   rw[yAC];cases hp:p k with
   |true=>simp only[if_pos,List.filter_cons_of_pos hp];rw[zfV p l];rfl|false=>rw[yBR (by simp[hp]),<-zfV p l];rfl
def zbd(b:Gt.Kn)(l:List Nat):List By:=l.map (cR b)
theorem m59_eq'(orc:Orc Sx){b:Gt.Kn}{g:Gt.Gf}(hg:g.b=b)(hn:b.Ka.length<=1000000){l:List Nat}(hl:∀i∈l,i<b.Ka.length)(hs:l.length<=1000000):m59 orc g (ofN l)=some (zbd b l,()):=by
 unfold m59;rw[zeF (f:=_) l (λi=>some (cR b i)) (λa=>(.inl (a,()):(List By×J)⊕(List By×J))) (λk hk a ha=>?_) λa=>?_]
 rotate_left
 ·dsimp only;have hi:=hl _ (yAy hk);rw[za2,show decide ((k:Int)<((l.length:Nat):Int))=true from by simp;exact hk,zac,ze1 hk,zaa,hg,zan hi,zaa,zbc (by simp[lim];omega),zaa,zaf hk (by omega),zcU hi]
 ·dsimp only;rw[za2,show decide (((l.length:Nat):Int)<((l.length:Nat):Int))=false from by simp,zab]
 rw[zaj];unfold zbd;rw[<-List.filterMap_eq_map];rfl
theorem m67_eq'(orc:Orc Sx)(h109:∀(c:Gt.Kd) r,orc.d 109 [.st 5 c,.str r] [.int .i64]=(some (cS c.ref r,()):Option (Int×J))){b:Gt.Kn}(hb:Right b)(r:By) :
  (zbm b r->m67 orc b r=some ((num b r:Int),true,()))/\(¬zbm b r->∃k:Int,m67 orc b r=some (k,false,())):=by
 have hn:=hb.n;have key:∃p:Nat,p<=b.Ka.length/\(∀k,k<p->cR b k<r)/\(∀k,p<=k->k<b.Ka.length->¬cR b k<r)/\m67 orc b r=ob (br (decide ((p:Int)<len b.Ka)) (ob (at? b.Ka (p:Int)) λy6=>ob (α:=Int×J) (orc.d 109 [.st 5 y6,.str r] [I6]) λ(r7:Int×J)=>some (r7.1==0)) (some false)) λb8=>some ((p:Int),b8,()):=by
  have hl:∀(d lo hi:Nat),hi - lo<=d->lo<=hi->hi<=b.Ka.length->(∀k,k<lo->cR b k<r)->(∀k,hi<=k->k<b.Ka.length->¬cR b k<r) ->
    ∃p:Nat,p<=b.Ka.length/\(∀k,k<p->cR b k<r)/\(∀k,p<=k->k<b.Ka.length->¬cR b k<r) /\
    zak (σ:=Int×Int×J) (R:=(Int×J)⊕(Int×Bool×J)) (λ(t2:Int×Int×J)=>br (decide (t2.1<t2.2.1)) (ob (at? (Gt.Kn.Ka b) (IntKind.i64.wrap (zp9 .u64 (IntKind.u64.wrap (IntKind.i64.wrap (t2.1+t2.2.1))) 1))) λy3=>ob (α:=Int×J) (orc.d 109 [.st 5 y3,.str r] [I6]) λ(r4:Int×J)=>br (decide (r4.1<0)) (some (.inl (IntKind.i64.wrap ((IntKind.i64.wrap (zp9 .u64 (IntKind.u64.wrap (IntKind.i64.wrap (t2.1+t2.2.1))) 1))+1),t2.2.1,()))) (some (.inl (t2.1,IntKind.i64.wrap (zp9 .u64 (IntKind.u64.wrap (IntKind.i64.wrap (t2.1+t2.2.1))) 1),())))) (some (.inr (.inl (t2.1,()))))) ((lo:Int),(hi:Int),())=some (.inl ((p:Int),())):=by
   intro d;induction d with
   |zero =>
     intro lo hi hd hlh hhn h1 h2;have:lo=hi:=by omega
     subst this;refine ⟨lo,hhn,h1,h2,zaD ?_⟩;dsimp only;rw[show decide ((lo:Int)<(lo:Int))=false from by simp,zab]
   |succ d ih =>
     intro lo hi hd hlh hhn h1 h2;rcases yBJ hlh with rfl|Ks
     ·refine ⟨lo,hhn,h1,h2,zaD ?_⟩;dsimp only;rw[show decide ((lo:Int)<(lo:Int))=false from by simp,zab]
     ·have hm:(lo+hi) / 2<b.Ka.length:=(by omega);by_cases hc:cR b ((lo+hi) / 2)<r
      ·obtain ⟨p,q1,q2,q3,q4⟩:=ih ((lo+hi) / 2+1) hi (by omega) (by omega) hhn (λk hk=>by
        rcases yAT k ((lo+hi) / 2) with h3|h3;·exact yCa (hb.refs k _ h3 hm) hc
        ·have:k=(lo+hi) / 2:=by omega
         rw[this];exact hc) h2
       refine ⟨p,q1,q2,q3,(zaR ?_).trans q4⟩;dsimp only;rw[show decide ((lo:Int)<(hi:Int))=true from by simp;omega,zac,midI (by omega),zan hm,zaa,h109,zaa,<-zcU hm,show decide (cS (cR b ((lo+hi) / 2)) r<0)=true from by simpa using (zc4 _ _).2 hc,zac,zaH (by omega) (by omega)];rfl
      ·obtain ⟨p,q1,q2,q3,q4⟩:=ih lo ((lo+hi) / 2) (by omega) (by omega) (by omega) h1 (λk hk hkn hkr=>by
        rcases yAT ((lo+hi) / 2) k with h3|h3;·exact hc (yCa (hb.refs _ k h3 hkn) hkr)
        ·have:k=(lo+hi) / 2:=by omega
         rw[this] at hkr;exact hc hkr)
       refine ⟨p,q1,q2,q3,(zaR ?_).trans q4⟩;dsimp only;rw[show decide ((lo:Int)<(hi:Int))=true from by simp;omega,zac,midI (by omega),zan hm,zaa,h109,zaa,<-zcU hm,show decide (cS (cR b ((lo+hi) / 2)) r<0)=false from by simpa using λh=>hc ((zc4 _ _).1 h),zab]
  obtain ⟨p,q1,q2,q3,q4⟩:=hl b.Ka.length 0 b.Ka.length (by omega) (yAA _) (yAi _) (λk hk=>by omega) (λk hk hk'=>by omega);refine ⟨p,q1,q2,q3,?_⟩;unfold m67;rw[show len b.Ka=((b.Ka.length:Nat):Int) from rfl,show zak (σ:=Int×Int×J) (R:=(Int×J)⊕(Int×Bool×J)) _ (0,((b.Ka.length:Nat):Int),())=some (.inl ((p:Int),())) from q4,zaj];cases (br (decide ((p:Int)<((b.Ka.length:Nat):Int))) (ob (at? b.Ka (p:Int)) λy6=>ob (α:=Int×J) (orc.d 109 [.st 5 y6,.str r] [I6]) λ(r7:Int×J)=>some (r7.1==0)) (some false))<;>rfl
 obtain ⟨p,q1,q2,q3,q4⟩:=key;rw[q4];rcases yAT p b.Ka.length with hp|hp
 ·rw[show decide ((p:Int)<len b.Ka)=true from by simp[len];exact hp,zac,zan hp,zaa,h109,zaa,zaa,<-zcU hp];constructor
  ·rintro ⟨k,hk,rfl⟩
   have:p=k:=by
    rcases yBL p k with h|h|h;·exact absurd (hb.refs p k h hk) (q3 p (yAi _) hp)
    ·exact h
    ·exact absurd (q2 k h) (yBn _)
   subst this;rw[hb.num_cR hp,show cS (cR b p) (cR b p)=0 from by simp[cS,yBn]];rfl
  ·intro hno;refine ⟨(p:Int),?_⟩;have:(cS (cR b p) r==0)=false:=by
    cases hc:cS (cR b p) r==0 with
    |false=>rfl|true =>
      exfalso;have hc:cS (cR b p) r=0:=by simpa using hc
      exact hno ⟨p,hp,zly.eq _ _ (by omega) (by
       intro h;rw[zc4] at h;unfold cS at hc;by_cases h1:cR b p<r;·rw[if_pos h1] at hc;omega
       ·rw[if_neg h1,if_pos h] at hc;omega)⟩
   rw[this]
 ·have:p=b.Ka.length:=by omega
  subst this;rw[show decide (((b.Ka.length:Nat):Int)<len b.Ka)=false from by simp[len],zab];constructor
  ·rintro ⟨k,hk,rfl⟩
   exact absurd (q2 k hk) (yBn _)
  ·intro _;exact ⟨_,rfl⟩
end Tryz
end Pe
end
section
namespace Pe
open Bfs Go
namespace Tryz
theorem Right.web{b:Gt.Kn}(hb:Right b)(scope:Int):Web (outs b scope)/\Web (zi4 b scope)/\(outs b scope).length=b.Ka.length/\(zi4 b scope).length=b.Ka.length/\∀i j,j∈row (outs b scope) i↔i∈row (zi4 b scope) j:=by have hE:=hb.Kh scope;obtain ⟨h1,h2⟩:=hE.web1 (by have:=hb.n;omega) (by have:=hb.m;omega);exact ⟨h1,h2,hE.web_row.1,hE.web_row.2.1,λi j=>by unfold outs zi4;rw[hE.mem_out,hE.mem_inn]⟩
theorem zoi{d:List Int}{k:Nat}(h:k<d.length):at? d (k:Int)=some (dAt d k):=by rw[zcV];exact zpr h
noncomputable def zc3(b:Gt.Kn)(scope:Int):Gt.Gf:=Gt.Gf.mk b (num b b.root) (za6 (outs b scope)) (za6 (zi4 b scope))
noncomputable def zpQ(b:Gt.Kn)(scope:Int):Gt.Wb:=Gt.Wb.mk (zbr b) (za6 (outs b scope)) (za6 (zi4 b scope)) (num b b.root)
end Tryz
end Pe
end
section
namespace Pe
open Bfs Go
namespace Tryz
def zeT(scope:Int):Bool:=decide (scope<1)||decide (4<scope)
open Classical in
noncomputable def za5(chk:Gt.Kn->Int)(b:Gt.Kn)(r:By)(scope:Int):Int:=if chk b≠0 then chk b else if zeT scope=true then 9 else if zbm b r then 0 else 4
structure GrO (chk:Gt.Kn->Int) (orc:Orc Sx) (b:Gt.Kn):Prop where
 right:chk b=0->Right b
 h56:∀(r:By)(scope:Int),(za5 chk b r scope=0->orc.d 56 [.st 3 b,.str r,.int .i64 scope] [.st 14,I6,I6]=(some (zc3 b scope,(num b r:Int),0,()):Option (Gt.Gf×Int×Int×J))) /\
  (za5 chk b r scope≠0->∃g k,orc.d 56 [.st 3 b,.str r,.int .i64 scope] [.st 14,I6,I6]=(some (g,k,za5 chk b r scope,()):Option (Gt.Gf×Int×Int×J)))
 h63:∀(r:By)(scope:Int),orc.d 63 [.st 3 b,.int .i64 scope,.sl .str [r]] [I6]=(some (za5 chk b r scope,()):Option (Int×J))
 h58:∀(N:List (List Nat))(from_:Nat)(wo:Int),Web N->from_<N.length->orc.d 58 [.sl LI (za6 N),.int .i64 (from_:Int),.int .i64 wo] [LI]=(some (zeI N from_ wo,()):Option (List Int×J))
 h61:∀b scope (from_:Nat) (wo:Int),Right b->from_<b.Ka.length->orc.d 61 [.st 19 (zpQ b scope),.int .i64 (from_:Int),.int .i64 wo] [.sl .bool]=(some (Bfs.inD (zeI (outs b scope) from_ wo),()):Option (List Bool×J))
 h60:∀b scope,Right b->orc.d 60 [.st 3 b,.int .i64 scope] [.st 19]=(some (zpQ b scope,()):Option (Gt.Wb×J))
 h62:∀(b:Gt.Kn)(r:By),Right b->orc.d 62 [.st 3 b,.str r] [I6]=(some (zfF b r,()):Option (Int×J))
 h59:∀b scope (l:List Nat),Right b->(∀i∈l,i<b.Ka.length)->l.length<=1000000->orc.d 59 [.st 14 (zc3 b scope),.sl I6 (ofN l)] [LS]=(some (zbd b l,()):Option (List By×J))
variable{chk:Gt.Kn->Int}{orc:Orc Sx}
theorem zjc{b:Gt.Kn}(K:GrO chk orc b){r:By}{scope:Int}(h:za5 chk b r scope=0):Right b/\zbm b r:=by
 unfold za5 at h;split at h;·rename_i h1;exact absurd h h1
 ·rename_i h1;split at h;·cases h
  ·split at h;·rename_i h2;exact ⟨K.right (by simpa using h1),h2⟩
   ·cases h
theorem Right.dist_len{b:Gt.Kn}(hb:Right b)(scope wo:Int):(zeI (outs b scope) (num b b.root) wo).length=b.Ka.length:=by obtain ⟨w1,w2,w3,w4,w5⟩:=hb.web scope;rw[Bfs.dist_len w1.lt (by rw[w3];exact (hb.num_lt hb.root).1),w3]
end Tryz
end Pe
end
