/- PROVED HERE: a part of the seat's proofs; see the text that holds the claim's theorem. -/
import Derived.Test.YtojfjgjdheiffaaGreatDoorNm
import Derived.Shelf.LaysM
import Derived.Shelf.Slices.Reverse
import Derived.Lib.OwnBridge
import Derived.Test.YtojfjgjdheiffaaGreatDoorBoP
section
/- What Paths computes, and what its iterator keeps between rounds. -/
set_option maxRecDepth 100000
namespace Go.Proofs.YtojfjgjdheiffaaGreatDoor
open Go Go.RowKit Go.Shelf Pe
def zzb(has:List (Int×Int)->Int->Int->Option Bool)(k:Nat):List Int->List (Int×Int)->Option (List (Int×Int))
 |[],L=>some L|j::js,L=>if 200000<L.length then some L else match has L k j with
   |none=>none|some true=>zzb has k js L|some false=>zzb has k js (L++[(j,(k:Int))])
def goS(has:List (Int×Int)->Int->Int->Option Bool)(path:List (Int×Int)->Int->Option (List By))(outs:List (List Int))(i most:Int):Nat->Nat->List (Int×Int)->List (List By)->Option (Option (List (List By)))
 |0,_,_,_=>none|fuel+1,k,L,vs=>match L[k]? with
   |none=>some (some vs)
   | some (last,_)=>if k=200000 then some none else
     let go:=λvs'=>(at? outs last).bind λrow=>bif Nat.ble row.length lim then (zzb has k row L).bind λL'=>goS has path outs i most fuel (k+1) L' vs' else none
     if last=i then (path L k).bind λr=>if (vs.length:Int)+1=most then some (some (vs++[r])) else go (vs++[r])
     else go vs
section
variable{S:Nat->Type}(un:Uni S)
def PathR(D:Dat)(W:World)(r:List By)(v:Value):Prop:=DR un D W [.sl .str] (sg (u:= .sl .str) r) [v]
def zzd(D:Dat)(W:World)(vs:List (List By))(vals:List Value):Prop:=vals.length=vs.length/\∀(i:Nat) r,vs[i]?=some r->∃v,vals[i]?=some v/\PathR un D W r v
structure PaD (z s:Nat) (Dc:Dat) (gus:List U) (gt:ElL S gus) (gc:List Value) (outs:List (List Int)) (outv:Value) (Ba:Nat) (lv ov:Value) (vals:List Value) (vs:List (List By)) (D:Dat) (W:World):Prop where
 hD:∀b o,D b o->b<W.heap.size/\(b<z\/z+4<=b)/\(b<s\/s+9<=b)/\b≠Ba/\lv.ownBlock≠some b/\ov.ownBlock≠some b
 sub:∀b o,D b o->Dc b o\/z<=b
 gD:DR un D W gus gt gc
 oD:DR un D W [.sl LI] (sg (u:= .sl LI) outs) [outv]
 vD:zzd un D W vs vals
end
section
variable{S:Nat->Type}{un:Uni S}{z s:Nat}{Dc:Dat}{gus:List U}{gt:ElL S gus}{gc:List Value}{outs:List (List Int)}{outv:Value}{Ba Ba':Nat}{lv lv' ov ov':Value}{vals:List Value}{vs:List (List By)}{D D':Dat}{W W':World}
theorem PathR.mono(g:Ge D W D' W'){vs:List (List By)}{vals:List Value}(h:zzd un D W vs vals):zzd un D' W' vs vals :=
 ⟨h.1,λi r hr=>let ⟨v,h1,h2⟩:=h.2 i r hr;⟨v,h1,DR.mono g h2⟩⟩
theorem PaD.step(h:PaD un z s Dc gus gt gc outs outv Ba lv ov vals vs D W)(hk:∀b o,D b o->W'.heap[b]?=W.heap[b]?)(hs:W.heap.size<=W'.heap.size)
  (hBa:Ba'=Ba\/W.heap.size<=Ba') (hl:lv'.ownBlock=lv.ownBlock\/∃b,lv'.ownBlock=some b/\W.heap.size<=b):PaD un z s Dc gus gt gc outs outv Ba' lv' ov vals vs D W':=by
 have g:Ge D W D W':=⟨λ_ _ h=>h,λk o hk'=>zyu (hk k o hk')⟩;refine ⟨λb o hb=>?_,h.sub,h.gD.mono g,h.oD.mono g,PathR.mono g h.vD⟩;obtain ⟨h1,h2,h3,h4,h5,h6⟩:=h.hD b o hb;refine ⟨by omega,h2,h3,?_,?_,h6⟩
 ·rcases hBa with rfl|hBa;·exact h4
  ·omega
 ·rcases hl with e|⟨b',e,hb'⟩;·rw[e];exact h5
  ·rw[e];intro e';cases e';omega
theorem PaD.hit(h:PaD un z s Dc gus gt gc outs outv Ba lv ov vals vs D W){X Y:World}{rv:Value}{r:List By}(hz:z+4<=s)(hsW:s+9<=W.heap.size)(hBW:Ba<W.heap.size)(hlW:∀b,lv.ownBlock=some b->b<W.heap.size)(hoW:∀b,ov.ownBlock=some b->b<W.heap.size)
  (hx:W.grownBy X (some (s+4))) (hy:Below X.heap.size X Y) (hw:∀b,b<Y.heap.size->b≠s+2->b≠s+4->ov.ownBlock≠some b->W'.heap[b]?=Y.heap[b]?) (hsz:Y.heap.size<=W'.heap.size) (ho:ov'.ownBlock=ov.ownBlock\/ov'.ownBlock=some (Y.heap.size+1))
  (hr:PathR un (zkU D X Y) Y r rv):PaD un z s Dc gus gt gc outs outv Ba lv ov' (vals++[rv]) (vs++[r]) (zkU D X Y) W':=by
 have hsX:=hx.size;have hsY:=hy.size;have k0:∀b o,D b o->W'.heap[b]?=W.heap[b]? :=λb o hb=>by obtain ⟨h1,h2,h3,h4,h5,h6⟩:=h.hD b o hb;exact (hw b (by omega) (by omega) (by omega) h6).trans ((hy.block b (by omega)).trans (hx.block b h1 (λe=>by cases e;omega)))
 have g:Ge D W (zkU D X Y) W':=⟨λ_ _ h=>.inl h,λk o hk'=>zyu (k0 k o hk')⟩;have g2:Ge (zkU D X Y) Y (zkU D X Y) W':=by
  refine ⟨λ_ _ h=>h,λk o hk'=>zyu ?_⟩;rcases hk' with hk' | ⟨h1,h2⟩
  ·obtain ⟨h1,h2,h3,h4,h5,h6⟩:=h.hD k o hk';exact hw k (by omega) (by omega) (by omega) h6
  ·exact hw k h2 (by omega) (by omega) (λe=>by have:=hoW _ e;omega)
 refine ⟨λb o hb=>?_,λb o hb=>?_,h.gD.mono g,h.oD.mono g,?_⟩
 ·rcases hb with hb|⟨h1,h2⟩
  ·obtain ⟨h1,h2,h3,h4,h5,h6⟩:=h.hD b o hb;refine ⟨by omega,h2,h3,h4,h5,?_⟩;rcases ho with e|e;·rw[e];exact h6
   ·rw[e];intro e';cases e';omega
  ·refine ⟨by omega,.inr (by omega),.inr (by omega),by omega,λe=>by have:=hlW _ e;omega,?_⟩;rcases ho with e|e;·rw[e];intro e';have:=hoW _ e';omega
   ·rw[e];intro e';cases e';omega
 ·rcases hb with hb|⟨h1,h2⟩;·exact h.sub b o hb
  ·exact .inr (by omega)
 ·have hv:=PathR.mono g h.vD;have hr':PathR un (zkU D X Y) W' r rv:=DR.mono g2 hr;refine ⟨by simp[hv.1],λi r' hi=>?_⟩;by_cases hlt:i<vs.length;·rw[yAk hlt] at hi;obtain ⟨v,h1,h2⟩:=hv.2 i r' hi;exact ⟨v,by rw[yAk (by rw[hv.1];exact hlt)];exact h1,h2⟩
  ·have hl:=(yAc.1 hi).1;have:i=vs.length:=(by simp at hl;omega);subst this;simp at hi;subst hi;exact ⟨rv,by simp[<-hv.1],hr'⟩
end
theorem zyJ{W:World}{base:Nat}{e:TypeId}{size:Nat}{v:Value}{k:Nat}{xs:List Value}(h:W.ownsRow base e size v k xs):∀b,v.ownBlock=some b->b<W.heap.size:=λb hb=>(h.lt b hb).2
theorem zzB(L:List (Int×Int))(x:Int×Int):zyv (L++[x])=zyv L++[.int .i64 x.1,.int .i64 x.2]:=by simp[zyv]
theorem zy8:∀{L:List (Int×Int)}{k:Nat}{x:Int×Int},L[k]?=some x->(zyv L)[k*2]?=some (.int .i64 x.1)
 |[],_,_,h=>by simp at h
 |y::L,0,x,h=>by simp at h;subst h;rfl
 |y::L,k+1,x,h=>by
   have:=zy8 (L:=L) (k:=k) (x:=x) (by simpa using h);have e:(k+1)*2=k*2+1+1:=by omega
   rw[e];simpa[zyv] using this
theorem zzq:(Tryz.prog.info? 157).map (λi=>(i.zero,i.size,i.bytes))=some (some (.agg #[.int .i64 0,.int .i64 0]),2,16):=by kernel_rfl
theorem zyU(w:World)(x y:Value)(t:TypeId):∀j u,[x,y][j]?=some u->(w.alloc (.cells #[x,y] t)).cell? ((⟨w.heap.size,0,none⟩:Addr).add j)=some u:=by
 intro j u hj
 match j,hj with
 |0,hj=>simp at hj;subst hj;simp[Addr.add]|1,hj=>simp at hj;subst hj;simp[Addr.add]
end Go.Proofs.YtojfjgjdheiffaaGreatDoor
end
section
/- What a yield of Paths' iterator does. -/
set_option maxRecDepth 100000
namespace Go.Proofs.YtojfjgjdheiffaaGreatDoor
open Go Go.RowKit Go.Shelf Pe
attribute [local go_sem] Oper.semAt_some
section
variable{S:Nat->Type}{un:Uni S}
variable{z s:Nat}{w:World}{most i:Int}
variable(x:Nat->Value)
def zzw(un:Uni S)(z s:Nat)(w:World)(most i:Int)(Dc:Dat)(gus:List U)(gt:ElL S gus)(gc:Array Value)(outs:List (List Int))(outv:Value)(rOn rOff rRet:Loop)(res:Option (List (List By)))(W':World):Prop :=
 match res with
 |none=>∃e,zzk z s w rRet e W'|some vs=>∃Ba k lv L ov vals D,PaMem z s w most i gc Ba k lv L ov vals W'/\PaD un z s Dc gus gt gc.toList outs outv Ba lv ov vals vs D W'/\(W'.heap[s+4]?=some (.loop rOn)\/W'.heap[s+4]?=some (.loop rOff))
def zzo(un:Uni S)(z s:Nat)(w:World)(most i:Int)(Dc:Dat)(gus:List U)(gt:ElL S gus)(gc:Array Value)(outs:List (List Int))(outv:Value)(rOn rOff rRet:Loop)(res:Option (List (List By)))(Ba k:Nat)(lv:Value)(L:List (Int×Int))(cont:List (List By)->Option (Option (List (List By))))(e:Ending)(W':World):Prop :=
 (e= .returned (.bool true)/\∃ov vals vs D,PaMem z s w most i gc Ba k lv L ov vals W'/\PaD un z s Dc gus gt gc.toList outs outv Ba lv ov vals vs D W'/\W'.heap[s+4]?=some (.loop rOn)/\(vals.length:Int)<most/\cont vs=some res) \/
 (e= .returned (.bool false)/\zzw un z s w most i Dc gus gt gc outs outv rOn rOff rRet res W')
set_option maxHeartbeats 1000000 in
theorem zzu(m:Nat)(fn:FuncId){gc:Array Value}(hgc:gc.size=8){outv:Value}
  (Dc:Dat) (gus:List U) (gt:ElL S gus) (outs:List (List Int)) (D:Dat) (zct:List (Int×Int)->Int->Option (List By))
  (hPath:∀(D:Dat)(X:World)(lv:Value)(L:List (Int×Int))(k:Int)(r:List By),(∀b o,D b o->b<X.heap.size)->DR un D X gus gt gc.toList->X.ownsRow s 157 2 lv L.length (zyv L)->zct L k=some r ->
   Calls Tryz.prog 115 #[lv,.int .i64 k] X λe X'=>∃pv,e= .returned pv/\Below X.heap.size X X'/\Calls Tryz.prog 59 #[.agg gc,pv] X' λe Y=>∃A rn rc,e= .returned (.slice A rn rc)/\Below X'.heap.size X' Y/\PathR un (zkU D X Y) Y r (.slice A rn rc))
  (hmost:most<=1000) (Ba k:Nat) (lv:Value) (L:List (Int×Int)) (ov:Value) (vals:List Value) (vs:List (List By)) (W:World) (last:Int) (res:Option (List (List By))) (cont:List (List By)->Option (Option (List (List By))))
  (mr:PaMem z s w most i gc Ba k lv L ov vals W) (dr:PaD un z s Dc gus gt gc.toList outs outv Ba lv ov vals vs D W)
  (lr:W.heap[s+4]?=some (.loop (zyx fn (paT z s x) (s+3) .ready none))) (hv:(vals.length:Int)<most)
  (hgo:(if last=i then (zct L k).bind λr=>if (vs.length:Int)+1=most then some (some (vs++[r])) else cont (vs++[r]) else cont vs)=some res) :
  YieldAt Fence.wide m Tryz.prog (s+4) #[.int .i64 last,.func (.func 114) #[] #[.pointer (some ⟨s+7,0,none⟩),.pointer (some ⟨Ba,0,none⟩)]] W
   (zzo un z s w most i Dc gus gt gc outs outv (zyx fn (paT z s x) (s+3) .ready none) (zyx fn (paT z s x) (s+3) .done (some (.exit 0))) (zyx fn (paT z s x) (s+3) .done (some .ret)) res Ba k lv L cont):=by
 by_cases hi:last=i
 ·rw[if_pos hi] at hgo;cases hp:zct L k with
  |none=>rw[hp] at hgo;cases hgo|some r =>
    rw[hp] at hgo;simp only[yAB] at hgo;subst hi;have hlt4:s+4<W.heap.size:=(yAE.1 lr).1;have hDX:∀X,W.grownBy X (some (s+4))->Ge D W D X:=λX hx=>⟨λ_ _ h=>h,λb o hb=>zyu (hx.block b (dr.hD b o hb).1 (λe=>by have:=(dr.hD b o hb).2.2.1;have:=yAS e;omega))⟩
    refine (paHit x m fn hgc (by omega)
     (λX pv X'=>Calls Tryz.prog 59 #[.agg gc,pv] X' λe Y=>∃A rn rc,e= .returned (.slice A rn rc)/\Below X'.heap.size X' Y/\PathR un (zkU D X Y) Y r (.slice A rn rc))
     (λX rv Y=>PathR un (zkU D X Y) Y r rv)
     (λX hx=>hPath D X lv L k r (λb o hb=>yAq (dr.hD b o hb).1 hx.size) (dr.gD.mono (hDX X hx)) (mr.rowL.kept hx (zys mr.rowL lr λcur e=>by cases e)) hp)
     (λX pv X' _ _ hq=>hq) mr lr).mono ?_
    rintro e W' ⟨X,Y,rv,ov',hx,hy,hq,hw,hsz,hov,m',hend⟩
    have d':=dr.hit (W':=W') (ov':=ov') mr.zs mr.sz (yAE.1 mr.hA).1 (zyJ mr.rowL) (zyJ mr.rowO) hx hy hw hsz hov hq;have hlen:vals.length=vs.length:=dr.vD.1;rcases hend with ⟨rfl,hne,hon⟩|⟨rfl,heq,hoff⟩
    ·rw[if_neg (by rw[<-hlen];exact hne)] at hgo;exact .inl ⟨rfl,ov',_,_,_,m',d',hon,by simp;omega,hgo⟩
    ·rw[if_pos (by rw[<-hlen];exact heq)] at hgo;cases hgo;exact .inr ⟨rfl,Ba,k,lv,L,ov',_,_,m',d',.inr hoff⟩
 ·rw[if_neg hi] at hgo;refine (paOn x m fn last hi mr lr).mono ?_
  rintro e W' ⟨rfl,m',hl',hg⟩
  refine .inl ⟨rfl,ov,vals,vs,D,m',?_,hl',hv,hgo⟩;exact dr.step (λb o hb=>hg.block b (dr.hD b o hb).1 (λe=>by have:=(dr.hD b o hb).2.2.1;have:=yAS e;omega)) hg.size (.inl rfl) (.inl rfl)
end
end Go.Proofs.YtojfjgjdheiffaaGreatDoor
end
section
/- The iterator of Paths' loop. -/
set_option maxRecDepth 100000
namespace Go.Proofs.YtojfjgjdheiffaaGreatDoor
open Go Go.RowKit Go.Shelf Pe
attribute [local go_sem] Oper.semAt_some
theorem PaMem.heaps{z s:Nat}{w:World}{most i:Int}{gc:Array Value}{Ba k:Nat}{lv:Value}{L:List (Int×Int)}{ov:Value}{vals:List Value}{W W':World}(h:PaMem z s w most i gc Ba k lv L ov vals W)(hg:W.grownBy W' none)(hk:∀b:Nat,W'.heap[b]?=W.heap[b]?):PaMem z s w most i gc Ba k lv L ov vals W' :=
 ⟨(hk _).trans h.hM,h.hR1.imp λ_ x=>(hk _).trans x,h.hR2.imp λ_ x=>(hk _).trans x,(hk _).trans h.hG,(hk _).trans h.hI,(hk _).trans h.hO,(hk _).trans h.hK,(hk _).trans h.hG2,(hk _).trans h.hL,(hk _).trans h.hA,h.hBa,h.rowL.kept hg (Classical.em _),h.rowO.kept hg (Classical.em _),h.below.grown hg (by have:=h.below.size;have:=h.zw;omega) (λk e=>by cases e),h.zw,h.zs,yAo h.sz hg.size⟩
theorem PaMem.calls{z s:Nat}{w:World}{most i:Int}{gc:Array Value}{Ba k:Nat}{lv:Value}{L:List (Int×Int)}{ov:Value}{vals:List Value}{W W':World}(h:PaMem z s w most i gc Ba k lv L ov vals W)(hb:Below W.heap.size W W'):PaMem z s w most i gc Ba k lv L ov vals W':=by have hk:∀{b:Nat}{o:Obj},W.heap[b]?=some o->W'.heap[b]?=some o:=λ{b o} h=>(hb.block b (yAE.1 h).1).trans h;exact ⟨hk h.hM,h.hR1.imp λ_ x=>hk x,h.hR2.imp λ_ x=>hk x,hk h.hG,hk h.hI,hk h.hO,hk h.hK,hk h.hG2,hk h.hL,hk h.hA,h.hBa,zyB h.rowL hb,zyB h.rowO hb,h.below.trans (hb.mono (by have:=h.sz;have:=h.zs;omega)),h.zw,h.zs,yAo h.sz hb.size⟩
theorem zyQ{z s:Nat}{w:World}{most i:Int}{gc:Array Value}{Ba k:Nat}{lv:Value}{L:List (Int×Int)}{ov:Value}{vals:List Value}{W w8:World}(_:PaMem z s w most i gc Ba k lv L ov vals W){j kk:Int}{v':Value}
  (hg8:(W.alloc (Obj.cells #[.int .i64 j,.int .i64 kk] 157)).grownBy w8 lv.ownBlock):∀b:Nat,b<W.heap.size->b≠s+7->lv.ownBlock≠some b->(w8.setCell ⟨s+7,0,none⟩ v').heap[b]?=W.heap[b]? :=λb hlt h1 h3 =>
 ((zyq w8 (s+7) v').block b (yAq hlt (by have:=hg8.size;simp at this;omega)) λe=>h1 (yAS e)).trans ((hg8.block b (by simp;omega) λe=>h3 e.symm).trans (Below.heap_alloc _ _ _ hlt))
theorem PaMem.push{z s:Nat}{w:World}{most i:Int}{gc:Array Value}{Ba k:Nat}{lv:Value}{L:List (Int×Int)}{ov:Value}{vals:List Value}{W w8:World}(h:PaMem z s w most i gc Ba k lv L ov vals W){j kk:Int}{v':Value}
  (hown:w8.ownsRow s 157 2 v' (L.length+1) (zyv L++[.int .i64 j,.int .i64 kk])) (hg8:(W.alloc (Obj.cells #[.int .i64 j,.int .i64 kk] 157)).grownBy w8 lv.ownBlock) (hL8:w8.heap[s+7]?=some (.cells #[lv] 158 (0,0))):PaMem z s w most i gc Ba k v' (L++[(j,kk)]) ov vals (w8.setCell ⟨s+7,0,none⟩ v'):=by
 have hz:=h.zs;have hzw:=h.zw;have hba:=h.hBa;have hsz:=h.sz;have hk:∀{b:Nat}{o:Obj},W.heap[b]?=some o->b≠s+7->(∀cur,o≠ .cells cur 157 (0,0))->(w8.setCell ⟨s+7,0,none⟩ v').heap[b]?=some o:=λ{b o} hb h1 h3=>by
  refine (zyQ h hg8 b (yAE.1 hb).1 h1 ?_).trans hb;rcases zys h.rowL hb h3 with e|e;·rw[e];simp
  ·exact e
 have hg9:=zyq w8 (s+7) v';have hs8:=hg8.size;simp at hs8;have r1:=hown.kept hg9 (zys hown hL8 λcur e=>by cases e);have o8:=(h.rowO.alloc (Obj.cells #[.int .i64 j,.int .i64 kk] 157)).kept hg8 (zy1 h.rowO h.rowL (by decide));have o9:=o8.kept hg9 (zys o8 hL8 λcur e=>by cases e);have hBa':Ba≠s+7:=by omega
 refine ⟨hk h.hM (by omega) (λcur e=>by cases e),h.hR1.imp λ_ hx=>hk hx (by omega) (λcur e=>by cases e),h.hR2.imp λ_ hx=>hk hx (by omega) (λcur e=>by cases e),hk h.hG (by omega) (λcur e=>by cases e),hk h.hI (by omega) (λcur e=>by cases e),hk h.hO (by omega) (λcur e=>by cases e),hk h.hK (by omega) (λcur e=>by cases e),hk h.hG2 (by omega) (λcur e=>by cases e),zyr _ hL8,hk h.hA hBa' (λcur e=>by cases e),hba,?_,o9,?_,hzw,hz,by have:=hg9.size;omega⟩;·rw[zzB,yAI,List.length_singleton];exact r1
 ·have b0:=h.below.size;refine ((h.below.alloc (by omega) _).grown hg8 (by simp;omega) λb e=>?_).grown hg9 (by omega) (λb e=>by cases e;omega);have:=(h.rowL.lt b e).1;omega
theorem PaMem.next{z s:Nat}{w:World}{most i:Int}{gc:Array Value}{Ba k:Nat}{lv:Value}{L:List (Int×Int)}{ov:Value}{vals:List Value}{W:World}(h:PaMem z s w most i gc Ba k lv L ov vals W):PaMem z s w most i gc W.heap.size (k+1) lv L ov vals (W.alloc (Obj.cells #[.int .i64 ((k:Int)+1)] 3)):=by have hk:∀{b:Nat}{o:Obj},W.heap[b]?=some o->(W.alloc (Obj.cells #[.int .i64 ((k:Int)+1)] 3)).heap[b]?=some o:=λ{b o} hb=>(Below.heap_alloc _ _ _ (yAE.1 hb).1).trans hb;exact ⟨hk h.hM,h.hR1.imp λ_ x=>hk x,h.hR2.imp λ_ x=>hk x,hk h.hG,hk h.hI,hk h.hO,hk h.hK,hk h.hG2,hk h.hL,World.alloc_heap_new W _,by have:=h.sz;omega,h.rowL.alloc _,h.rowO.alloc _,h.below.alloc (by have:=h.below.size;have:=h.zw;omega) _,h.zw,h.zs,by have:=h.sz;simp;omega⟩
def paMu(v:Value)(w:World):Nat:=match v with | .pointer (some a)=>(match w.cell? a with|some (.int _ k)=>200001 - k.toNat|_=>0)|_=>0
theorem zzl{S:Nat->Type}{un:Uni S}{z s:Nat}{w:World}{most i:Int}{gc:Array Value}{Ba k:Nat}{lv:Value}{L:List (Int×Int)}{ov:Value}{vals:List Value}{vs:List (List By)}{D Dc:Dat}{W W3:World}{gus:List U}{gt:ElL S gus}{gl:List Value}{outs:List (List Int)}{outv:Value}{rOn:Loop}{hasO:List (Int×Int)->Int->Int->Option Bool}{zct:List (Int×Int)->Int->Option (List By)}{fuel:Nat}{res:Option (List (List By))}
  (hk:k<200000) (cA:W3.cell? ⟨Ba,0,none⟩=some (.int .i64 (k:Int))) (mr:PaMem z s w most i gc Ba k lv L ov vals W) (dr:PaD un z s Dc gus gt gl outs outv Ba lv ov vals vs D W) (lr:W.heap[s+4]?=some (.loop rOn)) (hL0:0<L.length) (hL:L.length<=200001) (hv:(vals.length:Int)<most) (hgo:goS hasO zct outs i most fuel (k+1) L vs=some res) :
  (∃(Ba k1:Nat) (lv:Value) (L:List (Int×Int)) (ov:Value) (vals:List Value) (vs:List (List By)) (D:Dat) (fuel:Nat),Value.pointer (some ⟨W.heap.size,0,none⟩)= .pointer (some ⟨Ba,0,none⟩)/\PaMem z s w most i gc Ba k1 lv L ov vals (W.alloc (Obj.cells #[.int .i64 ((k:Int)+1)] 3))/\PaD un z s Dc gus gt gl outs outv Ba lv ov vals vs D (W.alloc (Obj.cells #[.int .i64 ((k:Int)+1)] 3)) /\
   (W.alloc (Obj.cells #[.int .i64 ((k:Int)+1)] 3)).heap[s+4]?=some (.loop rOn)/\0<L.length/\L.length<=200001/\(vals.length:Int)<most/\goS hasO zct outs i most fuel k1 L vs=some res) /\
  paMu (.pointer (some ⟨W.heap.size,0,none⟩)) (W.alloc (Obj.cells #[.int .i64 ((k:Int)+1)] 3))<paMu (.pointer (some ⟨Ba,0,none⟩)) W3:=by
 refine ⟨⟨W.heap.size,k+1,lv,L,ov,vals,vs,D,fuel,rfl,mr.next,dr.step (λb o hb=>Below.heap_alloc _ _ _ (dr.hD b o hb).1) (by simp) (.inr (yAi _)) (.inl rfl),(Below.heap_alloc _ _ _ (yAE.1 lr).1).trans lr,hL0,hL,hv,hgo⟩,?_⟩;have c2:=(zyp (World.alloc_heap_new W (Obj.cells #[.int .i64 ((k:Int)+1)] 3))).1;simp only[paMu,cA,c2];omega
theorem zzp{S:Nat->Type}{un:Uni S}{D:Dat}{W:World}{outs:List (List Int)}{A:Option Addr}{n k:Nat}(h:DR un D W [.sl LI] (sg (u:= .sl LI) outs) [.slice A n k]){j:Nat}{row:List Int}(hj:outs[j]?=some row) :
  ∃b o Ar cr,A=some ⟨b,o,none⟩/\j<n/\W.cell? ⟨b,o+j,none⟩=some (.slice Ar row.length cr)/\DR un D W [.sl I6] (sg (u:= .sl I6) row) [.slice Ar row.length cr]:=by
 cases h with
 |sl0 A c h0 h=>have h0:outs=[]:=h0;subst h0;simp at hj
 |sl b off c cs hc h1 h2 h =>
   have g1:=h1 j row hj;have g2:=h2 j row hj;have hlt:=(yAc.1 hj).1;generalize cs j=cj at g1 g2;have e0:off+j*U.size un LI=off+j:=(by simp[U.size]);rw[e0] at g1;have key:∃Ar cr,cj=[.slice Ar row.length cr]:=by
    cases g2 with
    |sl0 A c h0 h=>have h0:row=[]:=h0;subst h0;cases h;exact ⟨A,c,rfl⟩
    |sl b off c cs hc h1 h2 h=>cases h;exact ⟨_,c,rfl⟩
   obtain ⟨Ar,cr,rfl⟩:=key;exact ⟨b,off,Ar,cr,rfl,hlt,(g1 0 _ rfl).2,g2⟩
theorem zzj{S:Nat->Type}{un:Uni S}{D:Dat}{W:World}{row:List Int}{A:Option Addr}{n k:Nat}(h:DR un D W [.sl I6] (sg (u:= .sl I6) row) [.slice A n k]){j:Nat}{x:Int}(hj:row[j]?=some x) :
  ∃b o,A=some ⟨b,o,none⟩/\W.cell? ⟨b,o+j,none⟩=some (.int .i64 x):=by
 cases h with
 |sl0 A c h0 h=>have h0:row=[]:=h0;subst h0;simp at hj
 |sl b off c cs hc h1 h2 h =>
   have g1:=h1 j x hj;have g2:=h2 j x hj;generalize cs j=cj at g1 g2;have e0:off+j*U.size un I6=off+j:=(by simp[U.size]);rw[e0] at g1;cases g2 with
   |int h=>cases h;exact ⟨b,off,rfl,(g1 0 _ rfl).2⟩
section
variable{S:Nat->Type}{un:Uni S}
variable{z s:Nat}{w:World}{most i:Int}
variable(x:Nat->Value)
set_option maxHeartbeats 4000000 in
theorem pa72(n:Nat)(fn:FuncId){gc:Array Value}(hgn:gc.size=8){root:Int}(hg5:gc[5]?=some (.int .i64 root)){A6:Option Addr}{n6 k6:Nat}(hg6:gc[6]?=some (.slice A6 n6 k6))
  (Dc:Dat) (gus:List U) (gt:ElL S gus) (outs:List (List Int)) (D:Dat)
  (hasO:List (Int×Int)->Int->Int->Option Bool) (zct:List (Int×Int)->Int->Option (List By))
  (hHas:∀(X:World)(lv:Value)(L:List (Int×Int))(k j:Int)(b:Bool),s<=X.heap.size->X.ownsRow s 157 2 lv L.length (zyv L)->hasO L k j=some b->Calls Tryz.prog 116 #[lv,.int .i64 k,.int .i64 j] X λe X'=>e= .returned (.bool b)/\Below X.heap.size X X')
  (hPath:∀(D:Dat)(X:World)(lv:Value)(L:List (Int×Int))(k:Int)(r:List By),(∀b o,D b o->b<X.heap.size)->DR un D X gus gt gc.toList->X.ownsRow s 157 2 lv L.length (zyv L)->zct L k=some r ->
   Calls Tryz.prog 115 #[lv,.int .i64 k] X λe X'=>∃pv,e= .returned pv/\Below X.heap.size X X'/\Calls Tryz.prog 59 #[.agg gc,pv] X' λe Y=>∃A rn rc,e= .returned (.slice A rn rc)/\Below X'.heap.size X' Y/\PathR un (zkU D X Y) Y r (.slice A rn rc))
  (hmost:most<=1000) (hmost1:1<=most)
  (W:World) (hsz:W.heap.size=s+5) (hzs:z+4<=s) (hzw:w.heap.size=z)
  (hM:W.heap[z+1]?=some (.cells #[.int .i64 most] 3 (0,0))) (hR1:∃v,W.heap[z+2]?=some (.cells #[v] 44 (0,0))) (hR2:∃v,W.heap[z+3]?=some (.cells #[v] 27 (0,0)))
  (hG:W.heap[s]?=some (.cells gc 78 (0,0)))
  (hI:W.heap[s+1]?=some (.cells #[.int .i64 i] 3 (0,0))) (hO:W.heap[s+2]?=some (.cells #[.slice none 0 0] 44 (0,0))) (hK:W.heap[s+3]?=some (.deferred (some [])))
  (hl:W.heap[s+4]?=some (.loop (zyx fn (paT z s x) (s+3) .ready none)))
  (hbel:Below z w W) (hD:∀b o,D b o->b<W.heap.size/\(b<z\/z+4<=b)/\b<s) (hsub:∀b o,D b o->Dc b o\/z<=b)
  (gD:DR un D W gus gt gc.toList)
  (oD:DR un D W [.sl LI] (sg (u:= .sl LI) outs) [.slice A6 n6 k6])
  (fuel:Nat) (res:Option (List (List By))) (hgo:goS hasO zct outs i most fuel 0 [(root, -1)] []=some res) :
  CallsIn Fence.wide n Tryz.prog 72 #[.agg gc,.func (.yield (s+4)) #[] #[]] W λe W' =>
   (∃v,e= .returned v)/\zzw un z s w most i Dc gus gt gc outs (.slice A6 n6 k6)
    (zyx fn (paT z s x) (s+3) .ready none)
    (zyx fn (paT z s x) (s+3) .done (some (.exit 0)))
    (zyx fn (paT z s x) (s+3) .done (some .ret)) res W':=by
 have c5:(W.alloc (Obj.cells gc 78)).cell? ⟨s+5,5,none⟩=some (.int .i64 root):=by have h:=World.alloc_heap_new W (Obj.cells gc 78);rw[hsz] at h;simp only[World.cell?,h];exact hg5
 refine callsIn_of_wp Tryz.func72 rfl trivial ?_ rfl;simp only[Tryz.ntmps72,List.size_toArray,yAw,List.length_nil,Nat.reduceAdd,Nat.reduceSub,Array.replicate_succ,Array.replicate_zero,List.push_toArray,List.append_toArray,yBb,yA3]
 gi_wp2_with fail
 simp only[yBx,Nat.reduceAdd];obtain ⟨W2,hW2⟩:∃W2,(((W.alloc (Obj.cells gc 78)).alloc (Obj.cells #[Value.int IntKind.i64 root,Value.int IntKind.i64 (-1)] 157)).alloc (Obj.cells #[Value.slice (some { block:=s+6,off:=0 }) 1 1] 158)).alloc (Obj.cells #[Value.int IntKind.i64 0] 3)=W2:=⟨_,rfl⟩;rw[hW2];have hs2:W2.heap.size=s+9:=by rw[<-hW2];simp[hsz]
 have b2:Below W.heap.size W W2:=by rw[<-hW2];exact ((((Below.refl _ W).alloc (by simp) _).alloc (by simp) _).alloc (by simp;omega) _).alloc (by simp;omega) _
 have k2:∀{b:Nat}{o:Obj},W.heap[b]?=some o->W2.heap[b]?=some o:=λ{b o} hb=>(b2.block b (yAE.1 hb).1).trans hb;have hG2:W2.heap[s+5]?=some (.cells gc 78 (0,0)):=by rw[<-hW2,<-hsz];exact (Below.heap_alloc _ _ _ (by simp;omega)).trans ((Below.heap_alloc _ _ _ (by simp;omega)).trans ((Below.heap_alloc _ _ _ (by simp)).trans (World.alloc_heap_new W _)))
 have hR:W2.heap[s+6]?=some (.cells #[Value.int IntKind.i64 root,Value.int IntKind.i64 (-1)] 157 (0,0)):=by rw[<-hW2];refine (Below.heap_alloc _ _ _ (by simp;omega)).trans ((Below.heap_alloc _ _ _ (by simp;omega)).trans ?_);have:=World.alloc_heap_new (W.alloc (Obj.cells gc 78)) (Obj.cells #[Value.int IntKind.i64 root,Value.int IntKind.i64 (-1)] 157);rwa[World.size_alloc,hsz] at this
 have hL:W2.heap[s+7]?=some (.cells #[Value.slice (some { block:=s+6,off:=0 }) 1 1] 158 (0,0)):=by rw[<-hW2];refine (Below.heap_alloc _ _ _ (by simp;omega)).trans ?_;have:=World.alloc_heap_new ((W.alloc (Obj.cells gc 78)).alloc (Obj.cells #[Value.int IntKind.i64 root,Value.int IntKind.i64 (-1)] 157)) (Obj.cells #[Value.slice (some { block:=s+6,off:=0 }) 1 1] 158);rwa[World.size_alloc,World.size_alloc,hsz] at this
 have hA:W2.heap[s+8]?=some (.cells #[Value.int IntKind.i64 (0:Nat)] 3 (0,0)):=by rw[<-hW2];have:=World.alloc_heap_new (((W.alloc (Obj.cells gc 78)).alloc (Obj.cells #[Value.int IntKind.i64 root,Value.int IntKind.i64 (-1)] 157)).alloc (Obj.cells #[Value.slice (some { block:=s+6,off:=0 }) 1 1] 158)) (Obj.cells #[Value.int IntKind.i64 0] 3);rwa[World.size_alloc,World.size_alloc,World.size_alloc,hsz] at this
 clear hW2
 have m2:PaMem z s w most i gc (s+8) 0 (Value.slice (some { block:=s+6,off:=0 }) 1 1) [(root, -1)] (.slice none 0 0) [] W2 :=
  ⟨k2 hM,hR1.imp λ_ h=>k2 h,hR2.imp λ_ h=>k2 h,k2 hG,k2 hI,k2 hO,k2 hK,hG2,hL,hA,yAi _,
   ⟨rfl,.inr ⟨s+6,1,_,rfl,by omega,hR,by simp,by simp[maxLen],by simp,by simp[zyv]⟩⟩,⟨rfl,.inl ⟨rfl,rfl⟩⟩,hbel.trans (b2.mono (by omega)),hzw,hzs,by omega⟩
 have d2:PaD un z s Dc gus gt gc.toList outs (.slice A6 n6 k6) (s+8) (Value.slice (some { block:=s+6,off:=0 }) 1 1) (.slice none 0 0) [] [] D W2:=by have g:Ge D W D W2:=⟨λ_ _ h=>h,λk o hk'=>zyu (b2.block k (hD k o hk').1)⟩;refine ⟨λb o hb=>?_,hsub,gD.mono g,oD.mono g,rfl,by simp⟩;obtain ⟨h1,h2,h3⟩:=hD b o hb;exact ⟨by omega,h2,.inl h3,by omega,by simp[Value.ownBlock];omega,by simp[Value.ownBlock]⟩
 have l2:=k2 hl;clear hR hL hA hG2 hM hR1 hR2 hG hI hO hK hl k2 b2 hbel gD oD hD hsub
 gi_loopw [5] (λv5 wr=>∃(Ba k:Nat) (lv:Value) (L:List (Int×Int)) (ov:Value) (vals:List Value) (vs:List (List By)) (D:Dat) (fuel:Nat),v5= .pointer (some ⟨Ba,0,none⟩) /\
   PaMem z s w most i gc Ba k lv L ov vals wr /\
   PaD un z s Dc gus gt gc.toList outs (.slice A6 n6 k6) Ba lv ov vals vs D wr /\
   wr.heap[s+4]?=some (.loop (zyx fn (paT z s x) (s+3) .ready none)) /\
   0<L.length/\L.length<=200001/\(vals.length:Int)<most/\goS hasO zct outs i most fuel k L vs=some res)
  paMu
 case atStart=>exact ⟨s+8,0,_,_,_,_,_,D,fuel,rfl,m2,d2,l2,by simp,by simp,by simp;omega,hgo⟩
 case round =>
  clear m2 d2 l2 hs2 hgo;obtain ⟨Ba,k,lv,L,ov,vals,vs,D,fuel,rfl,mr,dr,lr,hL0,hL,hv,hgo⟩:=hrel
  rename World=>W3
  obtain ⟨g,cap,rfl,hgs,hgc⟩:∃g cap,lv= .slice (some ⟨g,0,none⟩) L.length cap/\s<=g/\∀j v,(zyv L)[j]?=some v->W3.cell? ⟨g,j,none⟩=some v:=by
   rcases mr.rowL.2 with ⟨_,h0⟩|⟨g,cap,cur,rfl,hgs,hgb,hc1,hc2,hc3,hc4⟩;·omega
   ·refine ⟨g,cap,rfl,hgs,λj v hj=>?_⟩;rw[<-hc4,yAD] at hj;split at hj;·simpa[World.cell?,hgb] using hj
    ·cases hj
  obtain ⟨cL,fL⟩:=zyp mr.hL;obtain ⟨cA,fA⟩:=zyp mr.hA;cases fuel with
  |zero=>cases hgo|succ fuel =>
  rw[goS] at hgo;cases hk:L[k]? with
  |none =>
    rw[hk] at hgo;obtain rfl:some vs=res:=yAS hgo;have hkl:¬((k:Int)<(L.length:Int)):=by have:=List.getElem?_eq_none_iff.1 hk;omega
    gi_wp2_with fail
    go_end0
    exact ⟨⟨_,rfl⟩,Ba,k,_,L,ov,vals,D,mr,dr,.inl lr⟩
  |some x =>
    obtain ⟨last,bf⟩:=x;rw[hk] at hgo;dsimp only at hgo;have hkl:(k:Int)<(L.length:Int):=by have:=(yAc.1 hk).1;omega
    have cK:=hgc _ _ (zy8 hk);by_cases hmb:k=200000
    ·rw[if_pos hmb] at hgo;cases hgo;have hy:=paNil x (n - 1) fn mr lr;obtain ⟨fn',tmps',assign',body',hy,hR⟩:=hy;subst hmb
     gi_wp2_with fail
     refine ⟨λh=>(by cases h),hR.mono ?_⟩
     rintro e W4 ⟨rfl,hr⟩
     gi_wp2_with fail
     ((try simp only[Exit.inBlock,Exit.then]);refine bodyPost_ret (results_none rfl _ _ _) rfl ?_)
     exact ⟨⟨_,rfl⟩,_,rfl,hr⟩
    rw[if_neg hmb] at hgo;have hmb':(k:Int)≠200000:=by omega
    have hk2:k<200000:=(by omega);have cA3:=cA;obtain ⟨fn',tmps',assign',body',hy,hR⟩:=zzu x (n - 1) fn hgn Dc gus gt outs D zct hPath hmost Ba k _ L ov vals vs W3 last res (λvs'=>(at? outs last).bind λrow=>bif Nat.ble row.length lim then (zzb hasO k row L).bind λL'=>goS hasO zct outs i most fuel (k+1) L' vs' else none) mr dr lr hv hgo
    gi_wp2_with fail
    refine ⟨λh=>(by cases h),hR.mono ?_⟩;clear hR hy fn' tmps' assign' body' hgo mr dr lr hv ov vals vs cL fL cA fA cK hgc
    rintro e W4 (⟨rfl,ov,vals,vs,D,mr,dr,lr,hv,hgo⟩|⟨rfl,hend⟩)
    ·cases hrw:at? outs last with
     |none=>rw[hrw] at hgo;cases hgo|some row =>
     rw[hrw] at hgo;simp only[yAB] at hgo;obtain ⟨hlim,hgo⟩:=zae hgo;have hlim:=Nat.le_of_ble_eq_true hlim;unfold lim at hlim;cases hadd:zzb hasO k row L with
     |none=>rw[hadd] at hgo;cases hgo|some L' =>
     rw[hadd] at hgo;simp only[yAB] at hgo;obtain ⟨ln,rfl,hln⟩:=znm hrw;obtain ⟨bo,oo,Ar,cr,rfl,hln6,cR,hrowD⟩:=zzp dr.oD hln;have hgc:W4.cell? ⟨g,k*2,none⟩=some (.int .i64 (ln:Int)):=by have:=World.ownsRow.cellAt mr.rowL (k*2) (by have:=(yAc.1 hk).1;omega);rw[this];exact zy8 hk
     obtain ⟨cL,fL⟩:=zyp mr.hL;obtain ⟨cA,fA⟩:=zyp mr.hA;have cG:W4.cell? ⟨s+5,6,none⟩=some (.slice (some ⟨bo,oo,none⟩) n6 k6):=by simp[World.cell?,mr.hG2,hg6]
     gi_wp2_with fail
     gi_region
     obtain ⟨W5,hW5⟩:∃W5,W4.drew=W5:=⟨_,rfl⟩;have hg5:W4.grownBy W5 none:=by rw[<-hW5];exact zyE (World.grownBy_refl' W4)
     have hk5:∀b:Nat,W5.heap[b]?=W4.heap[b]? :=λb=>by rw[<-hW5];rfl
     have m5:=mr.heaps hg5 hk5;have d5:=dr.step (W':=W5) (Ba':=Ba) (lv':= .slice (some ⟨g,0,none⟩) L.length cap) (λb o hb=>hk5 b) hg5.size (.inl rfl) (.inl rfl);have l5:=(hk5 _).trans lr;have r5:DR un D W5 [.sl I6] (sg (u:= .sl I6) row) [.slice Ar row.length cr]:=hrowD.mono ⟨λ_ _ h=>h,λk o hk'=>zyu (hk5 k)⟩;rw[hW5];clear hW5 hg5 hk5 mr dr lr hrowD cR cG cL fL cA fA hgc
     gi_wp2_with fail
     gi_loopw [41] (λv41 wr=>∃(ix g cap:Nat) (L1:List (Int×Int)),v41= .int .i64 (ix:Int)/\ix<=row.length /\
       PaMem z s w most i gc Ba k (.slice (some ⟨g,0,none⟩) L1.length cap) L1 ov vals wr /\
       PaD un z s Dc gus gt gc.toList outs (.slice (some ⟨bo,oo,none⟩) n6 k6) Ba (.slice (some ⟨g,0,none⟩) L1.length cap) ov vals vs D wr /\
       wr.heap[s+4]?=some (.loop (zyx fn (paT z s x) (s+3) .ready none))/\0<L1.length/\L1.length<=200001 /\
       DR un D wr [.sl I6] (sg (u:= .sl I6) row) [.slice Ar row.length cr]/\zzb hasO k (row.drop ix) L1=some L')
      (λv41 _=>row.length - (intOf v41).toNat)
     case atStart=>exact ⟨0,g,cap,L,rfl,yAA _,m5,d5,l5,hL0,hL,r5,hadd⟩
     case round =>
      clear m5 d5 l5 r5 hadd hL0 hL hk hkl hln hln6;obtain ⟨ix,g,cap,L1,rfl,hix,mr,dr,lr,hL0,hL,hrowD,hadd⟩:=hrel
      rename World=>W6
      obtain ⟨cL,fL⟩:=zyp mr.hL;obtain ⟨cA,fA⟩:=zyp mr.hA;cases hjx:row[ix]? with
      |none =>
        have hge:=List.getElem?_eq_none_iff.1 hjx;have hlt:¬((ix:Int)<(row.length:Int)):=(by omega);rw[yBm hge] at hadd;cases hadd
        gi_wp2_with fail
        exact zzl hk2 cA3 mr dr lr hL0 hL hv hgo
      |some j =>
        obtain ⟨hlt0,hje⟩:=yAc.1 hjx;have hlt:(ix:Int)<(row.length:Int):=by omega
        have hixb:(ix:Int)<4611686018427387904:=(by omega);rw[yAV hlt0,hje,zzb] at hadd;by_cases hmany:200000<L1.length
        ·rw[if_pos hmany] at hadd;have hmany':(200000:Int)<(L1.length:Int):=by omega
         cases hadd;obtain ⟨br,orr,rfl,cj⟩:=zzj hrowD hjx
         gi_wp2_with fail
         exact zzl hk2 cA3 mr dr lr hL0 hL hv hgo
        ·rw[if_neg hmany] at hadd;obtain ⟨br,orr,rfl,cj⟩:=zzj hrowD hjx;have hmany':¬(200000:Int)<(L1.length:Int):=by omega
         cases hb:hasO L1 k j with
         |none=>rw[hb] at hadd;cases hadd|some b =>
         rw[hb] at hadd
         gi_wp2_with fail
         refine ⟨trivial,λh=>(by cases h),(callsIn_wide.2 (hHas W6 _ L1 k j b (by have:=mr.sz;omega) mr.rowL hb)).mono ?_⟩
         rintro e W7 ⟨rfl,hb7⟩
         have hk7:∀{b:Nat}{o:Obj},W6.heap[b]?=some o->W7.heap[b]?=some o:=λ{b o} h=>(hb7.block b (yAE.1 h).1).trans h;have m7:=mr.calls hb7;have d7:=dr.step (W':=W7) (Ba':=Ba) (lv':= .slice (some ⟨g,0,none⟩) L1.length cap) (λb o hb=>hb7.block b (dr.hD b o hb).1) hb7.size (.inl rfl) (.inl rfl);have l7:=hk7 lr;have r7:DR un D W7 [.sl I6] (sg (u:= .sl I6) row) [.slice (some ⟨br,orr,none⟩) row.length cr]:=hrowD.mono ⟨λ_ _ h=>h,λk o hk'=>zyu (hb7.block k (dr.hD k o hk').1)⟩;clear hk7 hb7 mr dr lr hrowD cL fL cA fA cj;obtain ⟨cL,fL⟩:=zyp m7.hL;obtain ⟨cA,fA⟩:=zyp m7.hA;obtain ⟨i0,hi,hz0,hz1,hz2⟩:=info_parts zzq;cases b with
         |true =>
           gi_wp2_with fail
           refine ⟨⟨ix+1,g,cap,L1,rfl,by omega,m7,d7,l7,hL0,hL,r7,hadd⟩,?_⟩;simp only[intOf];omega
         |false =>
           gi_wp2_with (gi_at_builtin;refine wpListIn_append_own_at _ rfl _ _ 158 rfl s 157 i0 (.agg #[.int .i64 0,.int .i64 0]) 2 16 Tryz.underlying158 hi hz0 hz1 hz2 rfl (by decide) _ L1.length (zyv L1) rfl (m7.rowL.alloc _) ⟨W7.heap.size,0,none⟩ 1 1 [.int .i64 j,.int .i64 k] rfl rfl (zyU _ _ _ _) (by simp[Value.oneCell']) (by simp[maxLen];omega) (by omega) (by have:=m7.sz;simp;omega) ?_;intro v' w8 hown' hg8 _ hob8
                        have hL8:w8.heap[s+7]?=some (.cells #[.slice (some ⟨g,0,none⟩) L1.length cap] 158 (0,0)):=(hg8.block (s+7) (by have:=m7.sz;simp;omega) (λe=>by
                         rcases zys m7.rowL m7.hL (λcur e=>by cases e) with e1|e1;·have e:=e.trans e1;cases e
                         ·exact e1 e.symm)).trans ((Below.heap_alloc _ _ _ (by have:=m7.sz;omega)).trans m7.hL)
                        obtain ⟨g2,cap2,rfl⟩:∃g2 cap2,v'= .slice (some ⟨g2,0,none⟩) (L1.length+1) cap2:=by
                         rcases hown'.2 with ⟨_,h0⟩|⟨g',cap',_,e,_⟩;·exact absurd h0 (by omega)
                         ·exact ⟨g',cap',e⟩
                        obtain ⟨cL8,fL8⟩:=zyp hL8
                        go_frame)
           have hkk:=zyQ (v':= .slice (some ⟨g2,0,none⟩) (L1.length+1) cap2) m7 hg8;have m9:=m7.push hown' hg8 hL8;obtain ⟨w9,hw9⟩:∃w9,w8.setCell ⟨s+7,0,none⟩ (.slice (some ⟨g2,0,none⟩) (L1.length+1) cap2)=w9:=⟨_,rfl⟩;rw[hw9] at hkk m9;have hkd:∀b o,D b o->w9.heap[b]?=W7.heap[b]? :=λb o hb=>hkk b (d7.hD b o hb).1 (by have:=(d7.hD b o hb).2.2.1;omega) (d7.hD b o hb).2.2.2.2.1;have hs9:W7.heap.size<=w9.heap.size:=(by have h1:=hg8.size;simp at h1;rw[<-hw9];have:=(zyq w8 (s+7) (.slice (some ⟨g2,0,none⟩) (L1.length+1) cap2)).size;omega);have d9:=d7.step (W':=w9) (Ba':=Ba) (lv':= .slice (some ⟨g2,0,none⟩) (L1.length+1) cap2) hkd hs9 (.inl rfl) (hob8.imp id λe=>⟨_,e,by simp⟩)
           have l9:w9.heap[s+4]?=some (.loop (zyx fn (paT z s x) (s+3) .ready none)):=(hkk _ (by have:=m7.sz;omega) (by omega) (by
            rcases zys m7.rowL l7 (λcur e=>by cases e) with e1|e1;·rw[e1];simp
            ·exact e1)).trans l7
           have r9:DR un D w9 [.sl I6] (sg (u:= .sl I6) row) [.slice (some ⟨br,orr,none⟩) row.length cr]:=r7.mono ⟨λ_ _ h=>h,λk o hk'=>zyu (hkd k o hk')⟩;simp only[hw9];refine ⟨⟨ix+1,g2,cap2,L1++[(j,(k:Int))],rfl,by omega,?_,?_,l9,by simp,by simp;omega,r9,hadd⟩,?_⟩;·rw[yAI,List.length_singleton];exact m9
           ·rw[yAI,List.length_singleton];exact d9
           ·simp only[intOf];omega
    ·gi_wp2_with fail
     ((try simp only[Exit.inBlock,Exit.then]);refine bodyPost_ret (results_none rfl _ _ _) rfl ?_)
     exact ⟨⟨_,rfl⟩,hend⟩
end
end Go.Proofs.YtojfjgjdheiffaaGreatDoor
end
section
/- Paths: its whole walk. -/
set_option maxRecDepth 100000
namespace Go.Proofs.YtojfjgjdheiffaaGreatDoor
open Go Go.RowKit Go.Shelf Pe
attribute [local go_sem] Oper.semAt_some
def zyL(has:List (Int×Int)->Int->Int->Option Bool)(path:List (Int×Int)->Int->Option (List By))(outs:List (List Int))(root i er most:Int)(fuel:Nat):Option (List (List By)×Int) :=
 if er=0 then if most<1\/1000<most then some ([],9) else match goS has path outs i most fuel 0 [(root, -1)] [] with
  |none=>none|some none=>some ([],12)|some (some vs)=>some (vs,0)
 else some ([],er)
theorem zyK{tmps:Array Value}{w:World}{b1 b2:Nat}{v1 v2:Value}(h8:tmps.getD 8 undef= .pointer (some ⟨b1,0,none⟩))(h9:tmps.getD 9 undef= .pointer (some ⟨b2,0,none⟩))(c1:w.heap[b1]?=some (.cells #[v1] 44 (0,0)))(c2:w.heap[b2]?=some (.cells #[v2] 27 (0,0))) :
  (results Tryz.f29 tmps).run Tryz.prog w= .ok (.tuple #[v1,v2]) w:=by
 have h1:=(zyp c1).1;have h2:=(zyp c2).1;have hr:Tryz.f29.results= #[.cell 8 44,.cell 9 27]:=rfl;have a1:∀W,(isAgg 44).run Tryz.prog W= .ok false W:=by intro W;kernel_rfl
 have a2:∀W,(isAgg 27).run Tryz.prog W= .ok false W:=by intro W;kernel_rfl
 have h8':tmps[8]?.getD undef= .pointer (some ⟨b1,0,none⟩):=by simpa using h8
 have h9':tmps[9]?.getD undef= .pointer (some ⟨b2,0,none⟩):=by simpa using h9
 simp[results,h8',h9',asAddr,loadVar,a1,a2,h1,h2,Sem.run_bind,Result.andThen]
def gcA(gc:Array Value)(root:Int)(A6:Option Addr)(n6 k6:Nat):Prop:=∃(q0 q1 q2:ByteArray) (A3 A4 A7:Option Addr) (n3 n4 n7 k3 k4 k7:Nat),gc= #[.string q0,.string q1,.string q2,.slice A3 n3 k3,.slice A4 n4 k4,.int .i64 root,.slice A6 n6 k6,.slice A7 n7 k7]
section
variable{S:Nat->Type}{un:Uni S}
theorem zy2{n:Nat}{w W1:World}{D:Dat}{c:Int}{tmps:Array Value}{o1 o2:Obj}{v1 v2:Value}(hs1:w.heap.size+4<=W1.heap.size)(hb:Below w.heap.size w W1)
  (h8:tmps.getD 8 undef= .pointer (some ⟨w.heap.size+1+1,0,none⟩)) (h9:tmps.getD 9 undef= .pointer (some ⟨w.heap.size+1+1+1,0,none⟩))
  (c1:W1.heap[w.heap.size+2]?=some (.cells #[v1] 44 (0,0))) (c2:W1.heap[w.heap.size+3]?=some (.cells #[v2] 27 (0,0))) :
  bodyPostM Fence.wide n Tryz.prog Tryz.f29 (λe W'=>∃v,e= .returned (.tuple #[v,.int .i64 c])/\Below w.heap.size w W'/\DR un (zkU D w W') W' [.sl LS] (sg (u:= .sl LS) []) [v]) Exit.ret { tmps:=tmps,defers:=[] }
   ((((W1.setCell ⟨w.heap.size+1+1,0,none⟩ (.slice none 0 0)).setCell ⟨w.heap.size+1+1+1,0,none⟩ (.int .i64 c)).alloc o1).alloc o2):=by
 have g1:=zyq W1 (w.heap.size+2) (.slice none 0 0);have r1:=zyr (.slice none 0 0) c1;have r2:=(g1.block (w.heap.size+3) (by omega) (λe=>by have:=yAS e;omega)).trans c2;obtain ⟨Wa,hWa⟩:∃Wa,W1.setCell ⟨w.heap.size+1+1,0,none⟩ (.slice none 0 0)=Wa:=⟨_,rfl⟩;rw[hWa];rw[show w.heap.size+2=w.heap.size+1+1 from rfl,hWa] at g1 r1;rw[show w.heap.size+2=w.heap.size+1+1 from rfl,hWa] at r2;have g2:=zyq Wa (w.heap.size+3) (.int .i64 c);have r3:=zyr (.int .i64 c) r2;have r4:=(g2.block (w.heap.size+1+1) (by have:=g1.size;omega) (λe=>by have:=yAS e;omega)).trans r1;obtain ⟨Wb,hWb⟩:∃Wb,Wa.setCell ⟨w.heap.size+1+1+1,0,none⟩ (.int .i64 c)=Wb:=⟨_,rfl⟩;rw[hWb];rw[show w.heap.size+3=w.heap.size+1+1+1 from rfl,hWb] at g2 r3 r4;have s1:=g1.size;have s2:=g2.size;have bb:=(((hb.grown g1 (by omega) (λk e=>by cases e;omega)).grown g2 (by omega) (λk e=>by cases e;omega)).alloc (by omega) o1).alloc (by simp;omega) o2;exact ⟨_,zyK h8 h9 ((Below.heap_alloc _ _ _ (by simp;omega)).trans ((Below.heap_alloc _ _ _ (by omega)).trans r4)) ((Below.heap_alloc _ _ _ (by simp;omega)).trans ((Below.heap_alloc _ _ _ (by omega)).trans r3)),_,rfl,bb,.sl0 none 0 rfl .nil⟩
theorem paDR{z s:Nat}{w:World}{most i:Int}{gca:Array Value}{Ba k:Nat}{lv:Value}{L:List (Int×Int)}{ov:Value}{vals:List Value}{vs:List (List By)}{D Dc:Dat}{W W':World}{gus:List U}{gt:ElL S gus}{gl:List Value}{outs:List (List Int)}{outv:Value}
  (m:PaMem z s w most i gca Ba k lv L ov vals W) (d:PaD un z s Dc gus gt gl outs outv Ba lv ov vals vs D W) {lp:Loop} (hlp:W.heap[s+4]?=some (.loop lp)) (hs:W.heap.size<=W'.heap.size)
  (hk:∀b:Nat,b<W.heap.size->b≠s+4->b≠s+3->b≠z+2->b≠z+3->W'.heap[b]?=W.heap[b]?):DR un (zkU Dc w W') W' [.sl LS] (sg (u:= .sl LS) vs) [ov]:=by
 have hz:=m.zs;have hzw:=m.zw;have g:Ge D W (zkU Dc w W') W':=by
  refine ⟨λb o hb=>?_,λb o hb=>?_⟩;·obtain ⟨h1,h2,h3,h4,h5,h6⟩:=d.hD b o hb;exact (d.sub b o hb).imp id λh=>⟨by omega,by omega⟩
  ·obtain ⟨h1,h2,h3,h4,h5,h6⟩:=d.hD b o hb;exact zyu (hk b h1 (by omega) (by omega) (by omega) (by omega))
 have hr:=m.rowO;have hl:=d.vD.1;rcases hr.2 with ⟨rfl,h0⟩|⟨gg,cap,cur,rfl,hgs,hgb,hc1,hc2,hc3,hc4⟩
 ·have:vs=[]:=yBG (by omega);subst this;exact .sl0 none 0 rfl .nil
 ·have hglt:=(yAE.1 hgb).1;have hgk:W'.heap[gg]?=W.heap[gg]? :=hk gg hglt (λe=>by
   subst e;rcases zys m.rowO hlp (λcur e=>by cases e) with e1|e1;·simp[Value.ownBlock] at e1
   ·exact e1 rfl) (λe=>by
   subst e;rcases zys m.rowO m.hK (λcur e=>by cases e) with e1|e1;·simp[Value.ownBlock] at e1
   ·exact e1 rfl) (by omega) (by omega)
  rw[hl];refine .sl gg 0 cap (λi=>[vals.getD i undef]) (show vs.length<=cap by omega) ?_ ?_ .nil
  ·intro j x hx;have hx:vs[j]?=some x:=hx;have hj:=(yAc.1 hx).1;intro jj v hv;cases jj with
   |succ jj=>simp at hv|zero =>
     simp only[List.getElem?_cons_zero,yAf] at hv;refine ⟨.inr ⟨by omega,by omega⟩,?_⟩;have hc:=World.ownsRow.cellAt m.rowO j (by omega);have e0:0+j*U.size un LS+0=j:=by simp[U.size]
     rw[e0,zyu hgk,hc,<-hv];rw[yAj];cases hvj:vals[j]? with
     |none=>have:=List.getElem?_eq_none_iff.1 hvj;omega
     |some v=>rfl
  ·intro j x hx;have hx:vs[j]?=some x:=hx;obtain ⟨v,h1,h2⟩:=d.vD.2 j x hx;rw[yAj,h1];exact DR.mono g h2
set_option maxHeartbeats 4000000 in
theorem pa29(n:Nat)(p0 p1 p2:ByteArray)(a3 a4:Option Addr)(m3 m4 j3 j4:Nat)(tv:ByteArray)(sc most:Int)(w:World)(D:Dat)(hD:∀b o,D b o->b<w.heap.size)
  (gus:List U) (gt:ElL S gus) (outs:List (List Int)) (i er root:Int)
  (hOpen:∀W,Below w.heap.size w W->Calls Tryz.prog 56 #[.agg #[.string p0,.string p1,.string p2,.slice a3 m3 j3,.slice a4 m4 j4],.string tv,.int .i64 sc] W λe W' =>
   ∃(gc:Array Value) (A6:Option Addr) (n6 k6:Nat),gcA gc root A6 n6 k6/\e= .returned (.tuple #[.agg gc,.int .i64 i,.int .i64 er])/\Below W.heap.size W W'/\DR un (zkU D W W') W' gus gt gc.toList/\DR un (zkU D W W') W' [.sl LI] (sg (u:= .sl LI) outs) [.slice A6 n6 k6])
  (hasO:List (Int×Int)->Int->Int->Option Bool) (zct:List (Int×Int)->Int->Option (List By))
  (hHas:∀(s:Nat)(X:World)(lv:Value)(L:List (Int×Int))(k j:Int)(b:Bool),s<=X.heap.size->X.ownsRow s 157 2 lv L.length (zyv L)->hasO L k j=some b->Calls Tryz.prog 116 #[lv,.int .i64 k,.int .i64 j] X λe X'=>e= .returned (.bool b)/\Below X.heap.size X X')
  (hPath:∀(gc:Array Value)(s:Nat)(D:Dat)(X:World)(lv:Value)(L:List (Int×Int))(k:Int)(r:List By),(∀b o,D b o->b<X.heap.size)->DR un D X gus gt gc.toList->X.ownsRow s 157 2 lv L.length (zyv L)->zct L k=some r ->
   Calls Tryz.prog 115 #[lv,.int .i64 k] X λe X'=>∃pv,e= .returned pv/\Below X.heap.size X X'/\Calls Tryz.prog 59 #[.agg gc,pv] X' λe Y=>∃A rn rc,e= .returned (.slice A rn rc)/\Below X'.heap.size X' Y/\PathR un (zkU D X Y) Y r (.slice A rn rc))
  (fuel:Nat) (vs:List (List By)) (c:Int) (hres:zyL hasO zct outs root i er most fuel=some (vs,c)) :
  CallsIn Fence.wide n Tryz.prog 29 #[.agg #[.string p0,.string p1,.string p2,.slice a3 m3 j3,.slice a4 m4 j4],.string tv,.int .i64 sc,.int .i64 most] w λe W' =>
   ∃v,e= .returned (.tuple #[v,.int .i64 c])/\Below w.heap.size w W'/\DR un (zkU D w W') W' [.sl LS] (sg (u:= .sl LS) vs) [v]:=by
 refine callsIn_of_wp_marks Tryz.func29 rfl trivial ?_ rfl;simp only[Tryz.ntmps29,List.size_toArray,yAw,List.length_nil,Nat.reduceAdd,Nat.reduceSub,Array.replicate_succ,Array.replicate_zero,List.push_toArray,List.append_toArray,yBb,yA3]
 gi_wp2_with fail
 obtain ⟨W0,hW0⟩:∃W0,((((w.alloc (Obj.cells #[.string p0,.string p1,.string p2,.slice a3 m3 j3,.slice a4 m4 j4] 25)).alloc (Obj.cells #[Value.int IntKind.i64 most] 3)).alloc (Obj.cells #[Value.slice none 0 0] 44)).alloc (Obj.cells #[Value.int IntKind.i64 0] 27))=W0:=⟨_,rfl⟩;rw[hW0];refine ⟨trivial,λh=>(by cases h),(callsIn_wide.2 (hOpen W0 ?_)).mono ?_⟩;·rw[<-hW0];exact ((((Below.refl _ w).alloc (yAi _) _).alloc (by simp) _).alloc (by simp;omega) _).alloc (by simp;omega) _
 rintro e W1 ⟨gc,A6,n6,k6,⟨q0,q1,q2,A3,A4,A7,n3,n4,n7,k3,k4,k7,hgc⟩,rfl,hb1,gD,oD⟩
 rw[hgc];have hz:W0.heap.size=w.heap.size+4:=by rw[<-hW0];simp
 have hM0:W0.heap[w.heap.size+1]?=some (.cells #[.int .i64 most] 3 (0,0)):=by rw[<-hW0];exact (Below.heap_alloc _ _ _ (by simp)).trans ((Below.heap_alloc _ _ _ (by simp)).trans (by have:=World.alloc_heap_new (w.alloc (Obj.cells #[.string p0,.string p1,.string p2,.slice a3 m3 j3,.slice a4 m4 j4] 25)) (Obj.cells #[Value.int IntKind.i64 most] 3);rwa[World.size_alloc] at this))
 have hR10:W0.heap[w.heap.size+2]?=some (.cells #[.slice none 0 0] 44 (0,0)):=by rw[<-hW0];exact (Below.heap_alloc _ _ _ (by simp)).trans (by have:=World.alloc_heap_new ((w.alloc (Obj.cells #[.string p0,.string p1,.string p2,.slice a3 m3 j3,.slice a4 m4 j4] 25)).alloc (Obj.cells #[Value.int IntKind.i64 most] 3)) (Obj.cells #[Value.slice none 0 0] 44);rwa[World.size_alloc,World.size_alloc] at this)
 have hR20:W0.heap[w.heap.size+3]?=some (.cells #[.int .i64 0] 27 (0,0)):=by rw[<-hW0];have:=World.alloc_heap_new (((w.alloc (Obj.cells #[.string p0,.string p1,.string p2,.slice a3 m3 j3,.slice a4 m4 j4] 25)).alloc (Obj.cells #[Value.int IntKind.i64 most] 3)).alloc (Obj.cells #[Value.slice none 0 0] 44)) (Obj.cells #[Value.int IntKind.i64 0] 27);rwa[World.size_alloc,World.size_alloc,World.size_alloc] at this
 have hM1:=(hb1.block (w.heap.size+1) (by omega)).trans hM0;have hR11:=(hb1.block (w.heap.size+2) (by omega)).trans hR10;have hR21:=(hb1.block (w.heap.size+3) (by omega)).trans hR20;have hs1:=hb1.size;obtain ⟨cM,fM⟩:=zyp hM1;obtain ⟨cR1,fR1⟩:=zyp hR11;obtain ⟨cR2,fR2⟩:=zyp hR21;have hMl:w.heap.size+1<W1.heap.size:=by omega
 have n10:¬(w.heap.size+1=W1.heap.size):=by omega
 have n11:¬(w.heap.size=W1.heap.size):=by omega
 have n20:¬(w.heap.size+1+1=W1.heap.size):=by omega
 have n21:¬(w.heap.size+1+1=W1.heap.size+1):=by omega
 have n30:¬(w.heap.size+1+1+1=W1.heap.size):=by omega
 have n31:¬(w.heap.size+1+1+1=W1.heap.size+1):=by omega
 have l1:w.heap.size+1<W1.heap.size:=by omega
 have l2:w.heap.size+1+1<W1.heap.size:=by omega
 have l3:w.heap.size+1+1+1<W1.heap.size:=by omega
 have hb0:Below w.heap.size w W0:=by rw[<-hW0];exact ((((Below.refl _ w).alloc (yAi _) _).alloc (by simp) _).alloc (by simp;omega) _).alloc (by simp;omega) _
 clear hW0 hM0 hR10 hR20 hOpen;have cM2:∀o o':Obj,((W1.alloc o).alloc o').cell? ⟨w.heap.size+1,0,none⟩=some (.int .i64 most):=λo o'=>zyD _ (zyD _ cM);unfold zyL at hres;by_cases her:er=0
 ·subst her;rw[if_pos rfl] at hres;by_cases hm:most<1\/1000<most
  ·rw[if_pos hm] at hres;cases hres
   gi_wp2_with fail
   all_goals exact zy2 (by omega) (hb0.trans (hb1.mono (by omega))) rfl rfl hR11 hR21
  rw[if_neg hm] at hres
  gi_wp2_with fail
  simp only[<-hgc];refine wpIn_rangeFunc ?_;intro fn hfn;obtain ⟨W2,hW2⟩:∃W2,((W1.alloc (Obj.cells gc 78)).alloc (Obj.cells #[.int .i64 i] 3)).alloc (Obj.cells #[.slice none 0 0] 44)=W2:=⟨_,rfl⟩;have s2:W2.heap.size=W1.heap.size+3:=by rw[<-hW2];simp
  have b2:Below W1.heap.size W1 W2:=by rw[<-hW2];exact (((Below.refl _ W1).alloc (yAi _) _).alloc (by simp) _).alloc (by simp;omega) _
  have hG2:W2.heap[W1.heap.size]?=some (.cells gc 78 (0,0)):=by rw[<-hW2];exact (Below.heap_alloc _ _ _ (by simp;omega)).trans ((Below.heap_alloc _ _ _ (by simp)).trans (World.alloc_heap_new W1 _))
  have hI2:W2.heap[W1.heap.size+1]?=some (.cells #[.int .i64 i] 3 (0,0)):=by rw[<-hW2];have:=World.alloc_heap_new (W1.alloc (Obj.cells gc 78)) (Obj.cells #[.int .i64 i] 3);rw[World.size_alloc] at this;exact (Below.heap_alloc _ _ _ (by simp)).trans this
  have hO2:W2.heap[W1.heap.size+2]?=some (.cells #[.slice none 0 0] 44 (0,0)):=by rw[<-hW2];have:=World.alloc_heap_new ((W1.alloc (Obj.cells gc 78)).alloc (Obj.cells #[.int .i64 i] 3)) (Obj.cells #[.slice none 0 0] 44);rwa[World.size_alloc,World.size_alloc] at this
  rw[hW2];clear hW2;obtain ⟨x,hx⟩:∃x:Nat->Value,x=λj=>([.agg #[.string p0,.string p1,.string p2,.slice a3 m3 j3,.slice a4 m4 j4],.string tv,.int .i64 sc,.int .i64 most,undef,undef,undef,undef,undef,undef,undef,undef,.int .i64 0,undef,undef,undef,.tuple #[.agg gc,.int .i64 i,.int .i64 0],.agg #[.string p0,.string p1,.string p2,.slice a3 m3 j3,.slice a4 m4 j4],.string tv,.int .i64 sc,.tuple #[.agg gc,.int .i64 i,.int .i64 0],.agg gc,.int .i64 i,.int .i64 0,.int .i64 0,.bool false,undef,.int .i64 most,.bool (decide (most<1)),.bool (decide (most<1)),.int .i64 most,.bool (decide (1000<most)),.bool (decide (most<1)||decide (1000<most)),.agg gc,.func (.func 72) #[.agg gc] #[]]:List Value).getD j undef:=⟨_,rfl⟩;have hent:=run_enterLoop_outer (P:=Tryz.prog) (w:=W2) fn (paT w.heap.size W1.heap.size x) #[35,36] zyz zyG;obtain ⟨W3,hW3⟩:∃W3,(W2.alloc (.deferred (some []))).alloc (.loop { state:= .ready,pending:=none,fn,tmps:=paT w.heap.size W1.heap.size x,params:= #[35,36],assign:=zyz,body:=zyG,defers:=W2.heap.size })=W3:=⟨_,rfl⟩;rw[hW3] at hent;have s3:W3.heap.size=W1.heap.size+5:=by rw[<-hW3];simp[s2]
  have b3:Below W2.heap.size W2 W3:=by rw[<-hW3];exact ((Below.refl _ W2).alloc (yAi _) _).alloc (by simp) _
  have hK3:W3.heap[W1.heap.size+3]?=some (.deferred (some [])):=by rw[<-hW3,<-s2];exact (Below.heap_alloc _ _ _ (by simp)).trans (World.alloc_heap_new W2 _)
  have hl3:W3.heap[W1.heap.size+4]?=some (.loop (zyx fn (paT w.heap.size W1.heap.size x) (W1.heap.size+3) .ready none)):=by rw[<-hW3];have:=World.alloc_heap_new (W2.alloc (.deferred (some []))) (.loop { state:= .ready,pending:=none,fn,tmps:=paT w.heap.size W1.heap.size x,params:= #[35,36],assign:=zyz,body:=zyG,defers:=W2.heap.size });rw[World.size_alloc] at this;rw[show W1.heap.size+4=W2.heap.size+1 by omega,show W1.heap.size+3=W2.heap.size by omega];exact this
  have k13:∀b:Nat,b<W1.heap.size->W3.heap[b]?=W1.heap[b]? :=λb hb=>(b3.block b (by omega)).trans (b2.block b hb);clear hW3;refine ⟨_,_,_,{ target:= .fn (.func 72) #[],args:= #[.agg gc,.func (.yield (W2.heap.size+1)) #[] #[]] },W3,72,#[.agg gc,.func (.yield (W2.heap.size+1)) #[] #[]],W3,by rw[hx] at hent;exact hent,?_,?_,?_,λh=>(by cases h),?_⟩;·simp[resolve,go_sem]
  ·intro f' hf';trivial
  ·have he:=enters_of Tryz.func72 (by kernel_rfl) rfl #[.agg gc,.func (.yield (W2.heap.size+1)) #[] #[]] W3;simp[invoke,go_sem,he]
  obtain ⟨res,hgo,hfin⟩:∃res,goS hasO zct outs i most fuel 0 [(root, -1)] []=some res/\(match res with|none=>vs=[]/\c=12|some l=>vs=l/\c=0):=by
   cases hg:goS hasO zct outs i most fuel 0 [(root, -1)] [] with
   |none=>rw[hg] at hres;cases hres|some res =>
     rw[hg] at hres;refine ⟨res,rfl,?_⟩;cases res with
     |none=>cases hres;exact ⟨rfl,rfl⟩|some l=>cases hres;exact ⟨rfl,rfl⟩
  have e4:W2.heap.size+1=W1.heap.size+4:=by omega
  rw[e4];have gW:Ge (zkU D W0 W1) W1 (zkU D W0 W1) W3:=⟨λ_ _ h=>h,λb o hb=>zyu (k13 b (hb.elim (λh=>yAq (hD b o h) (by omega)) λh=>h.2))⟩
  refine (pa72 (un:=un) (z:=w.heap.size) (s:=W1.heap.size) (w:=w) (most:=most) (i:=i) x (n - 1) fn (gc:=gc) (by rw[hgc];rfl) (root:=root) (by rw[hgc];rfl) (A6:=A6) (n6:=n6) (k6:=k6) (by rw[hgc];rfl) D gus gt outs (zkU D W0 W1) hasO zct (hHas W1.heap.size) (hPath gc W1.heap.size) (by omega) (by omega) W3 s3 (by omega) rfl
   ((k13 _ (by omega)).trans hM1) ⟨_,(k13 _ (by omega)).trans hR11⟩ ⟨_,(k13 _ (by omega)).trans hR21⟩ ((b3.block _ (by omega)).trans hG2) ((b3.block _ (by omega)).trans hI2) ((b3.block _ (by omega)).trans hO2) hK3 hl3
   (((hb0.trans (hb1.mono (by omega))).trans (b2.mono (by omega))).trans (b3.mono (by omega)))
   (λb o hb=>hb.elim (λh=>have:=hD b o h;⟨by omega,.inl this,by omega⟩) λh=>⟨by omega,.inr (by omega),h.2⟩)
   (λb o hb=>hb.imp id λh=>by omega) (gD.mono gW) (oD.mono gW) fuel res hgo).mono ?_
  rintro e W4 ⟨⟨v,rfl⟩,hR⟩
  cases res with
  |none =>
    obtain ⟨rfl,rfl⟩:=hfin;obtain ⟨e,_,r1,r2,rK,rL,bz⟩:=hR;have hend:=run_endLoop (P:=Tryz.prog) rL (by simp[zyx]);obtain ⟨W5,hW5⟩:∃W5,W4.putObj (W1.heap.size+4) (.loop { zyx fn (paT w.heap.size W1.heap.size x) (W1.heap.size+3) .done (some .ret) with state:= .exhausted })=W5:=⟨_,rfl⟩;rw[hW5] at hend;have g5:W4.grownBy W5 (some (W1.heap.size+4)):=by rw[<-hW5];exact zyt _ _ _
    have k5:∀b:Nat,b≠W1.heap.size+4->W5.heap[b]?=W4.heap[b]? :=λb hb=>by rw[<-hW5];exact World.putObj_heap_other hb
    clear hW5;refine ⟨some .ret,W5,hend,?_⟩
    gi_wp2_with fail
    have rK5:=(k5 _ (by omega)).trans rK;refine ⟨by simp,.inl ⟨_,_,rfl,run_takeDeferred rK5,?_⟩⟩;have hsz4:=(yAE.1 rL).1;have s5:=g5.size;exact ⟨_,zyK rfl rfl ((World.putObj_heap_other (by omega)).trans ((k5 _ (by omega)).trans r1)) ((World.putObj_heap_other (by omega)).trans ((k5 _ (by omega)).trans r2)),_,rfl,(bz.grown g5 (by omega) (λk e=>by have:=yAS e;omega)).grown (zyt _ _ _) (by omega) (λk e=>by have:=yAS e;omega),.sl0 none 0 rfl .nil⟩
  |some l =>
    obtain ⟨rfl,rfl⟩:=hfin;obtain ⟨Ba,k,lv,L,ov,vals,D4,mm,dd,hrec⟩:=hR;obtain ⟨st,pend,hrec,hst,hpend⟩:∃st pend,W4.heap[W1.heap.size+4]?=some (.loop (zyx fn (paT w.heap.size W1.heap.size x) (W1.heap.size+3) st pend))/\st≠ .busy/\(pend=none\/pend=some (.exit 0)):=by
     rcases hrec with h|h;·exact ⟨.ready,none,h,by simp,.inl rfl⟩
     ·exact ⟨.done,some (.exit 0),h,by simp,.inr rfl⟩
    have hend:=run_endLoop (P:=Tryz.prog) hrec (by simpa[zyx] using hst);obtain ⟨W5,hW5⟩:∃W5,W4.putObj (W1.heap.size+4) (.loop { zyx fn (paT w.heap.size W1.heap.size x) (W1.heap.size+3) st pend with state:= .exhausted })=W5:=⟨_,rfl⟩;rw[hW5] at hend;have g5:W4.grownBy W5 (some (W1.heap.size+4)):=(by rw[<-hW5];exact zyt _ _ _);have k5:∀b:Nat,b≠W1.heap.size+4->W5.heap[b]?=W4.heap[b]? :=λb hb=>by rw[<-hW5];exact World.putObj_heap_other hb
    clear hW5;obtain ⟨oa,onn,oc,rfl⟩:∃oa onn oc,ov= .slice oa onn oc:=by
     rcases mm.rowO.2 with ⟨rfl,_⟩|⟨g,cap,cur,rfl,_⟩;·exact ⟨_,_,_,rfl⟩
     ·exact ⟨_,_,_,rfl⟩
    obtain ⟨u1,hu1⟩:=mm.hR1;obtain ⟨u2,hu2⟩:=mm.hR2;have hO5:=(k5 _ (by omega)).trans mm.hO;have hu1:=(k5 _ (by omega)).trans hu1;have hu2:=(k5 _ (by omega)).trans hu2;obtain ⟨cO,fO⟩:=zyp hO5;obtain ⟨cU1,fU1⟩:=zyp hu1;obtain ⟨cU2,fU2⟩:=zyp hu2
    have hlate:∀tmps:Array Value,tmps.getD 8 undef= .pointer (some ⟨w.heap.size+1+1,0,none⟩)->tmps.getD 9 undef= .pointer (some ⟨w.heap.size+1+1+1,0,none⟩) ->
      bodyPostM Fence.wide n Tryz.prog Tryz.f29 (λe W'=>∃v,e= .returned (.tuple #[v,.int .i64 0])/\Below w.heap.size w W'/\DR un (zkU D w W') W' [.sl LS] (sg (u:= .sl LS) vs) [v]) Exit.ret { tmps:=tmps,defers:=[{ target:=Target.collected (W1.heap.size+3),args:= #[] }] }
       ((W5.setCell ⟨w.heap.size+1+1,0,none⟩ (.slice oa onn oc)).setCell ⟨w.heap.size+1+1+1,0,none⟩ (.int .i64 0)):=by
     intro tmps h8 h9;have hsz4:=(yAE.1 hrec).1;have s5:=g5.size;have hK5:=(k5 _ (by omega)).trans mm.hK;obtain ⟨W6,hW6⟩:∃W6,W5.setCell ⟨w.heap.size+1+1,0,none⟩ (.slice oa onn oc)=W6:=⟨_,rfl⟩;have g6:W5.grownBy W6 (some (w.heap.size+2)):=by rw[<-hW6];exact zyq _ _ _
     have r6:W6.heap[w.heap.size+2]?=some (.cells #[.slice oa onn oc] 44 (0,0)):=(by rw[<-hW6];exact zyr (.slice oa onn oc) hu1);have k6:∀b:Nat,b<W5.heap.size->b≠w.heap.size+2->W6.heap[b]?=W5.heap[b]? :=λb hb hne=>g6.block b hb (λe=>hne (yAS e));have s6:=g6.size;rw[hW6];clear hW6;have hu6:=(k6 _ (by omega) (by omega)).trans hu2;obtain ⟨W7,hW7⟩:∃W7,W6.setCell ⟨w.heap.size+1+1+1,0,none⟩ (.int .i64 0)=W7:=⟨_,rfl⟩;have g7:W6.grownBy W7 (some (w.heap.size+3)):=(by rw[<-hW7];exact zyq _ _ _);have r7:W7.heap[w.heap.size+3]?=some (.cells #[.int .i64 0] 27 (0,0)):=(by rw[<-hW7];exact zyr (.int .i64 0) hu6);have k7:∀b:Nat,b<W6.heap.size->b≠w.heap.size+3->W7.heap[b]?=W6.heap[b]? :=λb hb hne=>g7.block b hb (λe=>hne (yAS e));have s7:=g7.size;rw[hW7];clear hW7;have rK7:=(k7 _ (by omega) (by omega)).trans ((k6 _ (by omega) (by omega)).trans hK5);have r67:=(k7 _ (by omega) (by omega)).trans r6;have b7:Below w.heap.size w W7:=(((mm.below).grown g5 (by omega) (λk e=>by have:=yAS e;omega)).grown g6 (by omega) (λk e=>by have:=yAS e;omega)).grown g7 (by omega) (λk e=>by have:=yAS e;omega);refine ⟨by simp,.inl ⟨_,_,rfl,run_takeDeferred rK7,?_⟩⟩;refine ⟨_,zyK h8 h9 ((World.putObj_heap_other (by omega)).trans r67) ((World.putObj_heap_other (by omega)).trans r7),_,rfl,b7.grown (zyt _ _ _) (by omega) (λk e=>by have:=yAS e;omega),?_⟩;refine paDR mm dd hrec (by simp[World.putObj];omega) (λb hb h1 h2 h3 h4=>(World.putObj_heap_other h2).trans ((k7 b (by omega) h4).trans ((k6 b (by omega) h3).trans (k5 b h1))))
    refine ⟨pend,W5,hend,?_⟩;rcases hpend with rfl|rfl
    ·gi_wp2_with fail
     exact hlate _ rfl rfl
    ·gi_wp2_with fail
     exact hlate _ rfl rfl
 ·rw[if_neg her] at hres;cases hres
  gi_wp2_with fail
  all_goals exact zy2 (by omega) (hb0.trans (hb1.mono (by omega))) rfl rfl hR11 hR21
end
end Go.Proofs.YtojfjgjdheiffaaGreatDoor
end
section
/- whole: a beginning's components. -/
set_option maxRecDepth 100000
namespace Go.Proofs
open Go.Shelf
def Tryz.lays112_ren:Go.Shelf.Ren:=⟨fun|112=>148|n=>n,fun|28=>65|3=>3|4=>4|0=>0|n=>n,fun|n=>n⟩
theorem Tryz.lays112:Go.Proofs.Lays.n112 Tryz.prog Tryz.lays112_ren:={
 mixed:=by kernel_rfl
 f112:=Tryz.func148.trans (congrArg some (by kernel_rfl))
 t0:=Tryz.underlying0
 a0:=Tryz.isAgg0
 z0:=Tryz.sizeOf0
 v0:=Tryz.zeroValue0
 t3:=Tryz.underlying3
 a3:=Tryz.isAgg3
 z3:=Tryz.sizeOf3
 v3:=Tryz.zeroValue3
 t4:=Tryz.underlying4
 a4:=Tryz.isAgg4
 z4:=Tryz.sizeOf4
 v4:=Tryz.zeroValue4
 t28:=Tryz.underlying65
 a28:=Tryz.isAgg65
 z28:=Tryz.sizeOf65
 v28:=Tryz.zeroValue65 }
open Go.RowKit Go.Lib Go.Sort in
open Go.RowKit Go.Lib Go.Sort in
theorem Tryz.slices_Reverse_int(blk off cap:Nat)(zs:List Int)(w:World)(hH:Holds (Value.int .i64) w blk off zs.toArray)(hsz:zs.length<=9223372036854775807) :
  Calls Tryz.prog 148 #[.slice (some ⟨blk,off,none⟩) zs.length cap] w λe w'=>e= .returned (.tuple #[])/\∃n,w'=putRow (Value.int .i64) (Sort.ahead w n) blk off zs.reverse.toArray:=Any.slices_Reverse_int Tryz.lays112 blk off cap zs w hH hsz
open Go.RowKit Go.Lib Go.Sort in
theorem Tryz.slices_Reverse_int_empty(a:Option Addr)(cap:Nat)(w:World) :
  Calls Tryz.prog 148 #[.slice a 0 cap] w λe w'=>e= .returned (.tuple #[])/\w'=w:=Any.slices_Reverse_int_empty Tryz.lays112 a cap w
end Go.Proofs
namespace Go.Proofs.YtojfjgjdheiffaaGreatDoor
open Go Go.RowKit Go.Shelf Pe
def zyF(L:List (Int×Int)):Nat->Int->Option (List Int)|0,_=>none|n+1,a=>if 0<=a then (at? L a).bind λx=>(zyF L n x.2).map (x.1:: ·) else some []
theorem zy7:∀{L:List (Int×Int)}{k:Nat}{x:Int×Int},L[k]?=some x->(zyv L)[k*2+1]?=some (.int .i64 x.2)
 |[],_,_,h=>by simp at h
 |y::L,0,x,h=>by simp at h;subst h;rfl
 |y::L,k+1,x,h=>by
   have:=zy7 (L:=L) (k:=k) (x:=x) (by simpa using h);have e:(k+1)*2+1=k*2+1+1+1:=by omega
   rw[e];simpa[zyv] using this
theorem info3:(Tryz.prog.info? 3).map (λi=>(i.zero,i.size,i.bytes))=some (some (.int .i64 0),1,8):=by kernel_rfl
set_option maxHeartbeats 1000000 in
theorem pa115{s:Nat}{lv:Value}{L:List (Int×Int)}{k:Int}{fuel:Nat}{p:List Int}{X:World}(h:X.ownsRow s 157 2 lv L.length (zyv L))(hp:zyF L fuel k=some p)(hf:fuel<=1000000) :
  Calls Tryz.prog 115 #[lv,.int .i64 k] X λe X'=>∃pv,e= .returned pv/\Below X.heap.size X X'/\X'.ownsRow X.heap.size 3 1 pv p.length (p.reverse.map (Value.int .i64)):=by
 go_enter Tryz.func115,Tryz.ntmps115
 go_wp2_with fail
 go_loopg [1,5] fuel (λm v1 v5 wr=>∃(a:Int) (q r:List Int),v1= .int .i64 a/\zyF L m a=some r/\q++r=p/\wr.ownsRow X.heap.size 3 1 v5 q.length (q.map (Value.int .i64))/\Below X.heap.size X wr/\q.length+m<=fuel)
 case atStart=>exact ⟨k,[],p,rfl,hp,rfl,⟨rfl,.inl ⟨rfl,rfl⟩⟩,Below.refl _ _,by simp⟩
 case round =>
  obtain ⟨a,q,r,rfl,hw,hqr,hrow,hb,hm⟩:=hrel;cases gk with
  |zero=>cases hw|succ gk =>
  rw[zyF] at hw;obtain ⟨u5v,rfl⟩:∃x:Option Addr×Nat×Nat,u5= .slice x.1 x.2.1 x.2.2:=by
   rcases hrow.2 with ⟨rfl,_⟩|⟨g,cap,cur,rfl,_⟩;·exact ⟨(_,_,_),rfl⟩
   ·exact ⟨(_,_,_),rfl⟩
  obtain ⟨oA,oN,oC⟩:=u5v;dsimp only at hrow ⊢;by_cases ha:0<=a
  ·rw[if_pos ha] at hw;cases hx:at? L a with
   |none=>rw[hx] at hw;cases hw|some x =>
   rw[hx] at hw;obtain ⟨ka,rfl,hka⟩:=znm hx;simp only[yAB] at hw;cases hr2:zyF L gk x.2 with
   |none=>rw[hr2] at hw;cases hw|some r2 =>
   rw[hr2] at hw;obtain rfl:x.1::r2=r:=yAS hw;have hl2:=zyB h hb;have hkl:=(yAc.1 hka).1;obtain ⟨g,cap,rfl⟩:∃g cap,lv= .slice (some ⟨g,0,none⟩) L.length cap:=by
    rcases h.2 with ⟨_,h0⟩|⟨g,cap,cur,rfl,_⟩;·omega
    ·exact ⟨_,_,rfl⟩
   have c1:wr.cell? ⟨g,ka*2,none⟩=some (.int .i64 x.1):=(by rw[World.ownsRow.cellAt hl2 (ka*2) (by omega)];exact zy8 hka);have c2:wr.cell? ⟨g,ka*2+1,none⟩=some (.int .i64 x.2):=(by rw[World.ownsRow.cellAt hl2 (ka*2+1) (by omega)];exact zy7 hka);have hbs:=hb.size;obtain ⟨i0,hi,hz0,hz1,hz2⟩:=info_parts info3;have hkz:(0:Int)<=(ka:Int):=(by omega);have hne:(Value.slice oA oN oC).ownBlock≠some g:=λe=>by have h1:=(hrow.lt g e).1;have h2:=zyJ h g rfl;omega
   have hkl2:(ka:Int)<(L.length:Int):=by omega
   go_wp2_with (at_builtin;refine wpList_append_own_at _ rfl _ _ 65 rfl X.heap.size 3 i0 (.int .i64 0) 1 8 Tryz.underlying65 hi hz0 hz1 hz2 rfl (by decide) _ q.length (q.map (Value.int .i64)) rfl (hrow.alloc _) ⟨wr.heap.size,0,none⟩ 1 1 [.int .i64 x.1] rfl rfl (cell_one_new _ _ _) (by simp[Value.oneCell']) (by simp[maxLen];omega) (by omega) (by simp;omega) ?_;intro v' w8 hown' hg8 _ hob8
                have c3:w8.cell? ⟨g,ka*2+1,none⟩=some (.int .i64 x.2):=(zyu (hg8.block g (yAq (zyJ hl2 g rfl) (by simp)) λe=>hne e.symm)).trans (by rw[zyu (Below.heap_alloc wr _ g (zyJ hl2 g rfl))];exact c2)
                go_frame)
   go_roundg gk
   case measure=>omega
   case rel =>refine ⟨x.2,q++[x.1],r2,rfl,hr2,by rw[<-hqr];simp,?_,(hb.alloc hbs _).grown hg8 (by simp;omega) (λb e=>(hrow.lt b e).1),by simp;omega⟩;rw[List.map_append,yAI];exact hown'
  ·rw[if_neg ha] at hw;obtain rfl:[]=r:=yAS hw;rw[yAR] at hqr;subst hqr;by_cases hq:Value.slice oA oN oC= .slice none 0 0
   ·cases hq;have hq0:q=[]:=by
     rcases hrow.2 with ⟨_,h0⟩|⟨g,cap,cur,e,_⟩;·exact yBG h0
     ·cases e
    subst hq0
    go_wp2_with fail
    refine (Tryz.slices_Reverse_int_empty none 0 wr).mono ?_
    rintro e w' ⟨rfl,rfl⟩
    go_wp2_with fail
    go_ret
    exact ⟨_,rfl,hb,hrow⟩
   ·obtain ⟨g,cap,hv,hgb,hgl,hn,hcm,hql,hH⟩:=Lib.holds_of_ownsRow hrow hq;cases hv
    go_wp2_with fail
    refine (Tryz.slices_Reverse_int g 0 _ q wr hH (by omega)).mono ?_
    rintro e w' ⟨rfl,n,rfl⟩
    go_wp2_with fail
    go_ret
    refine ⟨_,rfl,?_,?_⟩;·exact Lib.below_putRow hb hgb
    ·have:=Lib.ownsRow_putRow (q:=n) (ys:=q.reverse) hrow (by simp) (yAi _);rw[yA7 (by simp)] at this;exact this
end Go.Proofs.YtojfjgjdheiffaaGreatDoor
end
