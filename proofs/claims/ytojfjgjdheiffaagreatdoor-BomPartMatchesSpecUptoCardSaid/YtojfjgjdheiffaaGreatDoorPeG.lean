/- PROVED HERE: a part of the seat's proofs; see the text that holds the claim's theorem. -/
import Derived.Test.YtojfjgjdheiffaaGreatDoorPeF
section
namespace Pe
open Go Go.RowKit
variable{S:Nat->Type}
section
variable{P:Program}{un:Uni S}{tb:Tb S}{orc:Orc S}{inl:Inl S}{an:Ann}{E:Wl.Ctx}{D0:Dat}{N:Wl.Fr}
theorem Holds.draw{e:Env S}{bx:Bxs S}{a:Act}{w:World}(h:Holds un E D0 N e bx a w)(n:Nat):Holds un E D0 N e bx a { w with drawn:=n }:=by obtain ⟨D,H,hs,hD⟩:=h;have g:Ge D w D { w with drawn:=n }:=⟨λ_ _ h=>h,λ_ _ _=>rfl,λ_ _ _ _ _ h=>h⟩;refine ⟨D,H,⟨⟨⟨hs.Kr.out.os,hs.Kr.out.tape,hs.Kr.out.output,hs.Kr.out.size,hs.Kr.out.block⟩,hs.Kr.lt,λr hr=>Wl.Res.holds_of (hs.Kr.res r hr) λ_ _=>rfl,hs.Kr.apart,hs.Kr.disj,hs.Kr.lent⟩,hs.size,hs.defers,Kj.mono g (λ_ _ _=>rfl) (λ_ _ h=>h) hs.Kg,λi p hi=>(hs.slots i p hi).ge g λ_ _ h=>h⟩,hD.1,hD.2.trans g⟩
theorem zfm(hmix:P.follows .mixedOrders=true)(Kq:Kx un)(ht:Qc P un tb)(hor:K4 P un orc)(Kt:Qe P un inl):∀(c:Code)(R:Type)(e:Env S)(bx:Bxs S)(K:Exit->Env S->Bxs S->Option R)(r:R),zhm un tb orc inl an c R e bx K=some r->(∀d∈zaW c,d<N.n) ->
  ∀{a:Act}{w:World}{Q:Exit->Act->World->Prop},Holds un E D0 N e bx a w->(∀x e' bx',K x e' bx'=some r->Ky (za7 an c) e e'->Kk bx bx'->∀a' w',Holds un E D0 N e' bx' a' w'->Q x a' w')->c.wp P Q a w:=by
 intro c;induction c with
 |skip=>intro R e bx K r h _ a w Q hs hk;exact wp_skip (hk _ _ _ h (Ky.refl _ _) (Kk.refl _) a w hs)
 |ret=>intro R e bx K r h _ a w Q hs hk;exact wp_ret (hk _ _ _ h (Ky.refl _ _) (Kk.refl _) a w hs)
 |exit i=>intro R e bx K r h _ a w Q hs hk;exact wp_exit (hk _ _ _ h (Ky.refl _ _) (Kk.refl _) a w hs)
 |region id ops draw =>
   intro R e bx K r h hd a w Q hs hk;have hd':∀o∈ops.toList,∀d,o.dst=some d->d<N.n:=λo ho d hdd=>hd d (by simp only[zaW,yA8];exact ⟨o,ho,hdd⟩);cases draw with
   |false =>
     simp only[zhm] at h;cases hdup:an.dup.any (Nat.beq id) with
     |true =>rw[hdup] at h;simp only[cond_true] at h;have:=zqN (Q:=Q) Kq ht hor Kt _ _ _ _ _ _ h (λd v hv=>by simp[zdo] at hv) hd' hs (λe' bx' h1 h2 h3 a' w' h4=>hk .normal e' bx' h1 (by simpa only[za7] using h2) h3 a' w' h4) λx e' bx' h1 h2 h3 a' w' h4=>hk x e' bx' h1 (by simpa only[za7] using h2) h3 a' w' h4;have h5:=wp_region_lit (id:=id) (by simpa using this);simpa using h5
     |false =>
     rw[hdup] at h;simp only[cond_false] at h;have:=zqM (Q:=Q) Kq ht hor Kt _ _ _ _ _ h hd' hs (λe' bx' h1 h2 h3 a' w' h4=>hk .normal e' bx' h1 (by simpa only[za7] using h2) h3 a' w' h4) λx e' bx' h1 h2 h3 a' w' h4=>hk x e' bx' h1 (by simpa only[za7] using h2) h3 a' w' h4;have h5:=wp_region_lit (id:=id) (by simpa using this);simpa using h5
   |true =>
     simp only[zhm] at h;cases hpar:zrF an.par id with
     |some fps =>rw[hpar] at h;simp only at h;obtain ⟨h1,h2⟩:=zae h;simp only[yAd] at h1;exact zsA hmix Kq ht hor Kt h1.1 h1.2 h2 hd' (hs.draw _) λx e' bx' h1 h2 h3 a' w' h4=>hk x e' bx' h1 (by simpa only[za7] using h2) h3 a' w' h4
     |none =>
     rw[hpar] at h;simp only at h;cases htl:zrF an.tail id with
     |some m =>
       rw[htl] at h;simp only at h;obtain ⟨h1,h2⟩:=zae h;simp only[yAd] at h1;obtain ⟨e',e'',g1,g2,g3,g4⟩:=zjb Kq ht hor Kt _ _ _ _ _ _ _ h2 (λd v hv=>by simp[zdo] at hv);have Qx:∀(i:Nat) p,i∉zbi ops.toList->zvo e i=some p->p.rowless=true->zvo e' i=some p:=λi p hi hp _=>by
        rw[g4 i λhm=>hi ?_];·exact hp
        ·obtain ⟨j,o,hj,hd⟩:=zc0.1 hm;rw[yAD] at hj;split at hj;·exact zc0.2 ⟨j,o,hj,hd⟩
         ·cases hj
       have hdrop:∀i,i∈zbi (ops.toList.drop m)->i∈zbi ops.toList:=λi hm=>by obtain ⟨j,o,hj,hd⟩:=zc0.1 hm;rw[yAu] at hj;exact zc0.2 ⟨_,o,hj,hd⟩
       have hpp:∀{e2:Env S},Ky (zbi (ops.toList.drop m)) e' e2->Ky (zbi ops.toList) e e2:=λ{e2} h i p hi hp hr=>h i p (λhm=>hi (hdrop i hm)) (Qx i p hi hp hr) hr;refine zzZ hmix h1.2 h1.1 g2 hd' (hs.draw _) λa' w' h4=>?_;have:=zqM (Q:=Q) Kq ht hor Kt _ _ _ _ _ g1 (λo ho=>hd' o (List.mem_of_mem_drop ho)) (h4.sub g3) (λe2 bx' h1 h2 h3 a' w' h4=>hk .normal e2 bx' h1 (by simpa only[za7] using hpp h2) h3 a' w' h4) λx e2 bx' h1 h2 h3 a' w' h4=>hk x e2 bx' h1 (by simpa only[za7] using hpp h2) h3 a' w' h4;simpa using this
     |none =>
     rw[htl] at h;simp only at h;obtain ⟨h1,h2⟩:=zae h;obtain ⟨e',e'',g1,g2,g3,g4⟩:=zjb Kq ht hor Kt _ _ _ _ _ _ _ h2 (λd v hv=>by simp[zdo] at hv);refine zth hmix h1 g2 hd' (hs.draw _) λa' w' h4=>hk .normal e' bx g1 (λi p hi hp _=>?_) (Kk.refl _) a' w' (h4.sub g3);rw[g4 i (by simpa only[za7] using hi)];exact hp
 |seq x y ihx ihy =>
   intro R e bx K r h hd a w Q hs hk;have hdx:∀d∈zaW x,d<N.n:=λd hdd=>hd d (by simp[zaW,hdd]);have hdy:∀d∈zaW y,d<N.n:=λd hdd=>hd d (by simp[zaW,hdd]);unfold zhm at h;cases Qs:(zdr y).bind an.cut.get with
   |none =>
     rw[Qs] at h;simp only at h;refine wp_seq (ihx _ _ _ _ _ h hdx hs λq e1 bx1 h1 hp1 hb1 a1 w1 h2=>?_);have hmono:∀i∈za7 an x,i∈za7 an (.seq x y):=λi hi=>by simp[za7,hi]
     cases q<;>first
      |exact hk _ _ _ h1 (hp1.mono hmono) hb1 _ _ h2
      |exact ihy _ _ _ _ _ h1 hdy h2 λq e2 bx2 h3 hp2 hb2 a2 w2 h4=>hk q e2 bx2 h3 ((hp1.trans hp2).mono λi hi=>by simp only[za7,yAp] at hi ⊢;exact .inl hi) (hb1.trans hb2) a2 w2 h4
   |some c =>
     rw[Qs] at h;simp only at h;obtain ⟨z,h1,h2⟩:=zpt h;refine wp_seq (ihx _ _ _ _ _ h1 hdx (hs.lock c.Kg) λq e1 bx1 h3 hp1 hb1 a1 w1 h4=>?_);have abn:∀q,(K q e1 (unlock bx.length (zav c.Kg 0 bx) bx1)).map .inr=some z->Q q a1 w1:=by
      intro q h3;obtain ⟨r',h5,h6⟩:=zdn h3;subst h6;rcases h2 with ⟨t,h2,_⟩|h2;·cases h2
      ·cases h2;exact hk q e1 _ h5 (hp1.mono λi hi=>by simp[za7,hi]) hb1.unlock a1 w1 (h4.unlock _ _)
     cases q<;>first
      |exact abn _ h3
      | (obtain ⟨t,h5,h6⟩:=zdn h3
         subst h6;rcases h2 with ⟨t',h2,h7⟩|h2
         ·cases h2;obtain ⟨g1,g2⟩:=zic Kq (W:=za7 an x) hs h4 (λi p hi hp=>by
           obtain ⟨_,m2,m3,m4⟩:=zb2 _ _ _ _ _ hp;exact hp1 i p (λhm=>m2 (yB5 _ hm)) m3 m4) (λi b hi=>zl8 hb1 hi) (by have:=hb1.len;rw[zcN] at this;exact this) h5
          exact ihy _ _ _ _ _ h7 hdy g1 λq e2 bx2 h8 hp2 hb2 a2 w2 h9=>hk q e2 bx2 h8 (((Ky.mkEnv c (za7 an x) e bx.length t).trans hp2).mono λi hi=>by simp only[za7,Qs,yAp] at hi ⊢;rcases hi with (hi|hi)|hi<;>simp[hi]) (g2.trans hb2) a2 w2 h9
         ·cases h2)
 |cond o x y ihx ihy =>
   intro R e bx K r h hd a w Q hs hk;simp only[zhm] at h;split at h
   ·rename_i b hb;have hev:a.eval o= .bool b:=by
     obtain ⟨D,H,hs,_⟩:=hs;have:=hs.ev hb;simpa only[Rep] using this
    refine wp_cond_split hev (λhb=>?_) (λhb=>?_);·subst hb;exact ihx _ _ _ _ _ h (λd hdd=>hd d (by simp[zaW,hdd])) hs λq e1 bx1 h1 hp1 hb1 a1 w1 h2=>hk q e1 bx1 h1 (hp1.mono λi hi=>by simp[za7,hi]) hb1 a1 w1 h2
    ·subst hb;exact ihy _ _ _ _ _ h (λd hdd=>hd d (by simp[zaW,hdd])) hs λq e1 bx1 h1 hp1 hb1 a1 w1 h2=>hk q e1 bx1 h1 (hp1.mono λi hi=>by simp[za7,hi]) hb1 a1 w1 h2
   ·cases h
 |block i c ih =>
   intro R e bx K r h hd a w Q hs hk;simp only[zhm] at h;refine wp_block (ih _ _ _ _ _ h (λd hdd=>hd d (by simpa[zaW] using hdd)) hs λq e1 bx1 h1 hp1 hb1 a1 w1 h2=>?_);have hp:Ky (za7 an (.block i c)) e e1:=hp1.mono λi hi=>by simpa[za7] using hi
   cases q with
   |exit j =>
     simp only at h1;cases hij:Nat.beq i j with
     |true =>rw[hij] at h1;have:=yAa hij;subst this;simp only[Exit.inBlock,if_true];exact hk .normal e1 bx1 h1 hp hb1 a1 w1 h2
     |false =>
       rw[hij] at h1;have hne:¬j=i:=λhe=>by subst he;simp at hij
       simp only[Exit.inBlock,hne,if_false];exact hk (.exit j) e1 bx1 h1 hp hb1 a1 w1 h2
   |normal=>exact hk .normal e1 bx1 h1 hp hb1 a1 w1 h2|goto l=>exact hk (.goto l) e1 bx1 h1 hp hb1 a1 w1 h2|ret=>exact hk .ret e1 bx1 h1 hp hb1 a1 w1 h2|panic ch=>exact hk (.panic ch) e1 bx1 h1 hp hb1 a1 w1 h2|outgrown=>exact hk .outgrown e1 bx1 h1 hp hb1 a1 w1 h2
 |loop c ih =>
   intro R e bx K r h hd a w Q hs hk;unfold zhm at h;cases Qs:(zdr c).bind an.loop.get with
   |none=>rw[Qs] at h;cases h|some ct =>
     rw[Qs] at h;simp only at h;split at h;·cases h
     ·rename_i t0 ht0;obtain ⟨n,hn⟩:=zgz h;have hdc:∀d∈zaW c,d<N.n:=λd hdd=>hd d (by simpa[zaW] using hdd);have htch:∀i∈za7 an c++ct.names,i∈za7 an (.loop c):=λi hi=>by simpa[za7,Qs] using hi
      have h00:Holds un E D0 N (mkEnv ct (za7 an c) e bx.length t0) (zhP ct bx t0) a w/\Kk bx (zhP ct bx t0):=(by exact zic Kq (W:=za7 an c) hs (hs.lock ct.Kg) (λi p hi hp=>(zb2 _ _ _ _ _ hp).2.2.1) (λi b hi=>zl8 (Kk.refl _) hi) (by rw[zcN];exact yAi _) ht0);refine zjo (λ(x:Nat×ElL S ct.codes) a w=>zlH (λt=>zhm un tb orc inl an c (ElL S ct.codes⊕R) (mkEnv ct (za7 an c) e bx.length t) (zav ct.Kg 0 (zhP ct bx t)) λx e' bx'=>match x with
       | .normal=>(zgH un ct e' bx').map .inl|x=>(K x e' (unlock (zhP ct bx t).length (zav ct.Kg 0 (zhP ct bx t)) bx')).map .inr) x.1 x.2=some r/\Holds un E D0 N (mkEnv ct (za7 an c) e bx.length x.2) (zhP ct bx x.2) a w/\Kk bx (zhP ct bx x.2)) (λx=>x.1) (λx a1 w1 hI=>?_) (n,t0) a w ⟨hn,h00⟩
      obtain ⟨k,t⟩:=x;obtain ⟨hit,hH,hB⟩:=hI;cases k with
      |zero=>simp[zlH] at hit|succ k =>
        simp only[zlH] at hit;split at hit
        ·rename_i y hy;refine ih _ _ _ _ _ hy hdc (hH.lock ct.Kg) λq e1 bx1 h3 hp1 hb1 a2 w2 h4=>?_;have abn:∀q,(K q e1 (unlock (zhP ct bx t).length (zav ct.Kg 0 (zhP ct bx t)) bx1)).map Sum.inr=some (Sum.inl y)->False:=λq h=>by
          obtain ⟨_,_,h6⟩:=zdn h;cases h6
         cases q<;>first
          |exact (abn _ h3).elim
          | (obtain ⟨t',h5,h6⟩:=zdn h3
             cases h6;have:=zic Kq (W:=za7 an c) hs h4 (λi p hi hp=>by obtain ⟨_,m2,m3,m4⟩:=zb2 _ _ _ _ _ hp;simp only[yAp,not_or] at m2;refine hp1 i p m2.2 ?_ m4;unfold mkEnv;rw[zmp m2.1,zlJ _ _ _ _ hi];exact hp) (λi b hi=>zo6 hB hb1 hi) (by have h8:=hb1.len;rw[zcN] at h8;exact yAo hB.len h8) h5;exact ⟨(k,_),⟨hit,this⟩,Nat.lt_succ_self _⟩)
        ·rename_i r' hy;cases hit;refine ih _ _ _ _ _ hy hdc (hH.lock ct.Kg) λq e1 bx1 h3 hp1 hb1 a2 w2 h4=>?_;have abn:∀q,(K q e1 (unlock (zhP ct bx t).length (zav ct.Kg 0 (zhP ct bx t)) bx1)).map (Sum.inr:R->ElL S ct.codes⊕R)=some (Sum.inr r)->Q q a2 w2:=λq h=>by
          obtain ⟨r2,h5,h6⟩:=zdn (r:=Sum.inr r) h;cases h6;exact hk q e1 _ h5 (((Ky.mkEnv ct (za7 an c) e bx.length t).trans hp1).mono λi hi=>htch i (by simp only[yAp] at hi ⊢;rcases hi with (hi|hi)|hi<;>simp[hi])) (hB.trans hb1.unlock) a2 w2 (h4.unlock _ _)
         cases q<;>first
          |exact abn _ h3
          |(exfalso;obtain ⟨_,_,h6⟩:=zdn (r:=Sum.inr _) h3;cases h6)
        ·cases hit
 |_=>intro R e bx K r h;simp[zhm] at h
end
end Pe
end
section
namespace Pe
open Go Go.RowKit
variable{S:Nat->Type}
section
variable{P:Program}{un:Uni S}{tb:Tb S}{orc:Orc S}{inl:Inl S}{an:Ann}{E:Wl.Ctx}{D:Dat}{H:List Wl.Res}{N:Wl.Fr}{e:Env S}{bx:Bxs S}{a:Act}{w:World}
theorem zn8{u:U}{us:List U}{p:PV S}{ps:List (PV S)}{t:ElL S (u::us)}(h:zf4 un bx (u::us) (p::ps)=some t):∃x t',Pe.cast un u (fzU bx u p)=some x/\zf4 un bx us ps=some t'/\t=(x,t'):=by
 unfold zf4 at h;split at h;·rename_i x t' h1 h2;cases h;exact ⟨x,t',h1,h2,rfl⟩
 ·cases h
theorem St.fzU(Kq:Kx un)(h:St un E N D H e bx a w){u:U}{p:PV S}{v:Value}(hr:Rep un (ids H) D w p v):Rep un (ids H) D w (Pe.fzU bx u p) v:=by
 unfold Pe.fzU;grind[fz]
theorem zlx(Kq:Kx un)(hs:St un E N D H e bx a w){nu':Nu}:∀{us:List U}{ps:List (PV S)}{t:ElL S us}{vs:List Value},zf4 un bx us ps=some t->Ke un (ids H) D w ps vs->Ke un nu' D w (zbQ us t) vs
 |[],[],t,[],_,_=>by simp[zbQ,Ke]
 |u::us,p::ps,t,v::vs,hc,hr=>by obtain ⟨x,t',h1,h2,rfl⟩:=zn8 hc;simp only[Ke,zbQ] at hr ⊢;exact ⟨zdg (zbT Kq h1 (hs.fzU Kq hr.1)).2,zlx Kq hs h2 hr.2⟩
 |[],_::_,_,_,hc,_=>by grind[zf4]
 |_::_,[],_,_,hc,_=>by grind[zf4]
 |[],[],_,_::_,_,hr=>by grind[Ke]
 |_::_,_::_,_,[],_,hr=>by grind[Ke]
def zsf(tmps:Array Value):ResultVar->Sem Value| .tmp t=>pure (tmps.getD t undef)| .cell b T=>do loadVar T (<-asAddr (tmps.getD b undef))
theorem ziJ(fn:Func)(tmps:Array Value):results fn tmps=(do let vs <-fn.results.toList.mapM (zsf tmps);pure (if hh:vs.toArray.size=1 then vs.toArray[0] else .tuple vs.toArray)):=by
 have:(λx:ResultVar=>match x with
  | .tmp t=>pure (tmps.getD t undef)| .cell a t=>do loadVar t (<-asAddr (tmps.getD a undef)))=zsf tmps:=by funext x;cases x<;>rfl
 unfold results;rw[Array.mapM_eq_mapM_toList];simp only[map_eq_pure_bind,bind_assoc,pure_bind];exact congrArg (λf=>fn.results.toList.mapM f >>= λvs=>pure (if hh:vs.toArray.size=1 then vs.toArray[0] else .tuple vs.toArray)) this
theorem zfA(Kq:Kx un)(ht:Qc P un tb)(hs:St un E N D H e bx a w):∀{rvs:List ResultVar}{ps:List (PV S)},ze6 un tb e bx rvs=some ps ->
  ∃vs:List Value,(rvs.mapM (zsf a.tmps)).run P w= .ok vs w/\Ke un (ids H) D w ps vs
 |[],ps,h=>by simp_all[ze6,Ke]
 | .tmp t::r,ps,h=>by
   unfold ze6 at h;split at h;·rename_i p l h1 h2;cases h;obtain ⟨vs,g1,g2⟩:=zfA Kq ht hs h2;exact ⟨a.tmps.getD t undef::vs,by simp_all[zsf],by grind[Ke,St.slots]⟩
   ·cases h
 | .cell b T::r,ps,h=>by
   unfold ze6 at h;split at h
   ·rename_i q l h1 h2;split at h
    ·rename_i p h3;cases h;obtain ⟨vs,g1,g2⟩:=zfA Kq ht hs h2;obtain ⟨u,g3,g4⟩:=zmM Kq ht hs h3 (hs.slots b q h1);refine ⟨u::vs,?_,by grind[Ke]⟩;have g5:(zsf a.tmps (.cell b T)).run P w= .ok u w:=by
      simp only[zsf];unfold Instr.loadAt at g3;generalize a.tmps.getD b undef=vv at g3 ⊢;cases vv with
      |pointer ad =>
        cases ad with
        |some ad=>grind[asAddr,Instr.sureAddr]|none=>simp_all[Instr.sureAddr]
      |_=>simp_all[Instr.sureAddr]
     simp_all
    ·cases h
   ·cases h
theorem zoF{nu:Nu}{ps:List (PV S)}{vs:List Value}(h:Ke un nu D w ps vs):Rep un nu D w (zfI ps) (if hh:vs.toArray.size=1 then vs.toArray[0] else .tuple vs.toArray):=by
 match ps,vs,h with
 |[],[],_=>grind[zfI,Rep]|[p],[v],h=>grind[zfI,Ke]|p::q::ps,v::x::vs,h=>grind[zfI,Rep]|[],_::_,h=>grind[Ke]|_::_,[],h=>grind[Ke]|[_],_::_::_,h=>grind[Ke]|_::_::_,[_],h=>grind[Ke]
theorem ziv(Kq:Kx un)(ht:Qc P un tb)(hs:St un E N D H e bx a w){fn:Func}{ps:List (PV S)}(h:ze6 un tb e bx fn.results.toList=some ps) :
  ∃v D' H' vs,(results fn a.tmps).run P w= .ok v w/\v=(if hh:vs.toArray.size=1 then vs.toArray[0] else .tuple vs.toArray)/\St un E N D' H' e (zaq (zdi ps) bx) a w/\ids H'=ids H/\Ge D w D' w/\(∀k o,D' k o->D k o\/E.may k)/\Ke un (ids H') D' w ps vs:=by
 obtain ⟨vs,h1,h2⟩:=zfA Kq ht hs h;obtain ⟨D',H',k1,k2,k3,k4⟩:=hs.freeze (zdi ps);refine ⟨_,D',H',vs,?_,rfl,k1,k2,k3,k4,?_⟩;·simp_all[ziJ]
 grind[Ke.ge]
theorem zbY(Kq:Kx un)(ht:Qc P un tb)(hs:St un E N D H e bx a w){fn:Func}{ps:List (PV S)}(h:ze6 un tb e bx fn.results.toList=some ps){rs:List U}{t:ElL S rs}(hc:zf4 un (zaq (zdi ps) bx) rs ps=some t) :
  ∃v D' H',(results fn a.tmps).run P w= .ok v w/\Rep un [] D' w (zfI (zbQ rs t)) v/\St un E N D' H' e (zaq (zdi ps) bx) a w/\ids H'=ids H/\Ge D w D' w/\(∀k o,D' k o->D k o\/E.may k):=by
 obtain ⟨v,D',H',vs,h1,h2,h3,h4,h5,h6,h7⟩:=ziv Kq ht hs h;refine ⟨v,D',H',h1,?_,h3,h4,h5,h6⟩;rw[h2];exact zoF (zlx Kq h3 (nu':=[]) hc h7)
theorem zcM:∀(l:List (PV S))(k i:Nat)(v:PV S),zvo (ze2 k l) i=some v->k<=i/\l[i - k]?=some v
 |[],_,_,_,h=>by cases h
 |u::r,k,i,v,h=>by
   simp only[ze2,zvo] at h;cases hb:Nat.beq k i with
   |true=>simp_all
   |false =>rw[hb] at h;obtain ⟨h1,h2⟩:=zcM r (k+1) i v h;grind
theorem Ke.len{nu:Nu}:∀{ps:List (PV S)}{vs:List Value},Ke un nu D w ps vs->ps.length=vs.length
 |[],[],_=>rfl|p::ps,v::vs,hr=>by simp only[Ke] at hr;simp[Ke.len hr.2]
 |_::_,[],hr=>by grind[Ke]
 |[],_::_,hr=>by grind[Ke]
theorem zm1(hmix:P.follows .mixedOrders=true)(Kq:Kx un)(ht:Qc P un tb)(hor:K4 P un orc)(Kt:Qe P un inl){fn:Func}{args:List (PV S)}{rs:List U}{r:ElL S rs}{f:FuncId}
  (h:fnI un tb orc inl an fn args bx rs=some r) (hf:P.funcs[f]?=some fn) {vs:List Value} (htab:TabE un w []) (hD:∀k o,D k o->k<w.heap.size) (hH:∀r∈H,∃id,r= .ref id) (hbx:Kj un (ids H) D w ⟨w,[],[]⟩ bx H) (ha:Ke un (ids H) D w args vs) :
  Back P un D f vs.toArray w (zfI (zbQ rs r)):=by
 unfold fnI at h;split at h;·cases h
 ·rename_i c hb;obtain ⟨h0,h⟩:=zae h;simp only[yAd,yAM,yAN,yAK] at h0;refine calls_of_wp hf hb ?_;have Ku:=ha.len;have hst:St un ⟨w,[],[]⟩ ⟨fn.ntmps,[]⟩ D H (ze2 0 args) bx { tmps:=vs.toArray++Array.replicate (fn.ntmps - vs.toArray.size) undef,defers:=[] } w:=by
   refine ⟨⟨Wl.Grow.refl _ _,hD,λr hr=>?_,λr hr g hg=>?_,?_,λi g hi=>by simp[zyp] at hi⟩,?_,⟨rfl,htab⟩,hbx,λi p hi=>?_⟩;·obtain ⟨id,rfl⟩:=hH r hr;trivial
   ·obtain ⟨id,rfl⟩:=hH r hr;cases hg
   ·refine yBg (R:=λ_ _=>True) (λ{r r'} hr hr' _=>?_) (List.pairwise_of_forall λ_ _=>trivial);obtain ⟨id,rfl⟩:=hH r hr;intro g hg;cases hg
   ·simp;omega
   ·obtain ⟨_,h1⟩:=zcM args 0 i p hi;obtain ⟨v,h2,h3⟩:=ha.get i p (by simpa using h1);have Ks:i<vs.length:=(yAc.1 h2).1;simp only[yAv];rw[yBK (by simpa using Ks)];simpa[h2] using h3
  refine zfm (E:=⟨w,[],[]⟩) (D0:=D) (N:=⟨fn.ntmps,[]⟩) hmix Kq (ht.at an) hor Kt _ _ _ _ _ _ h h0.1 ⟨D,H,hst,λk o hk=>.inl hk,Ge.refl _ _⟩ λx e' bx' hk _ _ a' w' hH'=>?_;have fin:(match ze6 un tb e' bx' fn.results.toList with
   |some l=>zf4 un (zaq (zdi l) bx') rs l|none=>none)=some r->a'.defers=[]/\∃v,(results fn a'.tmps).run P w'= .ok v w'/\∃v',Ending.returned v= .returned v'/\Below w.heap.size w w'/\Rep un [] (zkU D w w') w' (zfI (zbQ rs r)) v':=by
   intro hk;split at hk
   ·rename_i l hl;obtain ⟨D1,H1,hs1,hD1,hG1⟩:=hH';obtain ⟨v,D',H',g1,g2,hs',_,k3,k4⟩:=zbY (P:=P) Kq ht hs1 hl hk;have hD':∀k o,D' k o->D k o\/(⟨w,[],[]⟩:Wl.Ctx).may k:=λk o hk=>(k4 k o hk).elim (hD1 k o) .inr;have hg:=hs'.Kr.out;refine ⟨hs'.defers.1,v,g1,v,rfl,⟨hg.os,hg.tape,hg.output,hg.size,λk hk=>hg.block k hk (by simp)⟩,?_⟩;refine g2.ge ⟨λk o hk=>?_,λ_ _ _=>rfl,λ_ _ _ _ _ h=>h⟩ λ_ _ h=>h;rcases hD' k o hk with h1|h1;·exact .inl h1
    ·rcases h1 with h1|h1;·exact .inr ⟨h1,hs'.Kr.lt k o hk⟩
     ·cases h1
   ·cases hk
  cases x with
  |normal=>exact fin hk|ret=>exact fin hk|exit i=>cases hk|goto l=>cases hk|panic ch=>cases hk|outgrown=>cases hk
theorem zmS(Kq:Kx un)(hs:St un E N D H e bx a w){D':Dat}(K2:Ge D w D' w):∀{ts:List TypeId}{lc:List U}{gs ls:List Nat}{c:ElL S lc},zfg un bx ts lc ls=some c->BlocksOf H ls gs->zaL un D' w ts lc c gs
 |[],[],[],[],c,_,_=>by simp[zaL]
 |T::ts,u::us,g::gs,b::bs,c,h,hb=>by
   unfold zfg at h;split at h
   ·rename_i T' cs hg;split at h;·rename_i x t h1 h2;obtain ⟨h3,h4⟩:=zae h;cases h4;simp only[yAd] at h3;have hT:=yAa h3.1.1;subst hT;simp only[BlocksOf] at hb;obtain ⟨⟨T0,cs0,hH⟩,hb2⟩:=hb;obtain ⟨r,hr1,hr2⟩:=hs.Kg.get hg;rw[hH] at hr1;cases hr1;simp only[Kc] at hr2;obtain ⟨rfl,hl⟩:=hr2;simp only[zaL];exact ⟨⟨cs0,(hs.Kr.res _ (yAb hH)).2,(zmR Kq hs h1 hl).mono K2⟩,zmS Kq hs K2 h2 hb2⟩
    ·cases h
   ·cases h
 |[],[],[],_::_,_,h,_=>by grind[zfg]
 |[],[],_::_,[],_,_,hb=>by grind[BlocksOf]
 |[],[],_::_,_::_,_,h,_=>by grind[zfg]
 |[],_::_,_,_,_,h,_=>by grind[zfg]
 |_::_,[],_,_,_,h,_=>by grind[zfg]
 |_::_,_::_,_,[],_,h,_=>by grind[zfg]
 |_::_,_::_,[],_::_,_,_,hb=>by grind[BlocksOf]
def zbP(w:World):List TypeId->List Nat->List Wl.Res|T::ts,g::gs=>.box g T (match w.heap[g]? with|some (.cells cs _ _)=>cs.toList|_=>[])::zbP w ts gs|_,_=>[]
theorem zgS(hf:zns un){c:List U}:∀{ts:List TypeId}{lc:List U}{t:ElL S lc}{gs:List Nat},zaL un D w ts lc t gs->∀{nu:Nu}{E:Wl.Ctx},
  Kj un nu D w E (zdO un ts lc t) (zbP w ts gs)/\ids (zbP w ts gs)=zgN gs/\(zbP w ts gs).length=gs.length/\ts.length=gs.length /\
  ∀r∈zbP w ts gs,∃g∈gs,∃T cs,r= .box g T cs/\w.heap[g]?=some (.cells cs.toArray T (0,0))
 |[],[],_,[],_,_,_=>by simp[zdO,zbP,Kj,ids]
 |T::ts,u::us,t,g::gs,h,nu,E=>by
   simp only[zaL] at h;obtain ⟨⟨cs,h1,h2⟩,h3⟩:=h;obtain ⟨k1,k2,k3,k4,k5⟩:=zgS hf (c:=c) h3 (nu:=nu) (E:=E);simp only[zdO,zbP,h1,Kj,Kc];refine ⟨⟨⟨trivial,zbZ hf h2⟩,k1⟩,by simp_all[zal],by simp[k3],by simp[k4],λr hr=>?_⟩;rcases yAm.1 hr with rfl|hr;·exact ⟨g,by simp,T,_,rfl,by grind⟩
   grind
 |[],[],_,_::_,h,_,_=>by grind[zaL]
 |[],_::_,_,_,h,_,_=>by grind[zaL]
 |_::_,[],_,_,h,_,_=>by grind[zaL]
 |_::_,_::_,_,[],h,_,_=>by grind[zaL]
theorem zeX:∀{ts:List TypeId}{gs:List Nat},ts.length=gs.length->(zbP w ts gs).map Wl.Res.block=gs.map some
 |[],[],_=>rfl|T::ts,g::gs,h=>by simp only[zbP,yAn,Wl.Res.block];rw[zeX (by simpa using h)]
 |[],_::_,h=>by simp at h
 |_::_,[],h=>by simp at h
theorem zkl:∀{ps:List U}{vs:List Value}{p:ElL S ps},zge ps vs=some p->valI ps p=vs
 |[],[],_,_=>rfl| .int k::us,v::vs,p,h=>by
   cases v with
   |int k' n =>
     simp only[zge] at h;split at h;·rename_i hk t' h1 h2;have:=hk.down;subst this;cases h;simp only[valI];rw[zkl h2]
     ·cases h
   |_=>grind[zge]
 |[],_::_,_,h=>by grind[zge]
 | .int _::_,[],_,h=>by grind[zge]
 | .bool::_,_,_,h=>by grind[zge]
 | .str::_,_,_,h=>by grind[zge]
 | .sl _::_,_,_,h=>by grind[zge]
 | .st _::_,_,_,h=>by grind[zge]
 | .mp _ _::_,_,_,h=>by grind[zge]
 | .rw _::_,_,_,h=>by grind[zge]
theorem zjq{pan:TypeId}{ps:List U}{ch:List PanicEntry}{p:ElL S ps}(h:zom pan ps ch=some p):ch=[zsg pan ps p]:=by
 unfold zom at h;split at h;·rename_i T a;obtain ⟨h1,h2⟩:=zae h;have:=yAa h1;subst this;simp only[zsg,zkl h2]
 ·cases h
theorem ziW:∀{ts:List TypeId}{lc:List U}{c:ElL S lc}{i:Nat}{b:Box S},zam (zdO un ts lc c) i=some b->∃T cs,b= .var T cs
 |[],_,_,_,_,h=>by grind[zdO,zam]
 |_::_,[],_,_,_,h=>by grind[zdO,zam]
 |T::ts,u::us,t,0,b,h=>by simp[zdO,zam] at h;exact ⟨_,_,h.symm⟩
 |T::ts,u::us,t,i+1,b,h=>ziW (ts:=ts) (lc:=us) (c:=t.2) (i:=i) (by grind[zdO,zam])
theorem zgZ:∀{gs:List Nat}{k:Nat},(∀(i g:Nat),gs[i]?=some g->∃T cs,H[k+i]?=some (.box g T cs))->BlocksOf H (List.range' k gs.length) gs
 |[],_,_=>by simp[BlocksOf]
 |g::gs,k,h=>by simp only[yAw,yBk,BlocksOf];exact ⟨h 0 g rfl,zgZ λi g' hi=>by have:=h (i+1) g' (by grind);grind⟩
theorem zpg(hmix:P.follows .mixedOrders=true)(Kq:Kx un)(ht:Qc P un tb)(hor:K4 P un orc)(Kt:Qe P un inl){fn:Func}{args:List (PV S)}{ts:List TypeId}{lc:List U}{c:ElL S lc}{rs ps:List U}{pan:TypeId}{r:Out S lc rs ps}{f:FuncId}
  (h:fnE un tb orc inl an fn args ts lc c rs ps pan=some r) (hf:P.funcs[f]?=some fn):zsl P un f args ts lc c rs ps pan r:=by
 intro D w vs gs htab hD hgn hgD hl ha;unfold fnE at h;split at h;·cases h
 ·rename_i b hb;obtain ⟨h0,h⟩:=zae h;simp only[yAd,yAM,yAN,yAK] at h0;obtain ⟨⟨h0,h00⟩,h01⟩:=h0;refine calls_of_wp hf hb ?_;have Ku:=ha.len;obtain ⟨k1,k2,k3,k4,k5⟩:=zgS Kq.flat (c:=[]) hl (nu:=ids (zbP w ts gs)) (E:=⟨w,gs,gs.map λg=>.pointer (some ⟨g,0,none⟩)⟩);have Ql:=zeX (w:=w) k4;have hst:St un ⟨w,gs,gs.map λg=>.pointer (some ⟨g,0,none⟩)⟩ ⟨fn.ntmps,[]⟩ D (zbP w ts gs) (ze2 0 args) (zdO un ts lc c) { tmps:=vs.toArray++Array.replicate (fn.ntmps - vs.toArray.size) undef,defers:=[] } w:=by
   refine ⟨⟨Wl.Grow.refl _ _,hD,λr hr=>?_,λr hr g hg o _=>?_,?_,λi g hi=>?_⟩,?_,⟨rfl,htab⟩,k1,λi p hi=>?_⟩;·obtain ⟨g,hgm,T,cs,rfl,hw⟩:=k5 r hr;exact ⟨.inr hgm,hw⟩
   ·obtain ⟨g',hgm,T,cs,rfl,hw⟩:=k5 r hr;simp[Wl.Res.has] at hg;subst hg;exact hgD _ hgm o
   ·have h1:(gs.map some).Pairwise (λ(x y:Option Nat)=>∀g,x=some g->y≠some g):=by
     rw[yA6];exact List.Pairwise.imp (λ{a b} hab g hg hg'=>by simp at hg hg';exact hab (hg.trans hg'.symm)) hgn
    rw[<-Ql,yA6] at h1;refine yBg (λ{a b} ha hb hab g h3 h4=>?_) h1;obtain ⟨_,_,_,_,rfl,_⟩:=k5 a ha;obtain ⟨_,_,_,_,rfl,_⟩:=k5 b hb;exact hab g h3 h4
   ·have hid:(ids (zbP w ts gs))[i]?=(zgN gs)[i]? :=by rw[k2]
    replace hi:=(zyx hi).1
    simp only[yAh,yA9] at hi;obtain ⟨g0,hi',rfl⟩:=hi;simp only[ids,yAh,hi',yAg] at hid;cases hr:(zbP w ts gs)[i]? with
    |none=>rw[hr] at hid;cases hid|some r0 =>rw[hr] at hid;obtain ⟨g1,_,T0,cs0,rfl,_⟩:=k5 r0 (yAb hr);simp[zal] at hid;subst hid;exact ⟨_,rfl,rfl,rfl,keptR.box⟩
   ·simp;omega
   ·obtain ⟨_,h1⟩:=zcM args 0 i p hi;obtain ⟨v,h2,h3⟩:=ha.get i p (by simpa using h1);have Ks:i<vs.length:=(yAc.1 h2).1;rw[k2];simp only[yAv];rw[yBK (by simpa using Ks)];simpa[h2] using h3
  refine zfm (E:=⟨w,gs,gs.map λg=>.pointer (some ⟨g,0,none⟩)⟩) (D0:=D) (N:=⟨fn.ntmps,[]⟩) hmix Kq (ht.at an) hor Kt _ _ _ _ _ _ h h0 ⟨D,_,hst,λk o hk=>.inl hk,Ge.refl _ _⟩ λx e' bx' hk _ hpb a' w' hH'=>?_;obtain ⟨D',H',hs',hD',_⟩:=hH';have hg:=hs'.Kr.out;have hboxat:∀{H':List Wl.Res}{D':Dat},In ⟨w,gs,gs.map λg=>.pointer (some ⟨g,0,none⟩)⟩ D' H' w'->∀(i g:Nat),gs[i]?=some g->∃T cs,H'[i]?=some (.box g T cs):=by
   intro H' D' Kt i g hi;obtain ⟨r0,h1,h2,h3,_⟩:=Kt.lent i (.pointer (some ⟨g,0,none⟩)) (zyR (by simp[hi]) (by simp));cases r0 with
   |box g' T cs=>simp[zal] at h3;subst h3;exact ⟨T,cs,h1⟩|fix v g' size ob =>simp[zal] at h3;subst h3;exact absurd (Kt.res _ (yAb h1)).1 (zcQ _)|_=>simp[zax] at h2
  have hnogs:∀{H':List Wl.Res}{D':Dat},In ⟨w,gs,gs.map λg=>.pointer (some ⟨g,0,none⟩)⟩ D' H' w'->∀g∈gs,∀o,¬D' g o:=by intro H' D' Kt g hgm o;obtain ⟨i,hi⟩:=yAl hgm;obtain ⟨T,cs,h1⟩:=hboxat Kt i g hi;exact Kt.apart _ (yAb h1) g rfl o trivial
  have hup:∀{H':List Wl.Res}{D':Dat},In ⟨w,gs,gs.map λg=>.pointer (some ⟨g,0,none⟩)⟩ D' H' w'->(∀k o,D' k o->D k o\/(⟨w,gs,gs.map λg=>.pointer (some ⟨g,0,none⟩)⟩:Wl.Ctx).may k)->Ge D' w' (zkU D w w') w':=by
   intro H' D' Kt hD';refine ⟨λk o hk=>?_,λ_ _ _=>rfl,λ_ _ _ _ _ h=>h⟩;rcases hD' k o hk with h1|h1;·exact .inl h1
   ·rcases h1 with h1|h1;·exact .inr ⟨h1,Kt.lt k o hk⟩
    ·exact absurd hk (hnogs Kt k h1 o)
  have hbl:∀{H':List Wl.Res}{D':Dat},In ⟨w,gs,gs.map λg=>.pointer (some ⟨g,0,none⟩)⟩ D' H' w'->BlocksOf H' (List.range ts.length) gs:=by intro H' D' Kt;rw[yBE,k4];exact zgZ λi g hi=>by simpa using hboxat Kt i g hi
  have hsame:zov w w' gs:=by
   intro g hgm T cs hw;obtain ⟨i,hi⟩:=yAl hgm;have hil:i<gs.length:=(yAc.1 hi).1;obtain ⟨b0,hb0⟩:=zbR (bx:=zdO un ts lc c) (i:=i) (by rw[k1.length,k3];exact hil);obtain ⟨T1,csP,rfl⟩:=ziW hb0;obtain ⟨r0,hr1,hr2⟩:=k1.get hb0;obtain ⟨g0,_,T0,cs0,rfl,hw0⟩:=k5 r0 (yAb hr1);have hid:(ids (zbP w ts gs))[i]?=(zgN gs)[i]? :=by rw[k2]
   simp only[ids,yAh,hr1,hi,yAg,zal] at hid;simp at hid;subst hid;simp only[Kc] at hr2;obtain ⟨rfl,hl2⟩:=hr2;rw[hw] at hw0;simp at hw0;obtain ⟨hcs,rfl⟩:=hw0;obtain ⟨csP',hb1,hlenP⟩:=hpb.var i _ _ hb0;obtain ⟨r1,hr3,hr4⟩:=hs'.Kg.get hb1;obtain ⟨T2,cs2,hr5⟩:=hboxat hs'.Kr i _ hi;rw[hr3] at hr5;cases hr5;simp only[Kc] at hr4;obtain ⟨rfl,hl3⟩:=hr4;refine ⟨cs2.toArray,?_,(hs'.Kr.res _ (yAb hr3)).2⟩;have e1:=hl2.length;have e2:=hl3.length;rw[hcs];simp;omega
  have fin:finE un tb fn e' bx' ts lc rs ps=some r->a'.defers=[]/\∃v,(results fn a'.tmps).run P w'= .ok v w'/\EndE un D w ts lc rs ps pan gs r (.returned v) w':=by
   intro hk;unfold finE at hk;split at hk
   ·rename_i l hl';split at hk;·rename_i t c' hc1 hc2;cases hk;obtain ⟨v,D2,H2,g1,g2,hs2,_,_,m4⟩:=zbY (P:=P) Kq ht hs' hl' hc1;have K2:=hup hs2.Kr λk o hk=>(m4 k o hk).elim (hD' k o) .inr;refine ⟨hs'.defers.1,v,g1,⟨hg.os,hg.tape,hg.output,hg.size,hg.block⟩,⟨v,rfl,g2.ge K2 λ_ _ h=>h⟩,zmS Kq hs2 K2 hc2 (hbl hs2.Kr)⟩
    ·cases hk
   ·cases hk
  cases x with
  |normal=>exact fin hk|ret=>exact fin hk|panic ch =>
    simp only at hk;split at hk;·rename_i p hp;cases hk;refine ⟨hs'.defers.1,⟨hg.os,hg.tape,hg.output,hg.size,hg.block⟩,?_,hsame⟩;rw[zjq hp]
    ·cases hk
  |exit i=>cases hk|goto l=>cases hk|outgrown=>cases hk
theorem zbC(hmix:P.follows .mixedOrders=true)(Kq:Kx un)(ht:Qc P un tb)(hor:K4 P un orc):∀n,Qe P un (zoh un tb orc n)|0=>⟨λ_ _ _ _ _ _ _ _ _ _ _ h=>by grind[zoh],λ_ _ _ _ _ _ _ h=>by grind[zoh]⟩|n+1=>⟨λfn an args ts lc c rs ps pan r f h hf=>zpg hmix Kq ht hor (zbC hmix Kq ht hor n) h hf,λfn an args bx rs r f h hf D H w vs htab hD hH hbx ha=>zm1 hmix Kq ht hor (zbC hmix Kq ht hor n) h hf htab hD hH hbx ha⟩
theorem zrV(hmix:P.follows .mixedOrders=true)(Kq:Kx un)(ht:Qc P un tb)(hor:K4 P un orc){fn:Func}{args:List (PV S)}{ts:List TypeId}{lc:List U}{c:ElL S lc}{rs ps:List U}{pan:TypeId}{r:Out S lc rs ps}{f:FuncId}
  (h:fnF un tb orc an fn args ts lc c rs ps pan=some r) (hf:P.funcs[f]?=some fn):zsl P un f args ts lc c rs ps pan r :=
 zpg hmix Kq ht hor (zbC hmix Kq ht hor 6) h hf
theorem zrS(hmix:P.follows .mixedOrders=true)(Kq:Kx un)(ht:Qc P un tb)(hor:K4 P un orc){fn:Func}{args:List (PV S)}{rs:List U}{r:ElL S rs}{f:FuncId}
  (h:fnM un tb orc an fn args rs=some r) (hf:P.funcs[f]?=some fn):Sat P un f args rs r :=
 λD w vs htab hD ha=>zm1 (H:=[]) hmix Kq ht hor (zbC hmix Kq ht hor 6) h hf htab hD (by simp) (by grind[Kj]) ha
end
end Pe
end
section
namespace Pe
open Go Go.RowKit
variable{S:Nat->Type}
section
variable{P:Program}{un:Uni S}{tb:Tb S}{orc:Orc S}{inl:Inl S}{an:Ann}{E E':Wl.Ctx}{D D':Dat}{H:List Wl.Res}{N:Wl.Fr}{e:Env S}{bx:Bxs S}{a:Act}{w w':World}
theorem zbI:∀(as:List Arg)(ps:List (PV S)),(zww as ps).length<=as.length
 |[],_=>by simp[zww]
 | .one _::as,p::ps=>by simp only[zww,yAw];have:=zbI as ps;omega
 | .one _::as,[]=>by simp only[zww,yAw];have:=zbI as ([]:List (PV S));omega
 | .agg cs::as,ps=>by simp only[zww,yAw];have:=zbI as (ps.drop cs.length);omega
 | .ref k::as,ps=>by simp only[zww,yAw];have:=zbI as ps;omega
 | .ptr k off::as,ps=>by simp only[zww,yAw];have:=zbI as ps;omega
 | .fn f::as,ps=>by simp only[zww,yAw];have:=zbI as ps;omega
 | .nil::as,ps=>by simp only[zww,yAw];have:=zbI as ps;omega
 | .agr cs k::as,ps=>by simp only[zww,yAw];have:=zbI as (ps.drop cs.length);omega
theorem zeb:∀{rs:List Arg}{l ps:List (PV S)},za0 rs l=some ps->zad [] rs l=some ps
 |[],[],ps,h=>by simp_all[za0,zad]
 | .one c::rs,p::l,ps,h=>by
   unfold za0 at h;unfold zad;split at h;·rename_i l' h1;rw[zeb h1];exact h
   ·cases h
 | .agg cs::rs,p::l,ps,h=>by
   cases p with
   |agg q =>
     unfold za0 at h;unfold zad;split at h;·rename_i l' h1;rw[zeb h1];exact h
     ·cases h
   |_=>grind[za0]
 | .ref _::_,l,_,h=>by grind[za0]
 | .ptr _ _::_,l,_,h=>by grind[za0]
 | .fn _::_,l,_,h=>by grind[za0]
 | .nil::_,l,_,h=>by grind[za0]
 | .agr _ _::_,l,_,h=>by grind[za0]
 |[],_::_,_,h=>by grind[za0]
 | .one _::_,[],_,h=>by grind[za0]
 | .agg _::_,[],_,h=>by grind[za0]
theorem zgy{nu nu':Nu}:∀{bs:List (Bool×TypeId×List CTy)}{ls:List Nat}{ps:List (PV S)}{rest:List Value},ls.length=bs.length->(∀(k b:Nat)(fl:Bool)(T:TypeId)(l:List CTy),ls[k]?=some b->bs[k]?=some (fl,T,l)->∃cs,zam bx b=some (.var T cs)/\cs.length=l.length)->Kj un nu D w E bx H->Ke un nu' D' w' ps (zcd H (ls.zip (bs.map (·.2.2)))++rest) ->
  Kj un nu' D' w' E' (zbO bs ps) (ls.map λb=>(H[b]?).getD (.ref (false,undef)))
 |[],[],_,_,_,_,_,_=>by simp[zbO,Kj]
 |(fl,T,l)::bs,b::ls,ps,rest,hl,hb,hx,hr=>by
   obtain ⟨cs,hg,hcl⟩:=hb 0 b fl T l rfl rfl;obtain ⟨r,g1,g2,g3,g4,g5⟩:=zbp hx hg;have h0:(zbz H b).length=l.length:=by grind[Ke.length]
   simp only[yAn,yBq,zcd,yA5] at hr;have h1:=hr.take l.length;have h2:=hr.drop l.length;rw[<-h0,yBr] at h1;rw[<-h0,yBy] at h2;rw[h0] at h1 h2;simp only[zbO,yAn,Kj,g1,yB8];exact ⟨ziN g5 (by grind),zgy (by grind) (λk b' fl' T' l' k1 k2=>hb (k+1) b' fl' T' l' (by grind) (by grind)) hx h2⟩
 |[],_::_,_,_,hl,_,_,_=>by simp at hl
 |_::_,[],_,_,hl,_,_,_=>by simp at hl
theorem zmI:∀{bs:List (Bool×TypeId×List CTy)}{ps:List (PV S)}{k:Nat}{fl:Bool}{T:TypeId}{l:List CTy},bs[k]?=some (fl,T,l)->((bs.map (·.2.2)).flatten).length<=ps.length->∃cs,zam (zbO bs ps) k=some (.var T cs)/\cs.length=l.length
 |(fl0,T0,l0)::bs,ps,0,fl,T,l,h,hp=>by simp at h;obtain ⟨rfl,rfl,rfl⟩:=h;simp at hp;exact ⟨_,rfl,by simp;omega⟩
 |(fl0,T0,l0)::bs,ps,k+1,fl,T,l,h,hp=>by simp only[yAn,yBM,yAI] at hp;simpa[zbO,zam] using zmI (bs:=bs) (ps:=ps.drop l0.length) (k:=k) (by simpa using h) (by rw[yAL];omega)
 |[],_,_,_,_,_,h,_=>by simp at h
theorem zlZ:∀(bs:List (Bool×TypeId×List CTy))(n:Nat),nrs n bs=(List.range' n bs.length).zip (bs.map (·.2.2))
 |[],_=>by simp[nrs]
 |(_,_,l)::bs,n=>by simp only[nrs,yAw,yBk,yAn,yBq];rw[zlZ bs (n+1)]
theorem zjp:∀{bs:List (List CTy)}{ls:List Nat},ls.length=bs.length->(∀(k b:Nat) l,ls[k]?=some b->bs[k]?=some l->(zbz H b).length=l.length)->(zcd H (ls.zip bs)).length=bs.flatten.length
 |[],[],_,_=>rfl|l::bs,b::ls,hl,h=>by simp only[yBq,zcd,yAI,yBM];rw[h 0 b l rfl rfl,zjp (by grind) λk b' l' k1 k2=>h (k+1) b' l' (by grind) (by grind)]
 |[],_::_,hl,_=>by simp at hl
 |_::_,[],hl,_=>by simp at hl
theorem zrT(hmix:P.follows .mixedOrders=true)(Kq:Kx un)(ht:Qc P un tb)(hor:K4 P un orc)(Kt:Qe P un inl){fn:Func}{g:Sg}{t:g.In S}{r:g.Out S}{f:FuncId}
  (h:fnL un tb orc inl an fn g t=some r) (hf:P.funcs[f]?=some fn):ztk P un f g t r:=by
 intro D w vs H fx htab hfx hI hbx Qb;unfold fnL at h;split at h;·cases h
 ·rename_i b hb;obtain ⟨h0,h⟩:=zae h;simp only[yAd,yAM,yAN,yAK] at h0;obtain ⟨h0,h00⟩:=h0;refine calls_of_wp hf hb ?_;have Ku:=Qb.len;have hle:=zbI g.as ((zcI g.ins t g.bs.length).drop g.nb);have hst:St un ⟨w,zaB H,fx⟩ ⟨fn.ntmps,[]⟩ D H (ze2 0 (zww g.as ((zcI g.ins t g.bs.length).drop g.nb))) (zbO g.bs (zcI g.ins t g.bs.length)++zbo g.ins t) { tmps:=vs.toArray++Array.replicate (fn.ntmps - vs.toArray.size) undef,defers:=[] } w:=by
   refine ⟨hI,?_,⟨rfl,htab⟩,hbx,λi p hi=>?_⟩;·simp;omega
   ·obtain ⟨_,h1⟩:=zcM _ 0 i p hi;obtain ⟨v,h2,h3⟩:=Qb.get i p (by simpa using h1);have Ks:i<vs.length:=(yAc.1 h2).1;simp only[yAv];rw[yBK (by simpa using Ks)];simpa[h2] using h3
  have hin0:((g.bs.map (·.2.2)).flatten).length<=(zcI g.ins t g.bs.length).length:=by rw[zbx];simp[Sg.ins]
  refine zfm (E:=⟨w,zaB H,fx⟩) (D0:=D) (N:=⟨fn.ntmps,[]⟩) hmix Kq (ht.at an) hor Kt _ _ _ _ _ _ h h0 ⟨D,H,hst,λk o hk=>.inl hk,Ge.refl _ _⟩ λx e' bx' hk _ hpb a' w' hH'=>?_;obtain ⟨D1,H1,hs1,hD1,hG1⟩:=hH';have hvar:∀(k:Nat)(fl:Bool)(T:TypeId)(l:List CTy),g.bs[k]?=some (fl,T,l)->∃cs,zam bx' k=some (.var T cs)/\cs.length=l.length:=by intro k fl T l hkk;obtain ⟨cs,k1,k2⟩:=zmI hkk hin0;obtain ⟨cs',k3,k4⟩:=hpb.var k T cs (zb6 k1);exact ⟨cs',k3,k4.trans k2⟩
  have hvar2:∀{bx2:Bxs S},(∀{i:Nat}{T:TypeId}{cs:List (PV S)},zam bx' i=some (.var T cs)->zam bx2 i=some (.var T cs))->∀(k b:Nat)(fl:Bool)(T:TypeId)(l:List CTy),(List.range' 0 g.bs.length)[k]?=some b->g.bs[k]?=some (fl,T,l)->∃cs,zam bx2 b=some (.var T cs)/\cs.length=l.length:=by
   intro bx2 h2 k b fl T l k1 k2;have hkb:b=k:=by have hkl:k<g.bs.length:=(yAc.1 k2).1;rw[yBN hkl] at k1;simp at k1;exact k1.symm
   subst hkb;obtain ⟨cs,k3,k4⟩:=hvar b fl T l k2;exact ⟨cs,h2 k3,k4⟩
  have fin:finL un tb fn g e' bx'=some r->a'.defers=[]/\∃v,(results fn a'.tmps).run P w'= .ok v w'/\EndL un D w H fx g r (.returned v) w':=by
   intro hk;unfold finL at hk;split at hk
   ·rename_i l hl;split at hk
    ·rename_i ps qs hps hqs;split at hk
     ·rename_i t' htell;cases hk;obtain ⟨vs',h1,h2⟩:=zfA (P:=P) Kq ht hs1 hl;unfold znx at htell;obtain ⟨hro,hct⟩:=zae htell;obtain ⟨D2,H2,hs2,K8,hG2,hup2⟩:=hs1.freeze (frs g.outs (qs++ps));have hqs2:=zcn (ks:=frs g.outs (qs++ps)) hqs;have hv2:=hvar2 (bx2:=zaq (frs g.outs (qs++ps)) bx') λhg=>za9 _ hg (by intros;simp) (by intros;simp);generalize zaq (frs g.outs (qs++ps)) bx'=bx2 at hro hct hs2 hqs2 hv2;obtain ⟨hq1,hq2⟩:=zet hs2.Kg hqs2;have h2':Ke un (ids H2) D2 w' l vs':=by rw[K8];exact h2.ge hG2 λ_ _ h=>h
      obtain ⟨pv,hpv,hisr⟩:=zba (zeb hps) h2';obtain ⟨bs,rs,g1,g2,g3,g4,g5,_⟩:=zcc Kq hs2 g.outs (qs++ps) _ [] t' g.bs.length hro hct (hq1.append hpv);rw[zlZ] at hq1 hq2;simp only[zlZ] at g5;generalize hHl:((List.range' 0 g.bs.length).map λb=>(H2[b]?).getD (.ref (false,undef)))=Hl;have hHll:Hl.length=g.bs.length:=by rw[<-hHl];simp
      have hHlget:∀(k:Nat),k<g.bs.length->∃r,H2[k]?=some r/\zax r=true/\Hl[k]?=some r/\(∃T cs,zam bx2 k=some (.var T cs)):=(by intro k hkl;obtain ⟨cs,k1,_⟩:=hv2 k k _ _ _ (by rw[yBN hkl];simp) (yAe hkl);obtain ⟨r,k2,k3,_⟩:=zbp hs2.Kg k1;exact ⟨r,k2,k3,by rw[<-hHl];simp[yBN hkl,k2],_,_,k1⟩);have hnu:∀(i:Nat) r,rs[i]?=some r->(ids (Hl++rs))[g.bs.length+i]?=some (zal r):=(by intro i r hr;simp only[ids,yAh];rw[yAF (by omega),hHll,yAP,hr];rfl);have hP:=g5 _ hnu;have hvl:(zcd H2 ((List.range' 0 g.bs.length).zip (g.bs.map (·.2.2)))).length=g.nb:=zjp (by simp) λk b l k1 k2=>(hq2 b l (zoj k1 k2)).2;have hdrop:=hP.drop g.nb;rw[<-hvl,yBy] at hdrop;rw[hvl] at hdrop;have Q9:=zbH (nu':=ids (Hl++rs)) (λk b x hk _=>by simp at hk) hisr hdrop;have hone:=zoF Q9;have hpick:In ⟨w,zaB H,fx⟩ D2 (Hl++rs) w':=by
       refine hs2.Kr.pick (λk=>if k<g.bs.length then some k else (bs[k - g.bs.length]?).join) (λk r hk=>?_) (λk k' i hk hk'=>?_) (λi v hv=>?_)
       ·rcases yAT k g.bs.length with Ks|K2;·rw[yAk (by omega)] at hk;obtain ⟨r',k1,_,k3,_⟩:=hHlget k Ks;rw[hk] at k3;cases k3;exact .inr ⟨k,by simp only[if_pos Ks],k1⟩
        ·rw[yAF (by omega),hHll] at hk;rcases zcT g1 _ r hk with ⟨b,m1,m2,_⟩|⟨m1,T,size,m2⟩;·exact .inr ⟨b,by simp only[if_neg (show ¬k<g.bs.length by omega),m1];rfl,m2⟩
         ·left;rcases m2 with rfl|rfl;·exact ⟨λg hg=>by simp[Wl.Res.has,Value.ownBlock] at hg,Wl.rowAt_nil _ _ _,λg hg=>by simp[Value.ownBlock] at hg⟩
          ·exact ⟨λg hg=>by simp[Wl.Res.has,Value.ownBlock] at hg,World.ownsRow_nil _ _ _ _,λg hg=>by simp[Value.ownBlock] at hg⟩
       ·have second:∀k i,(bs[k - g.bs.length]?).join=some i->bs[k - g.bs.length]?=some (some i):=by
         intro k i h;cases hx:bs[k - g.bs.length]? with
         |none=>rw[hx] at h;cases h|some y=>rw[hx] at h;cases y with
           |none=>cases h|some z=>cases h;rfl
        have clash:∀k k',k<g.bs.length->(bs[k' - g.bs.length]?).join=some k->False:=(by intro k k' Ks hk';obtain ⟨_,_,_,_,T,cs,m1⟩:=hHlget k Ks;obtain ⟨_,x,m2,m3⟩:=g2 k (yAb (second k' k hk'));rw[m1] at m2;cases m2;simp[zdW] at m3);split at hk
        ·rename_i Ks;cases hk;split at hk';·cases hk';rfl
         ·exact (clash k k' Ks hk').elim
        ·rename_i K2;split at hk';·rename_i hlt';cases hk';exact (clash k' k hlt' hk).elim
         ·have:=zfK g3 _ _ i (second k i hk) (second k' i hk');omega
       ·obtain ⟨r,m1,m2,m3⟩:=hs2.Kr.lent i v hv;have hil:i<g.bs.length:=by rw[<-hfx];exact (yAc.1 (zyx hv).1).1
        obtain ⟨r',k1,_,k3,_⟩:=hHlget i hil;rw[m1] at k1;cases k1;exact ⟨r,by rw[yAk (by omega)];exact k3,m2,m3⟩
      refine ⟨hs1.defers.1,_,by rw[ziJ];simp only[Sem.run_bind,h1,Result.andThen];rfl,D2,Hl++rs,hpick,hG1.trans hG2,λk o hk=>(hup2 k o hk).elim (hD1 k o) .inr,?_,_,rfl,hone⟩;refine Kj.append' ?_ (g4 _ _);have:=zgy (E':=⟨w,zaB H,fx⟩) (ls:=List.range' 0 g.bs.length) (by simp) hv2 hs2.Kg hP;rw[hHl] at this;exact this
     ·cases hk
    ·cases hk
   ·cases hk
  cases x with
  |normal=>exact fin hk|ret=>exact fin hk|panic ch =>
    simp only at hk;split at hk
    ·rename_i p hp;cases hk;have hv1:=hvar2 (bx2:=bx') λh=>h;generalize hHl:((List.range' 0 g.bs.length).map λb=>(H1[b]?).getD (.ref (false,undef)))=Hl;have hHll:Hl.length=g.bs.length:=by rw[<-hHl];simp
     have hHlget:∀(k:Nat),k<g.bs.length->∃r,H1[k]?=some r/\zax r=true/\Hl[k]?=some r:=(by intro k hkl;obtain ⟨cs,k1,_⟩:=hv1 k k _ _ _ (by rw[yBN hkl];simp) (yAe hkl);obtain ⟨r,k2,k3,_⟩:=zbp hs1.Kg k1;exact ⟨r,k2,k3,by rw[<-hHl];simp[yBN hkl,k2]⟩);have hpick:In ⟨w,zaB H,fx⟩ D1 Hl w':=by
      refine hs1.Kr.pick (λk=>if k<g.bs.length then some k else none) (λk r hk=>?_) (λk k' i hk hk'=>?_) (λi v hv=>?_)
      ·have hkl:k<g.bs.length:=(by rw[<-hHll];exact (yAc.1 hk).1);obtain ⟨r',k1,_,k3⟩:=hHlget k hkl;rw[hk] at k3;cases k3;exact .inr ⟨k,by simp only[if_pos hkl],k1⟩
      ·split at hk<;>split at hk'<;>first|(cases hk;done)|(cases hk';done)|(cases hk;cases hk';rfl)
      ·obtain ⟨r,m1,m2,m3⟩:=hs1.Kr.lent i v hv;have hil:i<g.bs.length:=by rw[<-hfx];exact (yAc.1 (zyx hv).1).1
       obtain ⟨r',k1,_,k3⟩:=hHlget i hil;rw[m1] at k1;cases k1;exact ⟨r,k3,m2,m3⟩
     have hvl:(zcd H1 ((List.range' 0 g.bs.length).zip (g.bs.map (·.2.2)))).length=g.nb:=zjp (by simp) λk b l k1 k2=>by
      obtain ⟨⟨fl,T,l'⟩,k3,k4⟩:∃x,g.bs[k]?=some x/\x.2.2=l:=by simp only[yAh,yA9] at k2;exact k2
      simp at k4;subst k4;obtain ⟨cs,k5,k6⟩:=hv1 k b fl T l' k1 k3;obtain ⟨r,m1,_,m3,m4,_⟩:=zbp hs1.Kg k5;rw[m3,<-m4.length];exact k6
     refine ⟨hs1.defers.1,D1,Hl,hpick,hG1,hD1,?_,?_⟩;·have:=zgy (E':=⟨w,zaB H,fx⟩) (nu':=ids Hl) (D':=D1) (w':=w') (ls:=List.range' 0 g.bs.length) (rest:=[]) (ps:=List.replicate g.nb .junk) (by simp) hv1 hs1.Kg (by rw[yAR];exact zkF hvl);rw[hHl] at this;exact this
     ·rw[zjq hp]
    ·cases hk
  |exit i=>cases hk|goto l=>cases hk|outgrown=>cases hk
theorem zrU(hmix:P.follows .mixedOrders=true)(Kq:Kx un)(ht:Qc P un tb)(hor:K4 P un orc){fn:Func}{g:Sg}{t:g.In S}{r:g.Out S}{f:FuncId}
  (h:fnG un tb orc an fn g t=some r) (hf:P.funcs[f]?=some fn):ztk P un f g t r :=
 zrT hmix Kq ht hor (zbC hmix Kq ht hor 6) h hf
end
end Pe
end
section
namespace Pe
open Go Go.RowKit
variable{S:Nat->Type}
section
variable{P:Program}{un:Uni S}{D D':Dat}{w w':World}
end
end Pe
end
section
namespace Pe
open Go Go.RowKit
variable{S:Nat->Type}
theorem zmK{α β:Type}{g:α->Option β}:∀{l:List α}{m:List β},l.mapM g=some m->∀(i:Nat)(y:β),m[i]?=some y->∃x,l[i]?=some x/\g x=some y
 |[],m,h,i,y,hy=>by grind
 |x::l,m,h,i,y,hy=>by
   rw[List.mapM_cons] at h;cases hg:g x with
   |none=>simp[hg] at h|some b =>
     cases hl:l.mapM g with
     |none=>grind|some bs =>
       simp[hg,hl] at h;subst h;cases i with
       |zero=>simp_all|succ i=>simpa using zmK hl i y (by grind)
theorem zgU:∀(vs cs:List Value)(off k:Nat),(vs.zipIdx k).foldl (λ(cs:Array Value) (p:Value×Nat)=>cs.setIfInBounds (off+p.2) p.1) cs.toArray=(zaV.spliceV cs (off+k) vs).toArray|[],_,_,_=>rfl|v::r,cs,off,k=>by simp only[List.zipIdx_cons,yCd,zaV.spliceV,List.setIfInBounds_toArray];exact zgU r (cs.set (off+k) v) off (k+1)
theorem zi8{p1 p2:Nat->Option (Nat×Nat)}(h:∀i x,p1 i=some x->p2 i=some x):∀{ps:List (Nat×Value)}{cs cs':List Value},zaV p1 cs ps=some cs'->zaV p2 cs ps=some cs'
 |[],cs,cs',hf=>hf|(i,v)::r,cs,cs',hf=>by
   simp only[zaV] at hf ⊢;cases hp:p1 i with
   |none=>grind|some os =>
     rw[hp] at hf;rw[h i os hp];obtain ⟨off,size⟩:=os;simp only at hf ⊢;cases hb:Nat.beq v.cells.size size&&Nat.ble (off+size) cs.length with
     |false=>grind|true=>rw[hb] at hf;exact zi8 h hf
theorem zmb(place:Nat->Option (Nat×Nat)):∀(ps:List (Nat×Value))(cs cs':List Value),zaV place cs ps=some cs'->Instr.fill place cs.toArray ps=some cs'.toArray
 |[],cs,cs',h=>by simp only[zaV,yAf] at h;subst h;rfl
 |(i,v)::r,cs,cs',h=>by
   simp only[zaV] at h;unfold Instr.fill;cases hp:place i with
   |none=>grind|some os =>obtain ⟨off,size⟩:=os;rw[hp] at h;simp only at h ⊢;obtain ⟨hb,h⟩:=zae h;simp only[yAd,yAK] at hb;have hb1:v.cells.size=size:=yAa hb.1;have hb2:=hb.2;rw[if_neg (by grind)];have:=zmb place r _ _ h;rw[<-this];congr 1;have hf:=zgU v.cells.toList cs off 0;rw[yBu] at hf;rw[<-hf,<-Array.foldl_toList];simp
def elB(P:Program)(un:Uni S)(T:TypeId)(u:U):Bool :=
 match P.info? T with
 |some i=>(match i.zero with
   |some z=>Nat.beq i.size (U.size un u)&&Nat.beq z.cells.size (U.size un u)&&Nat.blt 0 (U.size un u)&&Nat.ble i.bytes 32768|none=>false)
 |none=>false
theorem zsW{P:Program}{un:Uni S}{T:TypeId}{u:U}(h:elB P un T u=true):ElOk P un T u:=by
 unfold elB at h;split at h
 ·rename_i i hi;split at h;·rename_i z hz;simp only[yAd] at h;obtain ⟨⟨⟨h1,h2⟩,h3⟩,h4⟩:=h;exact ⟨⟨i,z,hi,hz,yAa h1,yAa h2,by simp_all,by simp_all⟩⟩
  ·cases h
 ·cases h
def zeg:List (Nat×Nat)->List (Nat×Nat)->Bool|[],[]=>true|(a,b)::l,(c,d)::m=>Nat.beq a c&&Nat.beq b d&&zeg l m|_,_=>false
theorem zbB:∀{l m:List (Nat×Nat)},zeg l m=true->l=m
 |[],[],_=>rfl|(a,b)::l,(c,d)::m,h=>by simp only[zeg,yAd] at h;obtain ⟨⟨h1,h2⟩,h3⟩:=h;rw[yAa h1,yAa h2,zbB h3]
 |[],_::_,h=>by cases h
 |_::_,[],h=>by cases h
def zh7(P:Program)(fs:List Field)(l:List (Nat×Nat)):Bool :=
 (match fs.mapM (λf=>(P.info? f.type).map λi=>(f.offset,i.size)) with
 |some m=>zeg m l|none=>false)&&l.all λp=>Nat.blt 0 p.2
def kdB(P:Program)(un:Uni S)(d:TypeDesc)(r:TyRow S):Bool :=
 match r.kd,d,r.elem with
 |0,_,none=>true|1,.string,none=>true|5,.bool,none=>true|2,.slice T,some (T',u)=>Nat.beq T T'&&elB P un T u|3,.struct fs,none=>zh7 P fs.toList r.fields|4,.array n el,none=>(match P.info? el with
   |some i=>Nat.blt 0 i.size&&zeg ((List.range n).map λj=>(j*i.size,i.size)) r.fields|none=>false)
 |_,_,_=>false
def zs2(r:TyRow S)(d:TypeDesc):Bool:=match r.code,d with
 |some (.int k),.int k'=>(zi0 k k').isSome|some (.int _),_=>false|_,_=>true
def zB(z:Value)(agg:Bool):Bool:=match z with
 | .agg _=>agg| .tuple _=>false|_=> !agg
def zqk(P:Program)(un:Uni S)(d:TypeDesc)(r:TyRow S):Bool :=
 zs2 r d&&(bif r.agg then zpJ d else !zpJ d&&Nat.beq r.n 1)&&kdB P un d r&&(match r.code with
  |some (.st n)=>r.agg&&Nat.beq r.n (un.codes n).length|_=>true)
def stB:U->Bool| .st _=>true|_=>false
def arrB(P:Program)(un:Uni S)(d:TypeDesc)(r:TyRow S):Bool:=match r.arr with
 |none=>true|some (T,u)=>Nat.beq r.kd 4&&(match d with | .array _ T'=>Nat.beq T T' | _=>false)&&(match P.info? T,P.underlying T with
   |some i,some d'=>Nat.beq i.size (U.size un u)&&znk (zpJ d') (stB u)&&Nat.blt 0 (U.size un u)|_,_=>false)
theorem zr8{a b:Bool}(h:znk a b=true):a=b:=by cases a<;>cases b<;>simp_all [znk]
theorem ztd{P:Program}{un:Uni S}{t T:TypeId}{u:U}{n:Nat}(hd:P.underlying t=some (.array n T)){i:TypeInfo}{d':TypeDesc}(hi:P.info? T=some i)(hd':P.underlying T=some d')(hs:i.size=U.size un u)(ha:zpJ d'=stB u)(hp:0<U.size un u){k:Nat}(hk:k<n)(cs:List Value)(kd:IntKind)(w:World)(hl:k*U.size un u+U.size un u<=cs.length) :
  (Instr.index t (.agg cs.toArray) (.int kd (k:Int))).run P w= .ok (zbF u ((cs.drop (k*U.size un u)).take (U.size un u))) w:=by
 have hag:∀w,(isAgg T).run P w= .ok (stB u) w:=by intro w;unfold isAgg;rw[Sem.run_bind,run_underlying hd' w];cases d'<;>simp_all [zpJ]
 have h1:(Instr.index t (.agg cs.toArray) (.int kd (k:Int))).run P w=(part T cs.toArray (k*U.size un u)).run P w:=by simp_all[Instr.index,asIntOf,Go.sizeOf,typeInfo,run_underlying]
 rw[h1];unfold part;rw[Sem.run_bind,hag w];cases u with
 |st m =>simp[stB,Go.sizeOf,typeInfo,hi,hs,zbF]|_ =>
   simp only[stB,U.size] at hl hp ⊢;have Ks:k<cs.length:=by omega
   simp_all[zbF,List.take_one]
theorem zsu{P:Program}{un:Uni S}{t:TypeId}{r:TyRow S}{d:TypeDesc}{z:Value}(hd:P.underlying t=some d)(hz:(P.info? t).bind (·.zero)=some z)(hn:(P.info? t).map (·.size)=some r.n)(hzc:Nat.beq z.cells.size r.n=true)
  (hzz:r.zero=z.cells.toList.map zaC) (hc:zqk P un d r=true) (hzb:zB z r.agg=true) (harr:arrB P un d r=true) (hmp:∀kt k vt v,r.mp=some (kt,k,vt,v)->d= .map kt vt/\KeyOk P un kt k)
  (heq:∀n,r.code=some (.st n)->((un.codes n).all U.scalar&&Nat.beq r.fields.length (un.codes n).length)=true->∀D w t1 t2 c1 c2 op x y,DR un D w (un.codes n) t1 c1->DR un D w (un.codes n) t2 c2->∀b,(op= .eql/\b=eqC (un.codes n) t1 t2\/op= .neq/\b= !eqC (un.codes n) t1 t2) ->
   (eqGuard op t x y (.agg c1.toArray) (.agg c2.toArray)).run P w= .ok () w/\(binOp op t (.agg c1.toArray) (.agg c2.toArray)).run P w= .ok (.bool b) w):RowOk P un t r:=by
 unfold zqk at hc;simp only[yAd] at hc;obtain ⟨⟨⟨h0,h1⟩,h2⟩,h3⟩:=hc;refine ⟨hn,λha=>⟨d,hd,by grind⟩,λha=>?_,⟨z,hz,yAa hzc,hzz⟩,λhk=>?_,λhk=>?_,λhk=>?_,λT u he=>?_,λhk f dd s hf a w=>?_,λhk f dd s hf a k w=>?_,λhk z' hz' ps cs w hfl=>?_,λn hcd=>?_,λk hcd=>?_,⟨d,hd⟩,λz' hz'=>?_,λT u ha n off s' hf=>?_,λkt k vt v hm=>by grind,heq⟩;·rw[ha] at h1;simp only[cond_false,yAd,yA4] at h1;refine ⟨yAa h1.2,λw=>?_⟩;unfold isAgg;rw[Sem.run_bind,run_underlying hd w];cases d<;>simp_all [zpJ]
 ·unfold kdB at h2;grind
 ·unfold kdB at h2;grind
 ·unfold kdB at h2;rw[hk] at h2;split at h2<;>first|grind|skip
  rename_i T T' u _ he;simp only[yAd] at h2;have:=yAa h2.1;subst this;exact ⟨T,u,he,hd,zsW h2.2⟩
 ·unfold kdB at h2;grind
 ·have hfs:∃fs,d= .struct fs/\zh7 P fs.toList r.fields=true:=by
   unfold kdB at h2;grind
  clear h2;obtain ⟨fs,rfl,h2⟩:=hfs;unfold zh7 at h2;simp only[yAd,yAM,yAN] at h2;obtain ⟨h2,hpos⟩:=h2;split at h2;·rename_i m hm;have:=zbB h2;subst this;obtain ⟨fd,g1,g2⟩:=zmK hm f _ hf;have hs:=hpos _ (yAb hf);simp only[yA9,Prod.mk.injEq] at g2;obtain ⟨i,g3,g4,g5⟩:=g2;subst g4 g5;obtain ⟨k,hk'⟩:∃k,i.size=k+1:=⟨i.size - 1,by grind⟩;simp[Instr.fieldAt,run_underlying hd,show fs[f]?=some fd by grind,fieldPlace,Go.sizeOf,typeInfo,g3,hk',Instr.sureAddr]
  ·cases h2
 ·have hfs:∃n el i,d= .array n el/\P.info? el=some i/\0<i.size/\((List.range n).map λj=>(j*i.size,i.size))=r.fields:=by
   unfold kdB at h2;rw[hk] at h2;split at h2<;>first|grind|skip
   rename_i n el _ _;split at h2;·rename_i i hi;simp only[yAd,yAN] at h2;exact ⟨n,el,i,rfl,hi,h2.1,zbB h2.2⟩
   ·cases h2
  obtain ⟨n,el,i,rfl,hi,hpos,hfl⟩:=hfs;rw[<-hfl] at hf;simp only[yAh,yA9,Prod.mk.injEq] at hf;obtain ⟨j,g1,g2,g3⟩:=hf;obtain ⟨Ks,hj⟩:=yAc.1 g1;simp only[yBc] at hj;simp only[yBe] at Ks;subst hj g2 g3;simp[Instr.indexAt,asIntOf,run_underlying hd,Instr.sureAddr,Go.sizeOf,typeInfo,hi,Ks]
 ·rcases hk with hk|hk
  ·have hfs:∃fs,d= .struct fs/\zh7 P fs.toList r.fields=true:=by
    unfold kdB at h2;grind
   clear h2;obtain ⟨fs,rfl,h2⟩:=hfs;unfold zh7 at h2;simp only[yAd] at h2;obtain ⟨h2,_⟩:=h2;split at h2
   ·rename_i m hm;have:=zbB h2;subst this;refine run_build w t ps.toArray cs.toArray ?_;unfold Program.built;cases hi:P.info? t with
    |none=>grind|some it =>simp only[hi,yAB] at hz';simp only[hd,hz',hm];have:=zmb _ ps _ cs hfl;simp_all
   ·cases h2
  ·have hfs:∃n el i,d= .array n el/\P.info? el=some i/\0<i.size/\((List.range n).map λj=>(j*i.size,i.size))=r.fields:=by
    unfold kdB at h2;rw[hk] at h2;split at h2<;>first|grind|skip
    rename_i n el _ _;split at h2;·rename_i i hi;simp only[yAd,yAN] at h2;exact ⟨n,el,i,rfl,hi,h2.1,zbB h2.2⟩
    ·cases h2
   obtain ⟨n,el,i,rfl,hi,hpos,hfl2⟩:=hfs;refine run_build w t ps.toArray cs.toArray ?_;unfold Program.built;cases hit:P.info? t with
   |none=>grind|some it =>simp only[hit,yAB] at hz';simp only[hd,hz',hi];have:=zmb (λi'=>some (i'*i.size,i.size)) ps _ cs (zi8 (λk x hx=>by rw[<-hfl2,yAh,yA9] at hx;obtain ⟨j,hj,rfl⟩:=hx;obtain ⟨Ks,hj⟩:=yAc.1 hj;simp_all) hfl);simp_all
 ·rw[hcd] at h3;simp only[yAd] at h3;exact ⟨h3.1,yAa h3.2⟩
 ·unfold zs2 at h0;rw[hcd] at h0;cases d with
  |int k' =>
    simp only at h0;cases hk:zi0 k k' with
    |none=>rw[hk] at h0;cases h0|some x=>rw[x.down];exact hd
  |_=>cases h0
 ·rw[hz] at hz';cases hz';unfold zB at hzb;refine ⟨λha=>?_,λha=>?_⟩;·rw[ha] at hzb;cases z<;>first|exact ⟨_,rfl⟩|cases hzb
  ·rw[ha] at hzb;cases z<;>first|(cases hzb;done)|rfl
 ·unfold arrB at harr;rw[ha] at harr;simp only[yAd] at harr;obtain ⟨⟨hk4,hd4⟩,hi4⟩:=harr;have hk4:=yAa hk4;have hfs:∃n el i,d= .array n el/\P.info? el=some i/\0<i.size/\((List.range n).map λj=>(j*i.size,i.size))=r.fields:=by
   unfold kdB at h2;rw[hk4] at h2;split at h2<;>first|(simp_all;done)|skip
   rename_i n el _ _;split at h2;·rename_i i hi;simp only[yAd,yAN] at h2;exact ⟨n,el,i,rfl,hi,h2.1,zbB h2.2⟩
   ·cases h2
  obtain ⟨m,el,i,rfl,hi,hpos,hfl⟩:=hfs;have hT:=yAa hd4;subst hT;rw[<-hfl] at hf;simp only[yAh,yA9,Prod.mk.injEq] at hf;obtain ⟨j,g1,g2,g3⟩:=hf;obtain ⟨Ks,hj⟩:=yAc.1 g1;simp only[yBc] at hj;simp only[yBe] at Ks;subst hj g2 g3;rw[hi] at hi4;split at hi4;·rename_i i' d' hi' hd';cases hi';simp only[yAd,yAN] at hi4;have hs:=yAa hi4.1.1;refine ⟨hs,λcs k w hl=>?_⟩;rw[hs] at hl ⊢;exact ztd hd hi hd' hs (zr8 hi4.1.2) hi4.2 Ks cs k w hl
  ·cases hi4
end Pe
end
