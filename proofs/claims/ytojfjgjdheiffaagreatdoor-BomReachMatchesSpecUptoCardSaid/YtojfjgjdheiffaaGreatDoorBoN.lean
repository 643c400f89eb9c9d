/- PROVED HERE: a part of the seat's proofs; see the text that holds the claim's theorem. -/
import Derived.Test.YtojfjgjdheiffaaGreatDoorNm
import Derived.Test.YtojfjgjdheiffaaGreatDoorBoF
import Derived.Test.YtojfjgjdheiffaaGreatDoorBoI
import Derived.Test.YtojfjgjdheiffaaGreatDoorBoG
section
/- Strongly connected components by one search in depth (numbers and lowest numbers, a stack): over no program. -/
set_option maxRecDepth 100000
namespace Pe.Tj
inductive Rch (o:Nat->List Nat):Nat->Nat->Prop
 |refl (v:Nat):Rch o v v
 |step {v x w:Nat}:x∈o v->Rch o x w->Rch o v w
variable{o:Nat->List Nat}
theorem Rch.trans{a b c:Nat}(h:Rch o a b)(k:Rch o b c):Rch o a c:=by
 induction h with
 |refl v=>exact k|step h1 _ ih=>exact .step h1 (ih k)
theorem Rch.one{a b:Nat}(h:b∈o a):Rch o a b:= .step h (.refl b)
structure St where
 idx:Nat->Nat
 low:Nat->Nat
 stk:List Nat
 nxt:Nat
 found:List (List Nat)
structure Inv (o:Nat->List Nat) (g:List Nat) (s:St):Prop where
 pos:∀v∈s.stk,s.idx v≠0
 le:∀v,s.idx v<=s.nxt
 asc:s.stk.Pairwise λu v=>s.idx u<s.idx v
 gs:∀v∈g,v∈s.stk
 old:∀v,s.idx v≠0->v∉s.stk->∃f∈s.found,v∈f
 fnd:∀f∈s.found,∃v∈f,∀w,w∈f↔(Rch o v w/\Rch o w v)
 cls:∀f∈s.found,∀v∈f,s.idx v≠0/\v∉s.stk
 shut:∀v,s.idx v≠0->v∉s.stk->∀w∈o v,s.idx w≠0/\w∉s.stk
 down:∀v∈s.stk,∃u∈g,s.idx u<=s.idx v/\Rch o v u
 up:∀u∈g,∀v∈s.stk,s.idx u<=s.idx v->Rch o u v
 full:∀v∈s.stk,v∉g->∀w∈o v,s.idx w≠0
 apart:s.found.Pairwise λf k=>∀v∈f,v∉k
 strict:∀f∈s.found,f.Pairwise (· < ·)
theorem Inv.low{g:List Nat}{s:St}(h:Inv o g s)(l:Nat->Nat):Inv o g { s with low:=l } :=
 ⟨h.pos,h.le,h.asc,h.gs,h.old,h.fnd,h.cls,h.shut,h.down,h.up,h.full,h.apart,h.strict⟩
structure Post (o:Nat->List Nat) (g:List Nat) (s t:St) (i:Nat):Prop where
 inv:Inv o g t
 kidx:∀v,s.idx v≠0->t.idx v=s.idx v
 klow:∀v,s.idx v≠0->t.low v=s.low v
 new:∀v,s.idx v=0->t.idx v≠0->s.nxt<t.idx v
 seen:t.idx i≠0
 tail:∃T,t.stk=s.stk++T/\(∀v∈T,s.idx v=0) /\
  ((T=[]/\t.low i=t.idx i)\/((∃u∈s.stk,s.idx u=t.low i/\Rch o i u)/\∀v∈T,∀w∈o v,w∈s.stk->t.low i<=s.idx w))
structure Mid (o:Nat->List Nat) (g:List Nat) (s:St) (i:Nat) (ys:List Nat) (t:St):Prop where
 inv:Inv o (g++[i]) t
 kidx:∀v,s.idx v≠0->t.idx v=s.idx v
 klow:∀v,s.idx v≠0->t.low v=s.low v
 new:∀v,s.idx v=0->t.idx v≠0->s.nxt<t.idx v
 ii:t.idx i=s.nxt+1
 tail:∃T,t.stk=s.stk++i::T/\(∀v∈T,s.idx v=0) /\
  (t.low i=t.idx i\/∃u∈s.stk,s.idx u=t.low i/\Rch o i u) /\
  (∀v∈T,∀w∈o v,w∈s.stk->t.low i<=s.idx w) /\
  (∀y∈ys,t.idx y≠0/\(y∈s.stk->t.low i<=s.idx y))
def upd(f:Nat->Nat)(i x:Nat):Nat->Nat:=λv=>if v=i then x else f v
theorem zwB(f:Nat->Nat)(i x:Nat):upd f i x i=x:=if_pos rfl
theorem zwD(f:Nat->Nat){i x v:Nat}(h:v≠i):upd f i x v=f v:=if_neg h
def enter(s:St)(i:Nat):St:={ s with idx:=upd s.idx i (s.nxt+1),low:=upd s.low i (s.nxt+1),stk:=s.stk++[i],nxt:=s.nxt+1 }
theorem Inv.enter{g:List Nat}{s:St}(h:Inv o g s){i:Nat}(hi:s.idx i=0)(hg:∀u∈g,Rch o u i):Mid o g s i [] (Tj.enter s i):=by
 have his:i∉s.stk:=λe=>h.pos i e hi;have hne:∀v,s.idx v≠0->v≠i:=λv hv e=>hv (e▸hi);have hk:∀v,s.idx v≠0->(Tj.enter s i).idx v=s.idx v:=λv hv=>zwD _ (hne v hv);have hs:∀v∈s.stk,(Tj.enter s i).idx v=s.idx v:=λv hv=>hk v (h.pos v hv);have hself:(Tj.enter s i).idx i=s.nxt+1:=zwB ..;have hst:∀v,v∈(Tj.enter s i).stk↔v∈s.stk\/v=i:=λv=>by simp[Tj.enter]
 have hback:∀v,(Tj.enter s i).idx v≠0->v≠i->s.idx v≠0:=λv hv hvi=>by rw[show (Tj.enter s i).idx v=s.idx v from zwD _ hvi] at hv;exact hv
 refine ⟨⟨?_,?_,?_,?_,?_,h.fnd,?_,?_,?_,?_,?_,h.apart,h.strict⟩,hk,λv hv=>zwD _ (hne v hv),?_,hself,[],by simp[Tj.enter],by simp,.inl ?_,by simp,by simp⟩
 ·intro v hv;rcases (hst v).mp hv with e|e;·rw[hs v e];exact h.pos v e
  ·subst e;omega
 ·intro v;show upd s.idx i (s.nxt+1) v<=s.nxt+1;by_cases e:v=i;·subst e;rw[zwB];omega
  ·rw[zwD _ e];have:=h.le v;omega
 ·show (s.stk++[i]).Pairwise _;rw[List.pairwise_append];refine ⟨h.asc.imp_of_mem ?_,by simp,?_⟩;·intro a b ha hb hab;rw[hs a ha,hs b hb];exact hab
  ·intro a ha b hb;simp at hb;subst hb;rw[hs a ha,hself];have:=h.le a;omega
 ·intro v hv;rcases yAp.mp hv with e|e;·exact (hst v).mpr (.inl (h.gs v e))
  ·simp at e;exact (hst v).mpr (.inr e)
 ·intro v hv hn;have hvi:v≠i:=λe=>hn ((hst v).mpr (.inr e));exact h.old v (hback v hv hvi) λe=>hn ((hst v).mpr (.inl e))
 ·intro f hf v hv;have h1:=h.cls f hf v hv;exact ⟨by rw[hk v h1.1];exact h1.1,λe=>by rcases (hst v).mp e with e|e;exact h1.2 e;exact hne v h1.1 e⟩
 ·intro v hv hn w hw;have hvi:v≠i:=λe=>hn ((hst v).mpr (.inr e));have h1:=h.shut v (hback v hv hvi) (λe=>hn ((hst v).mpr (.inl e))) w hw;exact ⟨by rw[hk w h1.1];exact h1.1,λe=>by rcases (hst w).mp e with e|e;exact h1.2 e;exact hne w h1.1 e⟩
 ·intro v hv;rcases (hst v).mp hv with e|e
  ·obtain ⟨u,hu,h1,h2⟩:=h.down v e;exact ⟨u,by simp[hu],by rw[hs u (h.gs u hu),hs v e];exact h1,h2⟩
  ·subst e;exact ⟨v,by simp,yAi _,.refl v⟩
 ·intro u hu v hv huv;rcases yAp.mp hu with e|e
  ·rcases (hst v).mp hv with k|k;·rw[hs u (h.gs u e),hs v k] at huv;exact h.up u e v k huv
   ·rw[k];exact hg u e
  ·simp at e;subst e;rcases (hst v).mp hv with k|k;·rw[hself,hs v k] at huv;have:=h.le v;omega
   ·rw[k];exact .refl u
 ·intro v hv hn w hw;have hvg:v∉g/\v≠i:=by simpa using hn
  rcases (hst v).mp hv with k|k;·have:=h.full v k hvg.1 w hw;rw[hk w this];exact this
  ·exact absurd k hvg.2
 ·intro v hv hn;by_cases e:v=i;·subst e;omega
  ·rw[show (Tj.enter s i).idx v=s.idx v from zwD _ e] at hn;exact absurd hv hn
 ·rw[hself];exact zwB ..
theorem Mid.lowLe{g:List Nat}{s t:St}{i:Nat}{ys:List Nat}(h:Mid o g s i ys t)(hs:Inv o g s):t.low i<=t.idx i:=by
 obtain ⟨T, -, -,h1|⟨u,hu,h1, -⟩, -⟩:=h.tail;·omega
 ·have:=hs.le u;have:=h.ii;omega
def zxv(t:St)(i x:Nat):St:={ t with low:=upd t.low i (min (t.low i) x) }
theorem Mid.skip{g:List Nat}{s t:St}{i:Nat}{ys:List Nat}(h:Mid o g s i ys t){y:Nat}(hy:t.idx y≠0)(hn:y∉t.stk):Mid o g s i (ys++[y]) t:=by
 obtain ⟨T,h1,h2,h3,h4,h5⟩:=h.tail;refine ⟨h.inv,h.kidx,h.klow,h.new,h.ii,T,h1,h2,h3,h4,λz hz=>?_⟩;rcases yAp.mp hz with e|e;·exact h5 z e
 ·simp at e;subst e;exact ⟨hy,λk=>absurd (h1▸yBP _ k) hn⟩
theorem Mid.back{g:List Nat}{s t:St}{i:Nat}{ys:List Nat}(hs:Inv o g s)(hi:s.idx i=0)(h:Mid o g s i ys t){y:Nat}(ho:y∈o i)(hy:y∈t.stk):Mid o g s i (ys++[y]) (zxv t i (t.idx y)):=by
 have hle:=h.lowLe hs;obtain ⟨T,h1,h2,h3,h4,h5⟩:=h.tail;have hy0:=h.inv.pos y hy;have hl:(zxv t i (t.idx y)).low i=min (t.low i) (t.idx y):=zwB ..;have hnew:y∉s.stk->t.idx i<=t.idx y:=λhn=>by
  by_cases e:s.idx y=0;·have:=h.new y e hy0;have:=h.ii;omega
  ·rw[h1] at hy;rcases yAp.mp hy with k|k;·exact absurd k hn
   ·rcases yAm.mp k with k|k;·rw[k];exact yAi _
    ·exact absurd (h2 y k) e
 refine ⟨h.inv.low _,h.kidx,λv hv=>?_,h.new,h.ii,T,h1,h2,?_,λv hv w hw hk=>?_,λz hz=>?_⟩;·show upd t.low i _ v=_;rw[zwD _ λe=>hv (by rw[e];exact hi)];exact h.klow v hv
 ·rw[hl];show min (t.low i) (t.idx y)=t.idx i\/_;by_cases e:t.low i<=t.idx y;·rw[yBV e];exact h3
  ·rw[Nat.min_eq_right (by omega)];by_cases k:y∈s.stk;·exact .inr ⟨y,k,(h.kidx y (hs.pos y k)).symm,.one ho⟩
   ·have:=hnew k;omega
 ·rw[hl];have:=h4 v hv w hw hk;omega
 ·rw[hl];rcases yAp.mp hz with e|e;·exact ⟨(h5 z e).1,λk=>by have:=(h5 z e).2 k;omega⟩
  ·simp at e;subst e;exact ⟨hy0,λk=>by have:=h.kidx z (hs.pos z k);omega⟩
theorem Mid.pre{g:List Nat}{s t:St}{i:Nat}{ys:List Nat}(hs:Inv o g s)(h:Mid o g s i ys t){y:Nat}(ho:y∈o i):∀u∈g++[i],Rch o u y:=by
 obtain ⟨T,h1, -⟩:=h.tail;intro u hu;rcases yAp.mp hu with e|e
 ·refine (h.inv.up u hu i (by rw[h1];simp) ?_).trans (.one ho);rw[h.kidx u (hs.pos u (hs.gs u e)),h.ii];have:=hs.le u;omega
 ·simp at e;subst e;exact .one ho
theorem Mid.deep{g:List Nat}{s t t':St}{i:Nat}{ys:List Nat}(hs:Inv o g s)(hi:s.idx i=0)(h:Mid o g s i ys t){y:Nat}(ho:y∈o i)(hy:t.idx y=0)(hp:Post o (g++[i]) t t' y):Mid o g s i (ys++[y]) (zxv t' i (t'.low y)):=by
 have hle:=h.lowLe hs;obtain ⟨T,h1,h2,h3,h4,h5⟩:=h.tail;obtain ⟨T',k1,k2,k3⟩:=hp.tail;have hi0:t.idx i≠0:=by rw[h.ii];omega
 have hl:(zxv t' i (t'.low y)).low i=min (t.low i) (t'.low y):=by rw[<-hp.klow i hi0];exact zwB ..
 have hin:t'.idx i=t.idx i:=hp.kidx i hi0;have hsub:∀v,s.idx v≠0->t.idx v≠0:=λv hv=>by rw[h.kidx v hv];exact hv
 have hnx:s.nxt<t.nxt:=by have:=h.inv.le i;have:=h.ii;omega
 have hys:t'.low y=t'.idx y->t.low i<=t'.low y:=λe=>by have:=hp.new y hy hp.seen;have:=h.inv.le i;omega
 have hyk:y∉s.stk:=λk=>hsub y (hs.pos y k) hy;refine ⟨hp.inv.low _,λv hv=>?_,λv hv=>?_,λv hv hn=>?_,?_,T++T',?_,?_,?_,?_,?_⟩;·show t'.idx v=_;rw[hp.kidx v (hsub v hv)];exact h.kidx v hv
 ·show upd t'.low i _ v=_;rw[zwD _ λe=>hv (by rw[e];exact hi),hp.klow v (hsub v hv)];exact h.klow v hv
 ·show s.nxt<t'.idx v;by_cases e:t.idx v=0;·have:=hp.new v e hn;omega
  ·rw[hp.kidx v e];exact h.new v hv e
 ·show t'.idx i=_;rw[hin];exact h.ii
 ·show t'.stk=_;rw[k1,h1];simp
 ·intro v hv;rcases yAp.mp hv with e|e;·exact h2 v e
  ·have:=k2 v e;exact Classical.byContradiction λk=>hsub v k this
 ·rw[hl];show min (t.low i) (t'.low y)=t'.idx i\/_;rw[hin];by_cases e:t.low i<=t'.low y;·rw[yBV e];exact h3
  ·rw[Nat.min_eq_right (by omega)];rcases k3 with ⟨-,k3⟩|⟨⟨u,hu,k4,k5⟩, -⟩;·exact absurd (hys k3) e
   ·rw[h1] at hu;rcases yAp.mp hu with q|q;·exact .inr ⟨u,q,by rw[<-h.kidx u (hs.pos u q)];exact k4,.step ho k5⟩
    ·exfalso;have:t.idx i<=t.idx u:=by
      rcases yAm.mp q with q|q;·rw[q];exact yAi _
      ·have:=h.new u (h2 u q) (h.inv.pos u (h1▸yB5 _ (yB6 _ q)));have:=h.ii;omega
     omega
 ·intro v hv w hw hk;rw[hl];rcases yAp.mp hv with e|e;·have:=h4 v e w hw hk;omega
  ·rcases k3 with ⟨k3, -⟩|⟨-,k6⟩;·rw[k3] at e;cases e
   ·have:=k6 v e w hw (by rw[h1];exact yBP _ hk);rw[h.kidx w (hs.pos w hk)] at this;omega
 ·intro z hz;rw[hl];show t'.idx z≠0/\_;rcases yAp.mp hz with e|e;·refine ⟨by rw[hp.kidx z (h5 z e).1];exact (h5 z e).1,λk=>by have:=(h5 z e).2 k;omega⟩
  ·simp at e;subst e;exact ⟨hp.seen,λk=>absurd k hyk⟩
theorem Mid.stay{g:List Nat}{s t:St}{i:Nat}(hs:Inv o g s)(hg:∀u∈g,Rch o u i)(h:Mid o g s i (o i) t)(hl:t.low i≠t.idx i):Post o g s t i:=by
 have hle:=h.lowLe hs;obtain ⟨T,h1,h2,h3,h4,h5⟩:=h.tail;rcases h3 with h3|⟨u,hu,h3,h6⟩;·exact absurd h3 hl
 have I:=h.inv;refine ⟨⟨I.pos,I.le,I.asc,λv hv=>I.gs v (by simp[hv]),I.old,I.fnd,I.cls,I.shut,λv hv=>?_,λw hw v hv hk=>I.up w (by simp[hw]) v hv hk,λv hv hn w hw=>?_,I.apart,I.strict⟩,h.kidx,h.klow,h.new,by rw[h.ii];omega,i::T,h1,?_,.inr ⟨⟨u,hu,h3,h6⟩,?_⟩⟩
 ·obtain ⟨x,hx,k1,k2⟩:=I.down v hv;rcases yAp.mp hx with e|e;·exact ⟨x,e,k1,k2⟩
  ·simp at e;subst e;obtain ⟨z,hz,k3,k4⟩:=hs.down u hu;refine ⟨z,hz,?_,(k2.trans h6).trans k4⟩;rw[h.kidx z (hs.pos z (hs.gs z hz))];omega
 ·by_cases e:v=i;·subst e;exact (h5 w hw).1
  ·exact I.full v hv (by simp[hn,e]) w hw
 ·intro v hv;rcases yAm.mp hv with e|e
  ·subst e;exact Classical.byContradiction λk=>by have:=h.kidx v k;have:=hs.le v;have:=h.ii;omega
  ·exact h2 v e
 ·intro v hv w hw hk;rcases yAm.mp hv with e|e;·subst e;exact (h5 w hw).2 hk
  ·exact h4 v e w hw hk
theorem Mid.pop{g:List Nat}{s t:St}{i:Nat}(hs:Inv o g s)(hg:∀u∈g,Rch o u i)(h:Mid o g s i (o i) t)(hl:t.low i=t.idx i)
  {T f:List Nat} (hT:t.stk=s.stk++i::T) (hf:∀v,v∈f↔v=i\/v∈T) (hf1:f.Pairwise (· < ·)):Post o g s { t with stk:=s.stk,found:=t.found++[f] } i:=by
 obtain ⟨T1,h1,h2,h3,h4,h5⟩:=h.tail;have e1:T1=T:=by have:=h1.symm.trans hT;simpa using this
 subst e1;have I:=h.inv;have hin:i∈t.stk:=by rw[h1];simp
 have hi0:s.idx i=0:=Classical.byContradiction λk=>by have:=h.kidx i k;have:=hs.le i;have:=h.ii;omega
 have hTs:∀v,v∈f->v∈t.stk:=λv hv=>by rw[h1];rcases (hf v).mp hv with e|e<;>simp[e]
 have hf0:∀v,v∈f->s.idx v=0:=λv hv=>by rcases (hf v).mp hv with e|e;exact e▸hi0;exact h2 v e
 have hfs:∀v,v∈f->v∉s.stk:=λv hv k=>hs.pos v k (hf0 v hv);have hstk:∀v,v∈t.stk↔v∈s.stk\/v∈f:=λv=>by rw[h1,hf];simp
 have hge:∀v,v∈f->t.idx i<=t.idx v:=λv hv=>by have:=h.new v (hf0 v hv) (I.pos v (hTs v hv));have:=h.ii;omega
 have hno:∀v,v∈f->∀w∈o v,w∉s.stk:=λv hv w hw hk=>by
  have hwi:s.idx w<t.idx i:=by have:=hs.le w;have:=h.ii;omega
  rcases (hf v).mp hv with e|e;·subst e;have:=(h5 w hw).2 hk;omega
  ·have:=h4 v e w hw hk;omega
 have hvis:∀v,v∈f->∀w∈o v,t.idx w≠0:=λv hv w hw=>by
  by_cases e:v=i;·subst e;exact (h5 w hw).1
  ·refine I.full v (hTs v hv) (λk=>?_) w hw;rcases yAp.mp k with k|k;·exact hfs v hv (hs.gs v k)
   ·simp at k;exact e k
 -- from what is gone nothing on the stack is reached
 have hgone:∀v w,Rch o v w->t.idx v≠0->v∉t.stk->t.idx w≠0/\w∉t.stk:=λv w hr=>by
  induction hr with
  |refl v=>exact λa b=>⟨a,b⟩|step hx _ ih=>exact λa b=>ih (I.shut _ a b _ hx).1 (I.shut _ a b _ hx).2
 have hto:∀v,v∈f->Rch o i v:=λv hv=>I.up i (by simp) v (hTs v hv) (hge v hv);have hfrom:∀v,v∈f->Rch o v i:=λv hv=>by
  obtain ⟨u,hu, -,k2⟩:=I.down v (hTs v hv);rcases yAp.mp hu with e|e;·exact k2.trans (hg u e)
  ·simp at e;exact e▸k2
 have hall:∀v w,Rch o v w->v∈f->Rch o w i->w∈f:=λv w hr=>by
  induction hr with
  |refl v=>exact λa _=>a|@step v x w hx hr ih =>
    intro a b;refine ih ?_ b;have hx0:=hvis v a x hx;by_cases e:x∈t.stk
    ·rcases (hstk x).mp e with k|k;·exact absurd k (hno v a x hx)
     ·exact k
    ·exact absurd hin (hgone x i (hr.trans b) hx0 e).2
 have hif:i∈f:=(hf i).mpr (.inl rfl);refine ⟨⟨λv hv=>I.pos v ((hstk v).mpr (.inl hv)),I.le,(List.pairwise_append.mp (h1▸I.asc)).1,hs.gs,?_,?_,?_,?_,?_,?_,?_,?_,?_⟩,h.kidx,h.klow,h.new,by rw[show (St.mk t.idx t.low s.stk t.nxt (t.found++[f])).idx i=t.idx i from rfl,h.ii];omega,[],by simp,by simp,.inl ⟨rfl,hl⟩⟩
 ·intro v hv hn;by_cases e:v∈f;·exact ⟨f,by simp,e⟩
  ·obtain ⟨k,hk,k1⟩:=I.old v hv λq=>by rcases (hstk v).mp q with q|q;exact hn q;exact e q
   exact ⟨k,by simp[hk],k1⟩
 ·intro k hk;rcases yAp.mp hk with e|e;·exact I.fnd k e
  ·simp at e;subst e;exact ⟨i,hif,λw=>⟨λhw=>⟨hto w hw,hfrom w hw⟩,λhw=>hall i w hw.1 hif hw.2⟩⟩
 ·intro k hk v hv;rcases yAp.mp hk with e|e
  ·have:=I.cls k e v hv;exact ⟨this.1,λq=>this.2 ((hstk v).mpr (.inl q))⟩
  ·simp at e;subst e;exact ⟨I.pos v (hTs v hv),hfs v hv⟩
 ·intro v hv hn w hw;by_cases e:v∈f;·exact ⟨hvis v e w hw,hno v e w hw⟩
  ·have:=I.shut v hv (λq=>by rcases (hstk v).mp q with q|q;exact hn q;exact e q) w hw;exact ⟨this.1,λq=>this.2 ((hstk w).mpr (.inl q))⟩
 ·intro v hv;obtain ⟨u,hu,k1,k2⟩:=hs.down v hv;refine ⟨u,hu,?_,k2⟩;show t.idx u<=t.idx v;rw[h.kidx u (hs.pos u (hs.gs u hu)),h.kidx v (hs.pos v hv)];exact k1
 ·intro u hu v hv hk;exact I.up u (by simp[hu]) v ((hstk v).mpr (.inl hv)) hk
 ·intro v hv hn w hw
  exact I.full v ((hstk v).mpr (.inl hv)) (by
   intro q;rcases yAp.mp q with q|q;·exact hn q
   ·simp at q;exact hs.pos v hv (q▸hi0)) w hw
 ·show (t.found++[f]).Pairwise _;rw[List.pairwise_append];refine ⟨I.apart,by simp,λk hk k' hk' v hv hv'=>?_⟩;simp at hk';subst hk';exact (I.cls k hk v hv).2 (hTs v hv')
 ·intro k hk;rcases yAp.mp hk with e|e;·exact I.strict k e
  ·simp at e;exact e▸hf1
end Pe.Tj
end
section
/- The search in depth over lists: what the code keeps. -/
set_option maxRecDepth 100000
namespace Pe.Tj
open Bfs
def fl{α:Type}(n:Nat)(f:Nat->α):List α:=(List.range n).map f
theorem zxl{α:Type}(n:Nat)(f:Nat->α):(fl n f).length=n:=by simp[fl]
theorem zsE{α:Type}{n:Nat}{f:Nat->α}{j:Nat}(h:j<n):zdc (fl n f) j=some (f j):=by unfold zdc fl;rw[yAh,List.getElem?_range h];rfl
theorem zwx{α:Type}{n:Nat}{f:Nat->α}{j:Nat}(h:j<n):zcX (fl n f) (j:Int)=some j:=zle (by rw[zxl];exact h)
theorem zxa{α:Type}(n:Nat)(f:Nat->α)(i:Nat)(x:α):(fl n f).set i x=fl n λv=>if v=i then x else f v:=by
 apply List.ext_getElem;·simp[fl]
 ·intro k h1 h2;simp only[fl,List.getElem_set,List.getElem_map,yBc];by_cases e:i=k;·subst e;simp
  ·rw[if_neg e,if_neg λq=>e q.symm]
theorem zxk(n:Nat)(f:Nat->Nat)(i x:Nat):(fl n λv=>(f v:Int)).set i (x:Int)=fl n λv=>(upd f i x v:Int):=by rw[zxa];congr 1;funext v;unfold upd;split<;>rfl
def cnt(n:Nat)(f:Nat->Nat):Nat:=(List.range n).countP λv=>f v==0
theorem zxU{n:Nat}{f g:Nat->Nat}(h:∀v,v<n->f v=g v):cnt n f=cnt n g:=by unfold cnt;refine List.countP_congr λv hv=>?_;rw[h v (yBa.mp hv)]
theorem zw5{f:Nat->Nat}{i x:Nat}(hf:f i=0)(hx:x≠0):∀{n:Nat},i<n->cnt n (upd f i x)+1=cnt n f
 |0,h=>absurd h (Nat.not_lt_zero _)|n+1,h=>by
   have e:∀g:Nat->Nat,cnt (n+1) g=cnt n g+if g n=0 then 1 else 0:=λg=>by unfold cnt;rw[yCo,List.countP_append];simp[List.countP_cons]
   rw[e,e];by_cases k:i=n;·subst k;rw[zwB,if_neg hx,if_pos hf,zxU (f:=upd f i x) (g:=f) λv hv=>zwD _ (by omega)]
   ·rw[zwD _ λq=>k q.symm];have:=zw5 hf hx (n:=n) (by omega);omega
structure Rg (n:Nat) (s:St):Prop where
 lt:∀v,s.idx v≠0->v<n
 num:s.nxt+cnt n s.idx=n
 fs:s.found.length+s.stk.length<=s.nxt
theorem Rg.enter{n:Nat}{s:St}(h:Rg n s){i:Nat}(hi:i<n)(h0:s.idx i=0):Rg n (Tj.enter s i):=by
 refine ⟨λv hv=>?_,?_,?_⟩
 ·by_cases e:v=i;·rw[e];exact hi
  ·rw[show (Tj.enter s i).idx v=s.idx v from zwD _ e] at hv;exact h.lt v hv
 ·have:=zw5 (x:=s.nxt+1) h0 (by omega) hi;have:=h.num;show s.nxt+1+cnt n (upd s.idx i (s.nxt+1))=n;omega
 ·have:=h.fs;show s.found.length+(s.stk++[i]).length<=s.nxt+1;simp;omega
theorem zwM{σ A R:Type}{f:σ->Option (σ⊕R)}(mk:Nat->A->σ)(n:Nat)(I:Nat->A->Prop)(Q:R->Prop)
  (h:∀k a,k<n->I k a->∃a',f (mk k a)=some (.inl (mk (k+1) a'))/\I (k+1) a') (he:∀a,I n a->∃r,f (mk n a)=some (.inr r)/\Q r) :
  ∀d k a,d=n - k->k<=n->I k a->∃r,zak f (mk k a)=some r/\Q r
 |0,k,a,hd,hk,hI=>by
   obtain rfl:k=n:=by omega
   obtain ⟨r,h1,h2⟩:=he a hI;exact ⟨r,zaD h1,h2⟩
 |d+1,k,a,hd,hk,hI=>by obtain ⟨a',h1,h2⟩:=h k a (by omega) hI;rw[zaR h1];exact zwM mk n I Q h he d (k+1) a' (by omega) (by omega) h2
theorem zxo{σ R S:Type}{x:Option (σ⊕R)}{K:σ->Option R}{Q:σ⊕R->Prop}{w:S->R}{P:S->Prop}(h:∃r,x=some r/\Q r)(k:∀r,Q r->∃s,zaE (some r) K=some (w s)/\P s):∃s,zaE x K=some (w s)/\P s:=by obtain ⟨r,h1,h2⟩:=h;rw[h1];exact k r h2
theorem zxh{σ R:Type}{f:σ->Option (σ⊕R)}(mk:List Nat->List Nat->σ)(out:List Nat->List Nat->R)(i:Nat){L:List Nat}{m:Nat}
  (h:∀c A x,(A++[x]) <+: L->c.length+A.length<m->f (mk c (A++[x]))=if x=i then some (.inr (out (c++[x]) A)) else some (.inl (mk (c++[x]) A))) :
  ∀(k:Nat)(s T c:List Nat),T.length=k->i∉T->(s++i::T) <+: L->c.length+(s.length+T.length)<m->zak f (mk c (s++i::T))=some (out (c++(T.reverse++[i])) s)
 |0,s,T,c,hk,hi,hp,hm=>by obtain rfl:T=[]:=yAU.mp hk;refine (zaD ((h c s i hp (by simpa using hm)).trans (if_pos rfl))).trans ?_;simp
 |k+1,s,T,c,hk,hi,hp,hm=>by
   have hne:T≠[]:=λe=>by rw[e] at hk;simp at hk
   have e1:T=T.dropLast++[T.getLast hne]:=(List.dropLast_concat_getLast hne).symm;generalize T.dropLast=T1,T.getLast hne=x at e1;subst e1;have hx:x≠i:=λe=>hi (by simp[e]);have e2:s++i::(T1++[x])=(s++i::T1)++[x]:=(by simp);rw[e2] at hp ⊢;have hl:c.length+(s++i::T1).length<m:=by simp at hm ⊢;omega
   rw[zaR ((h c _ x hp hl).trans (if_neg hx))];rw[zxh mk out i h k s T1 (c++[x]) (by simpa using hk) (λe=>hi (by simp[e])) ((List.prefix_append _ _).trans hp) (by simp at hm ⊢;omega)];simp
end Tj
namespace Tryz
open Bfs Tj
variable(nm vs rt:List UInt8)(cs:List Gt.Component)(es:List Gt.Edge)(r:Int)(N M:List (List Nat))
def tf(s:Tj.St):(List UInt8×List UInt8×List UInt8×List (Gt.Component)×List (Gt.Edge)×Int×List (List (Int))×List (List (Int))×List (Int)×List (Int)×List (Bool)×List (Int)×Int×List (List (Int))×Unit):=(nm,vs,rt,cs,es,r,za6 N,za6 M,fl N.length (λv=>(s.idx v:Int)),fl N.length (λv=>(s.low v:Int)),fl N.length (λv=>decide (v∈s.stk)),ofN s.stk,(s.nxt:Int),za6 s.found,())
def Pre(g:List Nat)(s:Tj.St)(i:Nat):Prop:=Inv (row N) g s/\s.idx i=0/\(∀u∈g,Rch (row N) u i)/\i<N.length/\Rg N.length s
def Vis(orc:Orc Sx)(g:List Nat)(s:Tj.St)(i:Nat):Prop :=
 ∃t,(orc.l 91 sg91 ((nm,vs,rt,cs,es,r,za6 N,za6 M,fl N.length (λv=>(s.idx v:Int)),fl N.length (λv=>(s.low v:Int)),fl N.length (λv=>decide (v∈s.stk)),ofN s.stk,(s.nxt:Int),za6 s.found,(i:Int),()):List UInt8×List UInt8×List UInt8×List (Gt.Component)×List (Gt.Edge)×Int×List (List (Int))×List (List (Int))×List (Int)×List (Int)×List (Bool)×List (Int)×Int×List (List (Int))×Int×Unit):Option ((List UInt8×List UInt8×List UInt8×List (Gt.Component)×List (Gt.Edge)×Int×List (List (Int))×List (List (Int))×List (Int)×List (Int)×List (Bool)×List (Int)×Int×List (List (Int))×Unit)⊕Unit))=some (.inl (tf nm vs rt cs es r N M t))/\Post (row N) g s t i/\Rg N.length t
theorem eqZ(x:Nat):((x:Int)==0)=decide (x=0):=by rw[yBC];simp
theorem s91(orc:Orc Sx)(srt:List Nat->List Nat)(zyi:∀l:List Nat,l.length<=1000000->orc.p 135 (.int .i64) 3 [] (ofN l)=some (ofN (srt l)))
  (hsrt:∀l:List Nat,l.Nodup->(∀v,v∈srt l↔v∈l)/\(srt l).Pairwise (· < ·)) (hw:Web N) {g:List Nat} {s:Tj.St} {i:Nat} (hp:Pre N g s i)
  (hrec:∀g t y,Pre N g t y->s.nxt<t.nxt->Vis nm vs rt cs es r N M orc g t y) :
  ∃t,m91 orc nm vs rt cs es r (za6 N) (za6 M) (fl N.length (λv=>(s.idx v:Int))) (fl N.length (λv=>(s.low v:Int))) (fl N.length (λv=>decide (v∈s.stk))) (ofN s.stk) (s.nxt:Int) (za6 s.found) (i:Int)=some (.inl (tf nm vs rt cs es r N M t))/\Post (row N) g s t i/\Rg N.length t:=by
 obtain ⟨hI,h0,hg,hi,hR⟩:=hp;have hN:N.length<=1000000:=hw.small;have hnx:s.nxt+1<=N.length:=by have h1:=hR.num;have:=zw5 (x:=1) h0 (by omega) hi;omega
 have hfs:=hR.fs;have hwr:Go.IntKind.i64.wrap ((s.nxt:Int)+1)=((s.nxt+1:Nat):Int):=zaf (n:=N.length) (by omega) (by omega);unfold m91
 rw[zwx hi,zaa,zsE hi,zaa,zwx hi,zaa,zsE hi,zaa,zwx hi,zaa,zsE hi,zaa,
  zbc (by simp only[ofN,yBi,yAw,List.length_nil,lim];omega),zaa,zjl hi,zaa,hwr,zxk,zxk,zxa]
 have hon:∀v,(if v=i then true else decide (v∈s.stk))=decide (v∈(Tj.enter s i).stk):=λv=>by show _=decide (v∈s.stk++[i]);by_cases e:v=i<;>simp[e]
 simp only[hon];rw[show ofN s.stk++[(i:Int)]=ofN (Tj.enter s i).stk from by simp[Tj.enter,ofN]];have hrow:(row N i).length<=1000000:=hw.rows i
 refine zxo (w:=λt=>(.inl (tf nm vs rt cs es r N M t):(List UInt8×List UInt8×List UInt8×List (Gt.Component)×List (Gt.Edge)×Int×List (List (Int))×List (List (Int))×List (Int)×List (Int)×List (Bool)×List (Int)×Int×List (List (Int))×Unit)⊕Unit)) (Q:=λz=>∃t,z= .inl (tf nm vs rt cs es r N M t)/\Tj.Mid (row N) g s i (row N i) t/\Rg N.length t)
  (zwM (A:=Tj.St) (λk t=>((k:Int),tf nm vs rt cs es r N M t)) (row N i).length (λk t=>Tj.Mid (row N) g s i ((row N i).take k) t/\Rg N.length t) _ (λk t hk hI2=>?_) (λt hI2=>?_) _ 0 (Tj.enter s i) rfl (yAA _) ⟨hI.enter h0 hg,hR.enter hi h0⟩) λz hz=>?_
 ·obtain ⟨hm,hr⟩:=hI2;have hin:i∈t.stk:=by obtain ⟨T,h1, -⟩:=hm.tail;rw[h1];simp
  have hkt:k<N.length\/True:= .inr trivial;generalize hy:(row N i)[k]=y;have hyo:y∈row N i:=hy▸yAy hk;have hyN:y<N.length:=hw.lt i y hyo;have htk:(row N i).take (k+1)=(row N i).take k++[y]:=by rw[yBQ hk,hy]
  dsimp only[tf];rw[show decide ((k:Int)<len (ofN (row N i)))=true from by rw[za2];simpa using hk,zac,ze1 hk,zaa,hy,zwx hyN,zaa,zsE hyN,zaa,eqZ,zaf hk (by omega)];by_cases hy0:t.idx y=0;·obtain ⟨t',h1,h2,h3⟩:=hrec (g++[i]) t y ⟨hm.inv,hy0,hm.pre hI hyo,hyN,hr⟩ (by have:=hm.ii;have:=hm.inv.le i;omega);rw[decide_eq_true hy0,zac];unfold tf at h1;rw[h1];dsimp only[oc];simp only[zwx hi,zsE hi,zwx hyN,zsE hyN,zaa];refine ⟨zxv t' i (t'.low y),?_,by rw[htk];exact hm.deep hI h0 hyo hy0 h2,⟨h3.lt,h3.num,h3.fs⟩⟩;rw[show min (t'.low i:Int) (t'.low y:Int)=((min (t'.low i) (t'.low y):Nat):Int) from by omega,zxk];rfl
  ·rw[decide_eq_false hy0,zab,zwx hyN,zaa,zsE hyN,zaa];by_cases hys:y∈t.stk;·rw[decide_eq_true hys,zac];simp only[zwx hi,zsE hi,zsE hyN,zaa];refine ⟨zxv t i (t.idx y),?_,by rw[htk];exact hm.back hI h0 hyo hys,⟨hr.lt,hr.num,hr.fs⟩⟩;rw[show min (t.low i:Int) (t.idx y:Int)=((min (t.low i) (t.idx y):Nat):Int) from by omega,zxk];rfl
   ·rw[decide_eq_false hys,zab];exact ⟨t,rfl,by rw[htk];exact hm.skip hy0 hys,hr⟩
 ·obtain ⟨hm,hr⟩:=hI2;rw[List.take_length] at hm;refine ⟨.inl (tf nm vs rt cs es r N M t),?_,t,rfl,hm,hr⟩;dsimp only[tf];rw[show decide ((((row N i).length:Nat):Int)<len (ofN (row N i)))=false from by rw[za2];simp,zab]
 ·obtain ⟨t,rfl,hm,hr⟩:=hz;rw[zaj];dsimp only[tf];simp only[zwx hi,zsE hi,zaa];by_cases hl:t.low i=t.idx i
  ·rw[show ((t.low i:Int) != (t.idx i:Int))=false from by rw[hl];simp,zab];obtain ⟨T,hT,hT2, -⟩:=hm.tail;have hnd:t.stk.Nodup:=hm.inv.asc.imp λh e=>by rw[e] at h;omega
   have hst:t.stk.length<=N.length:=(by have:=hr.fs;have:=hr.num;omega);have hfo:t.found.length+1<=N.length:=(by have h1:=hr.fs;have:=hr.num;rw[hT] at h1;simp at h1;omega);have hlt:∀v∈t.stk,v<N.length:=λv hv=>hr.lt v (hm.inv.pos v hv);have hiT:i∉T:=λe=>by have h1:=hnd;rw[hT] at h1;have h1:=(List.nodup_append.mp h1).2.1;rw[yA2] at h1;exact h1.1 e
   rw[hT]
   refine zxo (w:=λt=>(.inl (tf nm vs rt cs es r N M t):(List UInt8×List UInt8×List UInt8×List (Gt.Component)×List (Gt.Edge)×Int×List (List (Int))×List (List (Int))×List (Int)×List (Int)×List (Bool)×List (Int)×Int×List (List (Int))×Unit)⊕Unit)) (Q:=λz=>z= .inl (ofN (T.reverse++[i]),nm,vs,rt,cs,es,r,za6 N,za6 M,fl N.length (λv=>(t.idx v:Int)),fl N.length (λv=>(t.low v:Int)),fl N.length (λv=>decide (v∈s.stk)),ofN s.stk,(t.nxt:Int),za6 t.found,()))
    ⟨_,zxh (L:=t.stk) (m:=1000000) (λc A=>(ofN c,nm,vs,rt,cs,es,r,za6 N,za6 M,fl N.length (λv=>(t.idx v:Int)),fl N.length (λv=>(t.low v:Int)),fl N.length (λv=>decide (v∈A)),ofN A,(t.nxt:Int),za6 t.found,())) (λc A=>.inl (ofN c,nm,vs,rt,cs,es,r,za6 N,za6 M,fl N.length (λv=>(t.idx v:Int)),fl N.length (λv=>(t.low v:Int)),fl N.length (λv=>decide (v∈A)),ofN A,(t.nxt:Int),za6 t.found,())) i (λc A x hpre hlen=>?_) T.length s.stk T [] rfl hiT ⟨[],by rw[hT];simp⟩ (by rw[hT] at hst;simp at hst ⊢;omega),rfl⟩ λz hz=>?_
   ·have hxA:x∉A:=λe=>by have:=hnd.sublist hpre.sublist;rw[List.nodup_append] at this;exact this.2.2 x e x (by simp) rfl
    have hxn:x<N.length:=hlt x (hpre.subset (by simp));have hL:(ofN (A++[x])).length=A.length+1:=(by simp[ofN]);have hwl:Go.IntKind.i64.wrap (len (ofN (A++[x])) - 1)=(A.length:Int):=(by rw[za2,yAI];rw[show (((A.length+[x].length:Nat):Int) - 1)=(A.length:Int) from by simp];exact zaH (by omega) (by omega));have hg:zdc (ofN (A++[x])) A.length=some (x:Int):=(by unfold zdc ofN;simp);have hpt:zhN (ofN (A++[x])) 0 (A.length:Int)=some (ofN A):=(by rw[show (0:Int)=((0:Nat):Int) from rfl,zhM (yAA _) (by omega)];simp[ofN]);dsimp only;rw[hwl,zle (by omega),zaa,hg,zaa,hpt,zaa,zwx hxn,zaa,zsE hxn,zaa,zbc (by simp only[ofN,yBi,yAw,List.length_nil,lim];omega),zaa,zxa];have hoff:∀v,(if v=x then false else decide (v∈A++[x]))=decide (v∈A):=λv=>by
     by_cases e:v=x;·subst e;simp[hxA]
     ·simp[e]
    simp only[hoff];rw[show ofN c++[(x:Int)]=ofN (c++[x]) from by simp[ofN]];by_cases e:x=i;·subst e;rw[if_pos rfl,show ((x:Int)==(x:Int))=true from by simp,zac]
    ·rw[if_neg e,show ((x:Int)==(i:Int))=false from by simp;omega,zab]
   ·subst hz;rw[zaj];dsimp only;have hnd2:(T.reverse++[i]).Nodup:=by
     have h1:=hnd;rw[hT] at h1;have h1:=(List.nodup_append.mp h1).2.1;rw[show T.reverse++[i]=(i::T).reverse from by simp];exact (List.reverse_perm _).nodup_iff.mpr h1
    obtain ⟨s1,s2⟩:=hsrt _ hnd2;rw[zyi _ (by rw[hT] at hst;simp at hst ⊢;omega),zaa,zbc (by simp only[za6,yBi,yAw,List.length_nil,lim];omega),zaa];refine ⟨{ t with stk:=s.stk,found:=t.found++[srt (T.reverse++[i])] },?_,hm.pop hI hg hl hT (λv=>by rw[s1];simp[or_comm]) s2,hr.lt,hr.num,?_⟩;·simp[tf,za6]
    ·have h1:=hr.fs;rw[hT] at h1;simp at h1 ⊢;omega
  ·rw[show ((t.low i:Int) != (t.idx i:Int))=true from by simp;omega,zac];exact ⟨t,rfl,hm.stay hI hg hl,hr⟩
end Pe.Tryz
end
section
/- What the searches find: the components in order. -/
set_option maxRecDepth 100000
namespace Pe.Tj
open Bfs
variable{N M:List (List Nat)}
theorem zxn(hn:∀i,∀j∈row N i,j<N.length){i k:Nat}(hi:i<N.length):0<=dAt (zeI N i (-1)) k↔Rch (row N) i k:=by
 have h:=zme (wo:= -1) hn hi (by omega);constructor
 ·have key:∀(m k:Nat),dAt (zeI N i (-1)) k=(m:Int)->Rch (row N) i k:=by
   intro m;induction m with
   |zero =>
     intro k hk;rcases h.src k (by omega) with h1|⟨h1, -⟩;·rw[h1.1];exact .refl i
     ·omega
   |succ m ih =>
     intro k hk;rcases h.src k (by omega) with h1|⟨-,x,h1,h2⟩;·have:=h1.2;omega
     ·exact (ih x (by omega)).trans (.one h1)
  exact λhk=>key (dAt (zeI N i (-1)) k).toNat k (by omega)
 ·have key:∀{a b:Nat},Rch (row N) a b->0<=dAt (zeI N i (-1)) a->0<=dAt (zeI N i (-1)) b:=λhr=>by
   induction hr with
   |refl v=>exact id|step hx _ ih =>
     intro ha;rcases h.closed _ ha with h1|h1;·cases h1
     ·rcases h1 _ hx with h2|h2;·exact ih h2
      ·omega
  exact λhr=>key hr (by have:=h.home;omega)
theorem zxf(hm:∀i j,j∈row N i↔i∈row M j){a b:Nat}(h:Rch (row N) a b):Rch (row M) b a:=by
 induction h with
 |refl v=>exact .refl v|step hx _ ih=>exact ih.trans (.one ((hm _ _).mp hx))
theorem zym(hn:∀i,∀j∈row N i,j<N.length){a b:Nat}(h:Rch (row N) a b)(ha:a<N.length):b<N.length:=by
 induction h with
 |refl v=>exact ha|step hx _ ih=>exact ih (hn _ _ hx)
def mu(N M:List (List Nat))(i k:Nat):Bool:=decide (0<=dAt (zeI N i (-1)) k)&&decide (0<=dAt (zeI M i (-1)) k)
structure Two (N M:List (List Nat)):Prop where
 n:∀i,∀j∈row N i,j<N.length
 m:∀i,∀j∈row M i,j<M.length
 len:M.length=N.length
 turn:∀i j,j∈row N i↔i∈row M j
theorem Two.mu_iff(h:Two N M){i k:Nat}(hi:i<N.length):mu N M i k=true↔Rch (row N) i k/\Rch (row N) k i:=by unfold mu;rw[yAd,decide_eq_true_iff,decide_eq_true_iff,zxn h.n hi,zxn h.m (by rw[h.len];exact hi)];exact ⟨λa=>⟨a.1,zxf (λi j=>(h.turn j i).symm) a.2⟩,λa=>⟨a.1,zxf h.turn a.2⟩⟩
theorem Two.mu_lt(h:Two N M){i k:Nat}(hi:i<N.length)(hk:mu N M i k=true):k<N.length:=zym h.n ((h.mu_iff hi).mp hk).1 hi
theorem Two.mu_self(h:Two N M){i:Nat}(hi:i<N.length):mu N M i i=true:=(h.mu_iff hi).mpr ⟨.refl i,.refl i⟩
theorem Two.mu_symm(h:Two N M){i k:Nat}(hi:i<N.length)(hk:mu N M i k=true):mu N M k i=true :=
 (h.mu_iff (h.mu_lt hi hk)).mpr ((h.mu_iff hi).mp hk).symm
theorem Two.mu_trans(h:Two N M){i j k:Nat}(hi:i<N.length)(h1:mu N M i j=true)(h2:mu N M j k=true):mu N M i k=true:=by have a:=(h.mu_iff hi).mp h1;have b:=(h.mu_iff (h.mu_lt hi h1)).mp h2;exact (h.mu_iff hi).mpr ⟨a.1.trans b.1,b.2.trans a.2⟩
def comp(N M:List (List Nat))(i:Nat):List Nat:=(List.range N.length).filter (mu N M i)
def first(N M:List (List Nat))(i:Nat):Bool:= !(List.range i).any λj=>mu N M j i
def comps(N M:List (List Nat)):List (List Nat):=((List.range N.length).filter (first N M)).map (comp N M)
theorem Two.mem_comp(h:Two N M){i k:Nat}(hi:i<N.length):k∈comp N M i↔mu N M i k=true:=by unfold comp;rw[yAO,yBa];exact ⟨λa=>a.2,λa=>⟨h.mu_lt hi a,a⟩⟩
theorem Two.first_iff(h:Two N M){i:Nat}(hi:i<N.length):first N M i=true↔∀k,mu N M i k=true->i<=k:=by
 unfold first
 rw[yA4,yB0];constructor;·intro a k hk;refine Nat.le_of_not_lt λe=>a k (yBa.mpr e) (h.mu_symm hi hk)
 ·intro a k hk e;have hk:=yBa.mp hk;have:=a k (h.mu_symm (by omega) e);omega
theorem zxz{n:Nat}:∀{f:List Nat},f.Pairwise (· < ·)->(∀v∈f,v<n)->f=(List.range n).filter λk=>decide (k∈f):=by
 intro f hf hn;have h1:((List.range n).filter λk=>decide (k∈f)).Pairwise (· < ·):=List.Pairwise.sublist List.filter_sublist List.pairwise_lt_range;have hs:∀{l:List Nat},l.Pairwise (· < ·)->zpW cN l:=λh=>h.imp λk=>by unfold cN;omega
 refine znA zyo (hs hf) (hs h1) λx=>?_;rw[yAO,yBa];exact ⟨λa=>⟨hn x a,by simpa using a⟩,λa=>by simpa using a.2⟩
theorem Inv.done{s:St}(h:Inv (row N) [] s)(hv:∀i,i<N.length->s.idx i≠0)(hl:∀v,s.idx v≠0->v<N.length)(hT:Two N M) :
  (∀f,f∈s.found↔f∈comps N M)/\(∀f∈s.found,∃i,i<N.length/\f=comp N M i/\f.head? =some i):=by
 have hst:∀v,v∉s.stk:=λv hv=>by obtain ⟨u,hu, -⟩:=h.down v hv;cases hu
 have e1:∀f∈s.found,∀v∈f,f=comp N M v:=λf hf v hvf=>by obtain ⟨x,hx,hxf⟩:=h.fnd f hf;have hlt:∀w∈f,w<N.length:=λw hw=>hl w (h.cls f hf w hw).1;rw[zxz (h.strict f hf) hlt];unfold comp;refine List.filter_congr λk hk=>?_;rw[yBC,decide_eq_true_iff,hT.mu_iff (hlt v hvf),hxf k];have a:=(hxf v).mp hvf;exact ⟨λb=>⟨a.2.trans b.1,b.2.trans a.1⟩,λb=>⟨a.1.trans b.1,b.2.trans a.2⟩⟩
 have e2:∀f∈s.found,∃i,i<N.length/\f=comp N M i/\f.head? =some i/\first N M i=true:=λf hf=>by
  obtain ⟨x,hx, -⟩:=h.fnd f hf
  match hf2:f,hx with
  |y::f',_ =>
    have hy:y<N.length:=hl y (h.cls _ hf y (by simp)).1;have e3:=e1 _ hf y (by simp);refine ⟨y,hy,e3,rfl,(hT.first_iff hy).mpr λk hk=>?_⟩;have hk:=(hT.mem_comp hy).mpr hk;rw[<-e3] at hk;have:=yBU.mp (h.strict _ hf);rcases yAm.mp hk with q|q;·omega
    ·have:=this.1 k q;omega
 refine ⟨λf=>⟨λhf=>?_,λhf=>?_⟩,λf hf=>by obtain ⟨i,a,b,c, -⟩:=e2 f hf;exact ⟨i,a,b,c⟩⟩;·obtain ⟨i,a,b, -,c⟩:=e2 f hf;unfold comps;rw[yBw];exact ⟨i,by rw[yAO,yBa];exact ⟨a,c⟩,b.symm⟩
 ·unfold comps at hf;rw[yBw] at hf;obtain ⟨i,hi,rfl⟩:=hf;rw[yAO,yBa] at hi;obtain ⟨f,hf,hif⟩:=h.old i (hv i hi.1) (hst i);rw[<-e1 f hf i hif];exact hf
theorem Two.comps_asc(hT:Two N M):(comps N M).Pairwise λf k=>∀x y,f.head? =some x->k.head? =some y->x<y:=by
 unfold comps;rw[yA6];refine (List.Pairwise.sublist List.filter_sublist List.pairwise_lt_range).imp_of_mem λ{a b} ha hb hab x y hx hy=>?_;have hd:∀i z,i∈(List.range N.length).filter (first N M)->(comp N M i).head? =some z->z=i:=λi z hi hz=>by
  rw[yAO,yBa] at hi;have h1:=(hT.mem_comp hi.1).mp (List.mem_of_head? hz);have h2:=(hT.first_iff hi.1).mp hi.2 z h1;have h3:i∈comp N M i:=(hT.mem_comp hi.1).mpr (hT.mu_self hi.1)
  match hc:comp N M i,hz,h3 with
  |w::l,hz,h3 =>
    simp at hz;subst hz;have hp:(comp N M i).Pairwise (· < ·):=List.Pairwise.sublist List.filter_sublist List.pairwise_lt_range;rw[hc] at hp;rcases yAm.mp h3 with q|q;·exact q.symm
    ·have:=(yBU.mp hp).1 i q;omega
 rw[hd a x ha hx,hd b y hb hy];exact hab
end Pe.Tj
end
section
/- The cycles of a bill: the code's and the document's. -/
set_option maxRecDepth 100000
namespace Pe.Tryz
open Bfs Tj
theorem visN(nm vs rt:List UInt8)(cs:List Gt.Component)(es:List Gt.Edge)(r:Int)(N M:List (List Nat))(O:Nat->Orc Sx)(srt:List Nat->List Nat)
  (hO:∀n (b0_0 b0_1 b0_2:List UInt8) (b0_3:List (Gt.Component)) (b0_4:List (Gt.Edge)) (b0_5:Int) (b0_6 b0_7:List (List (Int))) (b0_8 b0_9:List (Int)) (b0_10:List (Bool)) (b0_11:List (Int)) (b0_12:Int) (b0_13:List (List (Int))) (i:Int),
   @Eq (Option ((List UInt8×List UInt8×List UInt8×List (Gt.Component)×List (Gt.Edge)×Int×List (List (Int))×List (List (Int))×List (Int)×List (Int)×List (Bool)×List (Int)×Int×List (List (Int))×Unit)⊕(Unit))) ((O (n+1)).l 91 sg91 ((b0_0,b0_1,b0_2,b0_3,b0_4,b0_5,b0_6,b0_7,b0_8,b0_9,b0_10,b0_11,b0_12,b0_13,i,()):List UInt8×List UInt8×List UInt8×List (Gt.Component)×List (Gt.Edge)×Int×List (List (Int))×List (List (Int))×List (Int)×List (Int)×List (Bool)×List (Int)×Int×List (List (Int))×Int×Unit)) (m91 (O n) b0_0 b0_1 b0_2 b0_3 b0_4 b0_5 b0_6 b0_7 b0_8 b0_9 b0_10 b0_11 b0_12 b0_13 i))
  (zyi:∀n (l:List Nat),l.length<=1000000->(O (n+1)).p 135 (.int .i64) 3 [] (ofN l)=some (ofN (srt l)))
  (hsrt:∀l:List Nat,l.Nodup->(∀v,v∈srt l↔v∈l)/\(srt l).Pairwise (· < ·)) (hw:Web N) :
  ∀(k n:Nat)(g:List Nat)(s:Tj.St)(i:Nat),N.length - s.nxt<=k->k+2<=n->Pre N g s i->Vis nm vs rt cs es r N M (O n) g s i
 |0,n,g,s,i,hk,hn,hp=>by exfalso;obtain ⟨-,h0, -,hi,hR⟩:=hp;have:=zw5 (x:=1) h0 (by omega) hi;have:=hR.num;omega
 |k+1,n,g,s,i,hk,hn,hp=>by obtain ⟨n,rfl⟩:∃m,n=m+2:=⟨n - 2,by omega⟩;obtain ⟨t,h1,h2,h3⟩:=s91 nm vs rt cs es r N M (O (n+1)) srt (zyi n) hsrt hw hp λg t y hp2 hlt=>visN nm vs rt cs es r N M O srt hO zyi hsrt hw k (n+1) g t y (by omega) (by omega) hp2;exact ⟨t,(hO _ _ _ _ _ _ _ _ _ _ _ _ _ _ _ _).trans h1,h2,h3⟩
def st0:Tj.St:=⟨λ_=>0,λ_=>0,[],0,[]⟩
theorem zx6(N:List (List Nat)):Inv (row N) [] st0 :=
 ⟨λv hv=>(by cases hv),λv=>yAi _,.nil,λv hv=>(by cases hv),λv hv=>absurd rfl hv,λf hf=>(by cases hf),λf hf=>(by cases hf),λv hv=>absurd rfl hv,λv hv=>(by cases hv),λv hv=>(by cases hv),λv hv=>(by cases hv),.nil,λf hf=>(by cases hf)⟩
theorem zyk(n:Nat):Rg n st0:=⟨λv hv=>absurd rfl hv,by show 0+cnt n (λ_=>0)=n;unfold cnt;simp[List.countP_eq_length.mpr],yAi _⟩
theorem zxD{α:Type}(n:Nat)(x:α):List.replicate n x=fl n λ_=>x:=by unfold fl;apply List.ext_getElem<;>simp
noncomputable def zxx(b:Gt.Bill)(scope:Int):List (List (List UInt8)):=((comps (outs b scope) (zi4 b scope)).filter λl=>decide (1<l.length)).map (zbd b)
theorem Right.two{b:Gt.Bill}(hb:Right b)(scope:Int):Two (outs b scope) (zi4 b scope):=by obtain ⟨w1,w2,w3,w4,w5⟩:=hb.web scope;exact ⟨w1.lt,w2.lt,by rw[w3,w4],w5⟩
theorem zwI{σ R:Type}{x y:Option (σ⊕R)}{K:σ->Option R}(h:x=y):zaE x K=zaE y K:=by rw[h]
theorem zxc(N M:List (List Nat)):(comps N M).length<=N.length:=by unfold comps;rw[yBi];exact yAo (yA0 _ _) (by simp)
theorem zw4{N M:List (List Nat)}{l:List Nat}(h:l∈comps N M):l.length<=N.length/\∀i∈l,i<N.length:=by unfold comps at h;rw[yBw] at h;obtain ⟨i, -,rfl⟩:=h;unfold comp;exact ⟨yAo (yA0 _ _) (by simp),λk hk=>yBa.mp (yAO.mp hk).1⟩
theorem zxj{α β:Type}(p:α->Bool)(c:α->β):∀(l:List α)(a:List β),l.foldl (λa x=>if p x=true then a++[c x] else a) a=a++(l.filter p).map c
 |[],a=>by simp
 |x::l,a=>by rw[yCd,zxj p c l];cases h:p x<;>simp[h]
theorem m49_eq'{chk:Gt.Bill->Int}{orc:Orc Sx}{b:Gt.Bill}(K:GrO chk orc b)(hb:Right b)(scope:Int)
  (h79:orc.d 79 [.st 3 b,.int .i64 scope] [(.st 14),(.int .i64)]=(some (zc3 b scope,0,()):Option (Gt.Gf×Int×Unit)))
  (hvis:∀s i,Pre (outs b scope) [] s i->Vis b.name b.version b.root b.components b.edges (num b b.root:Int) (outs b scope) (zi4 b scope) orc [] s i)
  (h92:∀F:List (List Nat),(∀f,f∈F↔f∈comps (outs b scope) (zi4 b scope))->(F.Pairwise λf k=>∀v∈f,v∉k)->F.length<=1000000->orc.p 92 (.sl (.int .i64)) 65 [.func (.func 93) [] []] (za6 F)=some (za6 (comps (outs b scope) (zi4 b scope)))) :
  m49 orc b scope=some (zxx b scope,0,()):=by
 obtain ⟨w1,w2,w3,w4,w5⟩:=hb.web scope;have hn:b.components.length<=1000000:=by have:=hb.n;omega
 have hlen:len b.components=((b.components.length:Nat):Int):=rfl;suffices h:∃_:Unit,m49 orc b scope=some (zxx b scope,0,())/\True from by obtain ⟨_,h, -⟩:=h;exact h
 unfold m49;rw[h79,zaa];dsimp only;rw[show ((0:Int) != 0)=false from rfl,zab,hlen,ziK hn,zaa,zaa,ziK hn,zaa,zxD,zxD,<-w3]
 refine zxo (w:=λ_:Unit=>(zxx b scope,(0:Int),())) (Q:=λz=>∃t,z= .inl (tf b.name b.version b.root b.components b.edges (num b b.root:Int) (outs b scope) (zi4 b scope) t)/\Inv (row (outs b scope)) [] t/\Rg (outs b scope).length t/\∀v,v<(outs b scope).length->t.idx v≠0)
  (zwM (A:=Tj.St) (λk t=>((k:Int),tf b.name b.version b.root b.components b.edges (num b b.root:Int) (outs b scope) (zi4 b scope) t)) (outs b scope).length (λk t=>Inv (row (outs b scope)) [] t/\Rg (outs b scope).length t/\∀v,v<k->t.idx v≠0) _ (λk t hk hI=>?_) (λt hI=>?_) _ 0 st0 rfl (yAA _) ⟨zx6 _,zyk _,λv hv=>absurd hv (Nat.not_lt_zero _)⟩) λz hz=>?_
 ·obtain ⟨h1,h2,h3⟩:=hI;dsimp only[tf];rw[show decide ((k:Int)<(((outs b scope).length:Nat):Int))=true from by simpa using hk,zac,zwx hk,zaa,zsE hk,zaa,eqZ,zaf hk (by omega)];by_cases h0:t.idx k=0
  ·rw[decide_eq_true h0,zac];obtain ⟨t',k1,k2,k3⟩:=hvis t k ⟨h1,h0,λu hu=>(by cases hu),hk,h2⟩;unfold tf at k1;rw[k1];dsimp only[oc];refine ⟨t',rfl,k2.inv,k3,λv hv=>?_⟩;by_cases e:v=k;·rw[e];exact k2.seen
   ·have:=h3 v (by omega);rw[k2.kidx v this];exact this
  ·rw[decide_eq_false h0,zab];refine ⟨t,rfl,h1,h2,λv hv=>?_⟩;by_cases e:v=k;·rw[e];exact h0
   ·exact h3 v (by omega)
 ·obtain ⟨h1,h2,h3⟩:=hI;refine ⟨_,?_,t,rfl,h1,h2,h3⟩;dsimp only[tf];rw[show decide ((((outs b scope).length:Nat):Int)<(((outs b scope).length:Nat):Int))=false from by simp,zab]
 ·obtain ⟨t,rfl,h1,h2,h3⟩:=hz;refine ⟨(),?_,trivial⟩;rw[zaj];dsimp only[tf];have hd:=h1.done h3 h2.lt (hb.two scope);have hc:=zxc (outs b scope) (zi4 b scope);rw[h92 t.found hd.1 h1.apart (by have:=h2.fs;have:=h2.num;omega),zaa];refine (zwI (zcK (f:=_) (α:=List Nat) (A:=List (List (List UInt8))) (λk a=>(a,za6 (comps (outs b scope) (zi4 b scope)),(k:Int),b.name,b.version,b.root,b.components,b.edges,(num b b.root:Int),za6 (outs b scope),za6 (zi4 b scope),fl (outs b scope).length (λv=>(t.idx v:Int)),fl (outs b scope).length (λv=>(t.low v:Int)),fl (outs b scope).length (λv=>decide (v∈t.stk)),ofN t.stk,(t.nxt:Int),za6 (comps (outs b scope) (zi4 b scope)),())) (comps (outs b scope) (zi4 b scope)) (λa l=>if decide (1<l.length)=true then a++[zbd b l] else a) (λa=>.inl (a,b.name,b.version,b.root,b.components,b.edges,(num b b.root:Int),za6 (outs b scope),za6 (zi4 b scope),fl (outs b scope).length (λv=>(t.idx v:Int)),fl (outs b scope).length (λv=>(t.low v:Int)),fl (outs b scope).length (λv=>decide (v∈t.stk)),ofN t.stk,(t.nxt:Int),za6 (comps (outs b scope) (zi4 b scope)),())) (λk a=>a.length<=k) (λk hk a ha=>?_) (λa ha=>?_) [] (yAi _))).trans ?_
  ·have hm:=zw4 (yAy hk);have hat:at? (za6 (comps (outs b scope) (zi4 b scope))) (k:Int)=some (ofN (comps (outs b scope) (zi4 b scope))[k]):=by
    rw[zcV];unfold za6;rw[yAh,yAe hk];rfl
   dsimp only;rw[zmT,show decide ((k:Int)<(((comps (outs b scope) (zi4 b scope)).length:Nat):Int))=true from by simpa using hk,zac,hat,zaa,za2,zaf hk (by omega)];generalize (comps (outs b scope) (zi4 b scope))[k]=l at hm ⊢;rw[show decide ((1:Int)<((l.length:Nat):Int))=decide (1<l.length) from by rw[yBC];simp;omega];cases decide (1<l.length) with
   |false=>exact ⟨rfl,by rw[if_neg (by simp)];omega⟩|true =>rw[zac,K.h59 b scope l hb (λi hi=>by rw[<-w3];exact hm.2 i hi) (by omega),zaa,zbc (by simp only[yAw,List.length_nil,lim];omega),zaa];exact ⟨rfl,by rw[if_pos rfl];simp;omega⟩
  ·dsimp only;rw[zmT,show decide ((((comps (outs b scope) (zi4 b scope)).length:Nat):Int)<(((comps (outs b scope) (zi4 b scope)).length:Nat):Int))=false from by simp,zab]
  ·rw[zaj,zxj];rfl
end Pe.Tryz
end
section
/- The cycles of a bill: the document's way. -/
set_option maxRecDepth 100000
namespace Pe.Tryz
open Bfs Tj
theorem zyb(n:Nat)(c:Nat->Bool):zyg (fl n c)=(List.range n).filter c:=by
 unfold zyg fl;rw[yBi,yBe];apply List.filter_congr;intro k hk;have hk:k<n:=by simpa using hk
 simp[hk]
theorem zx0{d:List Int}{j:Nat}(h:j<d.length):at? (inD d) (j:Int)=some (decide (0<=dAt d j)):=by rw[zcV];exact zh2 h
def zwA(N M:List (List Nat))(k v:Nat):Bool:=(List.range k).any λj=>mu N M j v
theorem zwS(N M:List (List Nat))(k v:Nat):zwA N M (k+1) v=(zwA N M k v||mu N M k v):=by unfold zwA;rw[yCo,List.any_append];simp
noncomputable def zxL(b:Gt.Bill)(N M:List (List Nat))(k:Nat):List (List (List UInt8)):=((((List.range k).filter (first N M)).map (comp N M)).filter λl=>decide (1<l.length)).map (zbd b)
theorem zxT(b:Gt.Bill)(N M:List (List Nat))(k:Nat):(zxL b N M k).length<=k:=by unfold zxL;rw[yBi];refine yAo (yA0 _ _) ?_;rw[yBi];exact yAo (yA0 _ _) (by simp)
theorem zxb(b:Gt.Bill)(N M:List (List Nat))(k:Nat):zxL b N M (k+1)=if first N M k=true/\1<(comp N M k).length then zxL b N M k++[zbd b (comp N M k)] else zxL b N M k:=by
 unfold zxL;rw[yCo,List.filter_append,List.map_append,List.filter_append,List.map_append];by_cases h1:first N M k=true
 ·by_cases h2:1<(comp N M k).length;·rw[if_pos ⟨h1,h2⟩];simp[h1,h2]
  ·rw[if_neg λh=>h2 h.2];simp[h1,h2]
 ·rw[if_neg λh=>h1 h.1];simp[h1]
theorem zxm{α:Type}{n:Nat}{f g:Nat->α}(h:∀v,v<n->f v=g v):fl n f=fl n g:=by unfold fl;exact List.map_congr_left λv hv=>h v (yBa.mp hv)
theorem zw0{σ R:Type}{f:σ->Option (σ⊕R)}(mk:Nat->σ)(n:Nat)(r:R)(h:∀k,k<n->f (mk k)=some (.inl (mk (k+1))))(he:f (mk n)=some (.inr r)){x:σ}(hx:x=mk 0):zak f x=some r:=by obtain ⟨r',h1,rfl⟩:=zwM (A:=Unit) (f:=f) (λk _=>mk k) n (λ_ _=>True) (λr'=>r'=r) (λk _ hk _=>⟨(),h k hk,trivial⟩) (λ_ _=>⟨r,he,rfl⟩) _ 0 () rfl (yAA _) trivial;rw[hx];exact h1
theorem m50_eq'{chk:Gt.Bill->Int}{orc:Orc Sx}{b:Gt.Bill}(K:GrO chk orc b)(hb:Right b)(scope:Int)
  (h63:orc.d 63 [.st 3 b,.int .i64 scope,.sl .str []] [(.int .i64)]=(some (0,()):Option (Int×Unit)))
  (h61:∀f:Nat,f<b.components.length->orc.d 61 [.st 19 (Gt.Wb.mk (zbr b) (za6 (zi4 b scope)) [] 0),.int .i64 (f:Int),.int .i64 (-1)] [(.sl .bool)]=(some (inD (zeI (zi4 b scope) f (-1)),()):Option (List Bool×Unit))) :
  m50 orc b scope=some (zxx b scope,0,()):=by
 obtain ⟨w1,w2,w3,w4,w5⟩:=hb.web scope;have hT:=hb.two scope;have hn:b.components.length<=1000000:=by have:=hb.n;omega
 have hlen:len (zpQ b scope).refs=((b.components.length:Nat):Int):=by simp[len,zpQ,zbr]
 have hnN:b.components.length=(outs b scope).length:=w3.symm;suffices h:∃_:Unit,m50 orc b scope=some (zxx b scope,0,())/\True from by obtain ⟨_,h, -⟩:=h;exact h
 unfold m50;rw[h63,zaa];dsimp only;rw[show ((0:Int) != 0)=false from rfl,zab,K.h60 b scope hb,zaa];dsimp only;rw[hlen,hnN,ziK (by omega),zaa,zxD]
 refine zxo (w:=λ_:Unit=>(zxx b scope,(0:Int),())) (Q:=λz=>z= .inl (zxL b (outs b scope) (zi4 b scope) (outs b scope).length,()))
  (zwM (A:=Unit) (λk _=>(fl (outs b scope).length (zwA (outs b scope) (zi4 b scope) k),zxL b (outs b scope) (zi4 b scope) k,(k:Int),())) (outs b scope).length (λ_ _=>True) _ (λk _ hk _=>?_) (λ_ _=>?_) _ 0 () rfl (yAA _) trivial) λz hz=>?_
 ·refine ⟨(),?_,trivial⟩;dsimp only;rw[show decide ((k:Int)<(((outs b scope).length:Nat):Int))=true from by simpa using hk,zac,zwx hk,zaa,zsE hk,zaa,zaf hk (by omega)];by_cases hs:zwA (outs b scope) (zi4 b scope) k k=true
  ·rw[hs,zac,zaj];dsimp only;have h1:∀v,zwA (outs b scope) (zi4 b scope) (k+1) v=zwA (outs b scope) (zi4 b scope) k v:=λv=>by
    rw[zwS];cases hm:mu (outs b scope) (zi4 b scope) k v with
    |false=>simp|true =>have h2:=hs;unfold zwA at h2;rw[yBd] at h2;obtain ⟨j,hj,h3⟩:=h2;have hj2:=yBa.mp hj;have:zwA (outs b scope) (zi4 b scope) k v=true:=(by unfold zwA;rw[yBd];exact ⟨j,hj,hT.mu_trans (by omega) h3 hm⟩);rw[this];rfl
   rw[show zwA (outs b scope) (zi4 b scope) (k+1)=zwA (outs b scope) (zi4 b scope) k from funext h1,zxb,if_neg];intro h;have h2:=h.1;unfold first at h2
   unfold zwA at hs;rw[hs] at h2;cases h2
  ·have hs:zwA (outs b scope) (zi4 b scope) k k=false:=(by simpa using hs);have hf:first (outs b scope) (zi4 b scope) k=true:=by unfold first;unfold zwA at hs;rw[hs];rfl
   have hkn:k<b.components.length:=(by omega);have hld:(zeI (outs b scope) k (-1)).length=(outs b scope).length:=Bfs.dist_len w1.lt hk;have hlm:(zeI (zi4 b scope) k (-1)).length=(outs b scope).length:=(by rw[Bfs.dist_len w2.lt (by omega)];omega);rw[hs,zab,K.h61 b scope k (-1) hb hkn,zaa];dsimp only;rw[show Gt.Wb.mk (zpQ b scope).refs (zpQ b scope).from_ [] 0=Gt.Wb.mk (zbr b) (za6 (zi4 b scope)) [] 0 from rfl,h61 k hkn,zaa,zaa];dsimp only;refine (zwI (zwI (zw0 (λj=>(fl (outs b scope).length (λv=>zwA (outs b scope) (zi4 b scope) k v||(decide (v<j)&&mu (outs b scope) (zi4 b scope) k v)),zxL b (outs b scope) (zi4 b scope) k,fl (outs b scope).length (λv=>decide (v<j)&&mu (outs b scope) (zi4 b scope) k v),(j:Int),())) (outs b scope).length (.inl (fl (outs b scope).length (zwA (outs b scope) (zi4 b scope) (k+1)),zxL b (outs b scope) (zi4 b scope) k,fl (outs b scope).length (mu (outs b scope) (zi4 b scope) k),())) (λj hj=>?_) ?_ ?_))).trans ?_
   ·dsimp only;have hmu:(decide (0<=dAt (zeI (outs b scope) k (-1)) j)&&decide (0<=dAt (zeI (zi4 b scope) k (-1)) j))=mu (outs b scope) (zi4 b scope) k j:=rfl;rw[show len (fl (outs b scope).length λ_=>false)=(((outs b scope).length:Nat):Int) from by simp[len,zxl],show decide ((j:Int)<(((outs b scope).length:Nat):Int))=true from by simpa using hj,zac,zx0 (by omega),zaa,zx0 (by omega),zaa,zai,zaa,zcw,hmu,zwx hj,zaa,zsE hj,zaa,zwx hj,zaa,zsE hj,zaa,zxa,zwx hj,zaa,zsE hj,zaa,zai,zaa,zbS,zaa,zsE hj,zaa,zxa,zaf hj (by omega)];have e1:∀v,(if v=j then mu (outs b scope) (zi4 b scope) k j else decide (v<j)&&mu (outs b scope) (zi4 b scope) k v)=(decide (v<j+1)&&mu (outs b scope) (zi4 b scope) k v):=λv=>by
     by_cases e:v=j;·subst e;simp
     ·rw[if_neg e,show decide (v<j+1)=decide (v<j) from by rw[yBC];simp;omega]
    have e2:∀v,(if v=j then (zwA (outs b scope) (zi4 b scope) k j||decide (j<j)&&mu (outs b scope) (zi4 b scope) k j||mu (outs b scope) (zi4 b scope) k j) else zwA (outs b scope) (zi4 b scope) k v||decide (v<j)&&mu (outs b scope) (zi4 b scope) k v)=(zwA (outs b scope) (zi4 b scope) k v||decide (v<j+1)&&mu (outs b scope) (zi4 b scope) k v):=λv=>by
     by_cases e:v=j;·subst e;simp
     ·rw[if_neg e,show decide (v<j+1)=decide (v<j) from by rw[yBC];simp;omega]
    simp only[if_true,e1,e2]
   ·dsimp only;rw[show len (fl (outs b scope).length λ_=>false)=(((outs b scope).length:Nat):Int) from by simp[len,zxl],show decide ((((outs b scope).length:Nat):Int)<(((outs b scope).length:Nat):Int))=false from by simp,zab];have e1:∀v,v<(outs b scope).length->(decide (v<(outs b scope).length)&&mu (outs b scope) (zi4 b scope) k v)=mu (outs b scope) (zi4 b scope) k v:=λv hv=>by simp[hv]
    rw[zxm λv hv=>show (zwA (outs b scope) (zi4 b scope) k v||decide (v<(outs b scope).length)&&mu (outs b scope) (zi4 b scope) k v)=zwA (outs b scope) (zi4 b scope) (k+1) v from by rw[e1 v hv,zwS],zxm e1]
   ·simp
   ·rw[zaj];dsimp only;have hcl:(comp (outs b scope) (zi4 b scope) k).length<=(outs b scope).length:=yAo (yA0 _ _) (by simp);rw[K.h65 _ (by rw[zxl];omega),zaa,zyb];dsimp only
    rw[show (List.range (outs b scope).length).filter (mu (outs b scope) (zi4 b scope) k)=comp (outs b scope) (zi4 b scope) k from rfl,za2,zxb,
     show decide ((1:Int)<(((comp (outs b scope) (zi4 b scope) k).length:Nat):Int))=decide (1<(comp (outs b scope) (zi4 b scope) k).length) from by rw[yBC];simp;omega]
    by_cases h1:1<(comp (outs b scope) (zi4 b scope) k).length;·have hcy:=zxT b (outs b scope) (zi4 b scope) k;rw[decide_eq_true h1,zac,K.h64 b scope _ hb (λi hi=>by rw[<-w3];exact yBa.mp (yAO.mp hi).1) (by omega),zaa,zbc (by simp only[yAw,List.length_nil,lim];omega),zaa,zaj,if_pos ⟨hf,h1⟩]
    ·rw[decide_eq_false h1,zab,zaj,if_neg λh=>h1 h.2]
 ·refine ⟨_,?_,rfl⟩;dsimp only;rw[show decide ((((outs b scope).length:Nat):Int)<(((outs b scope).length:Nat):Int))=false from by simp,zab]
 ·subst hz;exact ⟨(),rfl,trivial⟩
end Pe.Tryz
end
section
/- The two sorts that the search asks for. -/
set_option maxRecDepth 100000
namespace Pe.Tryz
open Bfs Tj
def srt(l:List Nat):List Nat:=((ofN l).mergeSort λx y=>decide (x<=y)).map Int.toNat
theorem zxA(l:List Nat):ofN (srt l)=(ofN l).mergeSort λx y=>decide (x<=y):=by
 have h:∀x∈(ofN l).mergeSort λx y=>decide (x<=y),((x.toNat:Nat):Int)=x:=λx hx=>by have:=(List.mergeSort_perm (ofN l) λx y=>decide (x<=y)).mem_iff.1 hx;unfold ofN at this;rw[yBw] at this;obtain ⟨k, -,rfl⟩:=this;rfl
 unfold srt;generalize (ofN l).mergeSort (λx y=>decide (x<=y))=m at h;unfold ofN;rw[List.map_map];exact (List.map_congr_left (g:=id) h).trans (List.map_id m)
theorem zyl(l:List Nat)(hl:l.Nodup):(∀v,v∈srt l↔v∈l)/\(srt l).Pairwise (· < ·):=by
 have hp:(ofN (srt l)).Perm (ofN l):=by rw[zxA];exact List.mergeSort_perm _ _
 have hm:∀(v:Nat)(a:List Nat),(v:Int)∈ofN a↔v∈a:=λv a=>by
  unfold ofN;rw[yBw];constructor
  ·rintro ⟨k,h1,h2⟩
   have:k=v:=by omega
   exact this▸h1
  ·exact λh=>⟨v,h,rfl⟩
 have hmem:∀v,v∈srt l↔v∈l:=λv=>by rw[<-hm v (srt l),<-hm v l];exact hp.mem_iff
 refine ⟨hmem,?_⟩;have hs:(ofN (srt l)).Pairwise λx y=>decide (x<=y)=true:=by rw[zxA];exact List.pairwise_mergeSort (le:=λx y:Int=>decide (x<=y)) (λa b c h1 h2=>by simp at *;omega) (λa b=>by simp;omega) _
 have hn:(ofN (srt l)).Nodup:=hp.nodup_iff.2 (by unfold ofN;exact List.Pairwise.map _ (λa b h=>by omega) hl);unfold ofN at hs hn;rw[yA6] at hs;rw[List.Nodup,yA6] at hn;exact hs.imp₂ (λa b h1 h2=>by simp at h1;omega) hn
theorem zyi(n:Nat)(l:List Nat)(hl:l.length<=1000000):(zah (n+1)).p 135 (.int .i64) 3 [] (ofN l)=some (ofN (srt l)):=by rw[zxA];refine ((show _=opt1 (zyd (ofN l)) by kernel_rfl).trans (zxE _)).trans ?_;unfold zyd;rw[show Nat.ble (ofN l).length lim=true from by rw[yAK];simp[ofN,lim];omega];rfl
def hdI(l:List Int):Int:=l.headD 0
def cH(x y:List Int):Int:=sgI (hdI x) (hdI y)
theorem zwW(x:Int):sgI x x=0:=by unfold sgI;simp
theorem L138(n:Nat)(x y:Int): @Eq (Option (Int×Unit)) ((zah (n+2)).d 138 [.int .i64 x,.int .i64 y] [(.int .i64)]) (some (sgI x y,())):=(q138 (n+1) x y).trans (s138 n x y)
theorem m93_self(n:Nat){l:List Int}(hl:l.length<=1000000):m93 (zah (n+2)) l l=some (0,()):=by
 unfold m93;refine (zwI (zw0 (λk=>((k:Int),())) l.length (.inl ()) (λk hk=>?_) ?_ rfl)).trans ?_;·dsimp only;rw[show decide ((k:Int)<len l)=true from by simp[len];exact hk,zac,zan hk,zaa,show decide (len l<=(k:Int))=false from by simp[len];omega,zab,zaa,L138,zaa];dsimp only;rw[zwW,show ((0:Int) != 0)=false from rfl,zab,zaf hk (by omega)]
 ·dsimp only;rw[show decide (((l.length:Nat):Int)<len l)=false from by simp[len],zab]
 ·rw[zaj,show decide (len l<len l)=false from by simp,zab]
theorem m93_head(n:Nat){a b:List Int}{x y:Int}(h:x≠y):m93 (zah (n+2)) (x::a) (y::b)=some (sgI x y,()):=by
 unfold m93;have hs:(sgI x y != 0)=true:=by
  unfold sgI;by_cases h1:x<y;·simp[h1]
  ·have h2:y<x:=(by omega);simp[h1,h2]
 refine (zwI (zaD (r:= .inr (sgI x y,())) ?_)).trans (zaU _ _);dsimp only;rw[show decide ((0:Int)<len (x::a))=true from decide_eq_true (show (0:Int)<((a.length+1:Nat):Int) by omega),zac,show at? (x::a) 0=some x from rfl,zaa,show decide (len (y::b)<=0)=false from decide_eq_false (show ¬((b.length+1:Nat):Int)<=0 by omega),zab,show at? (y::b) 0=some y from rfl,zaa,L138,zaa];dsimp only;rw[hs,zac]
theorem zwJ{f:List Nat}{i:Nat}(h:f.head? =some i):hdI (ofN f)=(i:Int):=by
 cases f with
 |nil=>cases h|cons a f=>simp at h;subst h;rfl
theorem zwC{N M:List (List Nat)}(hT:Two N M){f:List Nat}(h:f∈comps N M):∃i,f.head? =some i:=by
 unfold comps at h;rw[yBw] at h;obtain ⟨i,hi,rfl⟩:=h;rw[yAO,yBa] at hi;have:=(hT.mem_comp hi.1).2 (hT.mu_self hi.1);cases hc:comp N M i with
 |nil=>rw[hc] at this;cases this|cons a l=>exact ⟨a,rfl⟩
theorem h92(n:Nat){N M:List (List Nat)}(hT:Two N M)(hN:N.length<=1000000)(F:List (List Nat))(hF:∀f,f∈F↔f∈comps N M)(hA:F.Pairwise λf k=>∀v∈f,v∉k)(hl:F.length<=1000000) :
  (zah (n+4)).p 92 (.sl (.int .i64)) 65 [.func (.func 93) [] []] (za6 F)=some (za6 (comps N M)):=by
 refine ((show _=opt1 (zxs (S:=Sx) (zah (n+3)) 93 (.sl (.int .i64)) (za6 F)) by kernel_rfl).trans (zxE _)).trans ?_;have hhd:∀f∈F,∃i,f.head? =some i:=λf hf=>zwC hT ((hF f).1 hf);have hmem:∀x,x∈za6 F↔∃f∈F,ofN f=x:=λx=>by unfold za6;rw[yBw]
 have hinj:∀f∈F,∀k∈F,hdI (ofN f)=hdI (ofN k)->f=k:=λf hf k hk h=>by
  obtain ⟨i,hi⟩:=hhd f hf;obtain ⟨j,hj⟩:=hhd k hk;rw[zwJ hi,zwJ hj] at h;have hij:i=j:=by omega
  subst hij;have hif:=List.mem_of_head? hi;have hik:=List.mem_of_head? hj;obtain ⟨p,hp,rfl⟩:=List.mem_iff_getElem.1 hf;obtain ⟨q,hq,rfl⟩:=List.mem_iff_getElem.1 hk;have hA2:=yAH.1 hA;rcases yBL p q with e|e|e;·exact absurd hik (hA2 p q hp hq e i hif)
  ·subst e;rfl
  ·exact absurd hif (hA2 q p hq hp e i hik)
 have hcne:∀x∈za6 F,∀y∈za6 F,hdI x=hdI y->x=y:=λx hx y hy h=>by obtain ⟨f,hf,rfl⟩:=(hmem x).1 hx;obtain ⟨k,hk,rfl⟩:=(hmem y).1 hy;rw[hinj f hf k hk h]
 have hsg:∀a b:Int,sgI a b<0↔a<b:=λa b=>by
  unfold sgI;by_cases h1:a<b;·simp[h1]
  ·by_cases h2:b<a<;>simp[h1,h2]
 have hlen:∀f∈F,f.length<=1000000:=λf hf=>by have:=(zw4 ((hF f).1 hf)).1;omega
 refine zxO (S:=Sx) (u:= .sl (.int .i64)) (c:=cH) (λx hx y hy=>?_) ⟨λx _=>?_,λx _ y _ z _ h1 h2=>?_,λx hx y hy h1 h2=>?_⟩ (by show (F.map ofN).length<=4294967296;rw[yBi];omega) ?_
 ·refine (q93 (n+2) x y).trans ?_;obtain ⟨f,hf,rfl⟩:=(hmem x).1 hx;obtain ⟨k,hk,rfl⟩:=(hmem y).1 hy;unfold cH;by_cases e:hdI (ofN f)=hdI (ofN k);·rw[hinj f hf k hk e,zwW,m93_self n (by simp[ofN];exact hlen k hk)]
  ·obtain ⟨i,hi⟩:=hhd f hf;obtain ⟨j,hj⟩:=hhd k hk;cases f with
   |nil=>cases hi|cons a f=>cases k with
     |nil=>cases hj|cons b k=>exact m93_head n e
 ·unfold cH;rw[zwW];omega
 ·unfold cH at *;rw[hsg] at *;omega
 ·unfold cH at *;rw[hsg] at *;exact hcne x hx y hy (by omega)
 ·have hn1:F.Nodup:=hA.imp_of_mem λ{a b} ha hb h e=>by
   obtain ⟨i,hi⟩:=hhd a ha;have:=List.mem_of_head? hi;exact h i this (e▸this)
  have hn2:(comps N M).Nodup:=hT.comps_asc.imp_of_mem λ{a b} ha hb h e=>by obtain ⟨i,hi⟩:=zwC hT ha;have:=h i i hi (e▸hi);omega
  have hp:(comps N M).Perm F:=(List.perm_ext_iff_of_nodup hn2 hn1).2 λf=>(hF f).symm;refine zwV ⟨λx _=>?_,λx _ y _ z _ h1 h2=>?_,λx hx y hy h1 h2=>?_⟩ (hp.map ofN) ?_;·unfold cH;rw[zwW];omega
  ·unfold cH at *;rw[hsg] at *;omega
  ·unfold cH at *;rw[hsg] at *;exact hcne x hx y hy (by omega)
  ·show ((comps N M).map ofN).Pairwise λx y=>¬cH y x<0;rw[yA6];refine hT.comps_asc.imp_of_mem λ{a b} ha hb h=>?_;obtain ⟨i,hi⟩:=zwC hT ha;obtain ⟨j,hj⟩:=zwC hT hb;have:=h i j hi hj;unfold cH;rw[hsg,zwJ hi,zwJ hj];omega
end Pe.Tryz
end
section
/- Reached, Levels and Cycles: the law. -/
set_option maxRecDepth 100000
namespace Pe.Tryz
open Go Go.Proofs Pe Pe.Bfs Tj
noncomputable def zwQ(b:Gt.Bill)(scope:Int):Int:=if zfo b≠0 then zfo b else if zeT scope=true then 9 else 0
theorem zxJ{b:Gt.Bill}{scope:Int}(h:zwQ b scope=0):zfo b=0/\zeT scope=false:=by
 unfold zwQ at h;split at h;·rename_i h1;exact absurd h h1
 ·rename_i h1;split at h;·cases h
  ·rename_i h2;exact ⟨by simpa using h1,by simpa using h2⟩
theorem G79{n:Nat}(hn:151<=n){b:Gt.Bill}(hb:SmB b)(scope:Int) :
  (zwQ b scope=0-> @Eq (Option (Gt.Gf×Int×Unit)) ((zah n).d 79 [.st 3 b,.int .i64 scope] [(.st 14),(.int .i64)]) (some (zc3 b scope,0,()))) /\
  (zwQ b scope≠0->∃g,@Eq (Option (Gt.Gf×Int×Unit)) ((zah n).d 79 [.st 3 b,.int .i64 scope] [(.st 14),(.int .i64)]) (some (g,zwQ b scope,()))):=by
 obtain ⟨n,rfl⟩:∃k,n=k+1:=⟨n - 1,by omega⟩;have hm:=m79_eq' (n:=n) (by omega) hb scope;have q: @Eq (Option (Gt.Gf×Int×Unit)) ((zah (n+1)).d 79 [.st 3 b,.int .i64 scope] [(.st 14),(.int .i64)]) (m79 (zah n) b scope):=q79 n b scope;rw[q];constructor;·intro h;obtain ⟨h1,h2⟩:=zxJ h;exact hm.1 h1 h2
 ·intro h;by_cases h1:zfo b=0
  ·by_cases h2:zeT scope=true;·rw[show zwQ b scope=9 from by unfold zwQ;rw[if_neg (by simpa using h1),if_pos h2]];exact hm.2.1 h1 h2
   ·exact absurd (by unfold zwQ;rw[if_neg (by simpa using h1),if_neg h2]) h
  ·rw[show zwQ b scope=zfo b from by unfold zwQ;rw[if_pos h1]];exact hm.2.2 h1
theorem G63{n:Nat}(hn:200<=n){b:Gt.Bill}(hb:SmB b)(scope:Int): @Eq (Option (Int×Unit)) ((zah n).d 63 [.st 3 b,.int .i64 scope,.sl .str []] [(.int .i64)]) (some (zwQ b scope,())):=by
 obtain ⟨n,rfl⟩:∃k,n=k+1:=⟨n - 1,by omega⟩;have hr2:(bif decide (scope<1) then true else decide (4<scope))=zeT scope:=by unfold zeT;cases decide (scope<1)<;>rfl
 refine (q63 n b scope []).trans ?_;unfold m63 zwQ;rw[show @Eq (Option (Int×Unit)) ((zah n).d 54 [.st 3 b] [(.int .i64)]) (some (zfo b,())) from L54 (by omega) hb,zaa];dsimp only;by_cases h1:zfo b=0
 ·rw[if_neg (by simpa using h1),h1,show ((0:Int) != 0)=false from rfl,zab,zai,zaa,hr2];by_cases h2:zeT scope=true;·rw[if_pos h2,h2,zac]
  ·rw[if_neg h2,show zeT scope=false from by simpa using h2,zab];exact (zwI (zaD (r:= .inl ()) rfl)).trans (zaj _ _)
 ·rw[if_pos h1,show (zfo b != 0)=true from by simpa using h1,zac]
noncomputable def zwH(b:Gt.Bill)(scope:Int):List Nat:=(List.range b.components.length).filter λk=>decide (0<=dAt (zgb b scope) k)
theorem m75_eq'(orc:Orc Sx){d:List Int}(hd:d.length<=1000000):m75 orc d=some (ofN ((List.range d.length).filter λk=>decide (0<=dAt d k)),()):=by
 unfold m75;rw[zeF (f:=_) (List.range d.length) (λk=>if decide (0<=dAt d k)=true then some (k:Int) else none) (λa=>(.inl (a,()):(List Int×Unit)⊕(List Int×Unit))) (λk hk a ha=>?_) (λa=>?_)];·rw[zaj,zfV λk=>decide (0<=dAt d k)]
 ·have hk':k<d.length:=by simpa using hk
  dsimp only;rw[yBc,show decide ((k:Int)<len d)=true from by simp[len];exact hk',zac,zoi hk',zaa,zaf hk' (by omega)];cases decide (0<=dAt d k) with
  |false=>rfl|true=>rw[zac,zbc (by simp[lim];omega),zaa];rfl
 ·dsimp only;rw[yBe,show decide (((d.length:Nat):Int)<len d)=false from by simp[len],zab]
theorem zxW(n:Nat)(l:List Int)(hl:l.length<=1000000): @Eq (Option (Bool×Unit)) ((zah (n+1)).d 51 [.sl (.int .i64) l,.sl (.int .i64) l] [.bool]) (some (true,())):=by
 refine (q51 n l l).trans ?_;unfold m51;rw[show (len l != len l)=false from by simp,zab];refine (zwI (zw0 (λk=>((k:Int),())) l.length (.inl ()) (λk hk=>?_) ?_ rfl)).trans (zaj _ _);·dsimp only;rw[show decide ((k:Int)<len l)=true from by simp[len];exact hk,zac,zan hk,zaa,zaa,show (l[k] != l[k])=false from by simp,zab,zaf hk (by omega)]
 ·dsimp only;rw[show decide (((l.length:Nat):Int)<len l)=false from by simp[len],zab]
theorem zxX(n:Nat)(l:List (List (List UInt8)))(hl:l.length<=1000000)(hs:∀x∈l,x.length<=1000000): @Eq (Option (Bool×Unit)) ((zah (n+2)).d 31 [.sl (.sl .str) l,.sl (.sl .str) l] [.bool]) (some (true,())):=by
 refine (q31 (n+1) l l).trans ?_;unfold m31;rw[show (len l != len l)=false from by simp,zab];rw[show ∀K:Bool×Unit->Option (Bool×Unit),∀x:Option (Bool×Unit),x=some (true,())->ob x K=K (true,()) from λK x h=>by rw[h];rfl];refine (zwI (zw0 (λk=>((k:Int),())) l.length (.inl ()) (λk hk=>?_) ?_ rfl)).trans (zaj _ _);·dsimp only;rw[show decide ((k:Int)<len l)=true from by simp[len];exact hk,zac,zan hk,zaa,zaa,show @Eq (Option (Bool×Unit)) ((zah (n+1)).d 18 [.sl .str l[k],.sl .str l[k]] [.bool]) (some (true,())) from (q18 n _ _).trans (m18_same _ _ (hs _ (yAy hk))),zaa];dsimp only;rw[show (!true)=false from rfl,zab,zaf hk (by omega)]
 ·dsimp only;rw[show decide (((l.length:Nat):Int)<len l)=false from by simp[len],zab]
theorem L11{n:Nat}(hn:4000<=n){b:Gt.Bill}(hb:SmB b)(scope:Int):m11 (zah n) b scope=some (true,()):=by
 obtain ⟨n,rfl⟩:∃k,n=k+4000:=⟨n - 4000,by omega⟩;have K:=grO (n:=n+3999) (by omega) hb;have same:∀l:List (List UInt8),l.length<=1000000-> @Eq (Option (Bool×Unit)) ((zah (n+4000)).d 18 [.sl .str l,.sl .str l] [.bool]) (some (true,())):=λl hl=>(q18 (n+3999) _ _).trans (m18_same _ _ hl);have h63:=G63 (n:=n+3999) (by omega) hb scope;have h79:=G79 (n:=n+3999) (by omega) hb scope;have e39: @Eq (Option (List (List UInt8)×Int×Unit)) ((zah (n+4000)).d 39 [.st 3 b,.int .i64 scope] [(.sl .str),(.int .i64)]) (m39 (zah (n+3999)) b scope):=q39 _ _ _;have e46: @Eq (Option (List (List UInt8)×Int×Unit)) ((zah (n+4000)).d 46 [.st 3 b,.int .i64 scope] [(.sl .str),(.int .i64)]) (m46 (zah (n+3999)) b scope):=q46 _ _ _;have e47: @Eq (Option (List Int×Int×Unit)) ((zah (n+4000)).d 47 [.st 3 b,.int .i64 scope] [(.sl (.int .i64)),(.int .i64)]) (m47 (zah (n+3999)) b scope):=q47 _ _ _;have e48: @Eq (Option (List Int×Int×Unit)) ((zah (n+4000)).d 48 [.st 3 b,.int .i64 scope] [(.sl (.int .i64)),(.int .i64)]) (m48 (zah (n+3999)) b scope):=q48 _ _ _;have e49: @Eq (Option (List (List (List UInt8))×Int×Unit)) ((zah (n+4000)).d 49 [.st 3 b,.int .i64 scope] [(.sl (.sl .str)),(.int .i64)]) (m49 (zah (n+3999)) b scope):=q49 _ _ _;have e50: @Eq (Option (List (List (List UInt8))×Int×Unit)) ((zah (n+4000)).d 50 [.st 3 b,.int .i64 scope] [(.sl (.sl .str)),(.int .i64)]) (m50 (zah (n+3999)) b scope):=q50 _ _ _;unfold m11;rw[e39,e46,e47,e48,e49,e50];by_cases he:zwQ b scope=0
 ·have hR:=zeo (zxJ he).1;obtain ⟨w1,w2,w3,w4,w5⟩:=hR.web scope;have hrt:=(hR.num_lt hR.root).1;have hnn:=hR.n;have h79:=h79.1 he;rw[he] at h63;have hla:(zgb b scope).length=b.components.length:=hR.dist_len scope (-1);have hrn:(zwH b scope).length<=b.components.length:=by unfold zwH;exact yAo (yA0 _ _) (by simp)
  have hri:∀i∈zwH b scope,i<b.components.length:=λi hi=>yBa.1 (yAO.1 hi).1;have r39:m39 (zah (n+3999)) b scope=some (zbd b (zwH b scope),0,()):=by unfold m39;rw[h79,zaa];dsimp only;rw[show ((0:Int) != 0)=false from rfl,zab,show (zc3 b scope).root=(num b b.root:Int) from rfl,show (zc3 b scope).out=za6 (outs b scope) from rfl,K.h58 _ _ _ w1 (by rw[w3];exact hrt),zaa];dsimp only;rw[show zeI (outs b scope) (num b b.root) (-1)=zgb b scope from rfl,show @Eq (Option (List Int×Unit)) ((zah (n+3999)).d 75 [.sl (.int .i64) (zgb b scope)] [(.sl (.int .i64))]) (some (ofN (zwH b scope),())) from (q75 (n+3998) _).trans (by rw[m75_eq' _ (by omega),hla];rfl),zaa];dsimp only;rw[K.h59 b scope _ hR hri (by omega),zaa]
  have r46:m46 (zah (n+3999)) b scope=some (zbd b (zwH b scope),0,()):=by
   unfold m46;rw[h63,zaa];dsimp only;rw[show ((0:Int) != 0)=false from rfl,zab,K.h60 b scope hR,zaa];dsimp only;rw[show (zpQ b scope).root=(num b b.root:Int) from rfl,K.h61 b scope _ (-1) hR hrt,zaa];dsimp only
   rw[show zeI (outs b scope) (num b b.root) (-1)=zgb b scope from rfl,K.h65 _ (by rw[zpb];omega),zaa,
    show zyg (inD (zgb b scope))=zwH b scope from by unfold zyg zwH;rw[zpb,hla];refine List.filter_congr λk hk=>?_;have hk:=yBa.1 hk;have h1:(inD (zgb b scope))[k]?=some (decide (0<=dAt (zgb b scope) k)):=zh2 (by omega);rw[yAj,h1];rfl]
   dsimp only;rw[K.h64 b scope _ hR hri (by omega),zaa]
  have r47:m47 (zah (n+3999)) b scope=some (zgb b scope,0,()):=by unfold m47;rw[h79,zaa];dsimp only;rw[show ((0:Int) != 0)=false from rfl,zab,show (zc3 b scope).root=(num b b.root:Int) from rfl,show (zc3 b scope).out=za6 (outs b scope) from rfl,K.h58 _ _ _ w1 (by rw[w3];exact hrt),zaa];rfl
  have r48:m48 (zah (n+3999)) b scope=some (zgb b scope,0,()):=by unfold m48;rw[h63,zaa];dsimp only;rw[show ((0:Int) != 0)=false from rfl,zab,K.h60 b scope hR,zaa];dsimp only;rw[show (zpQ b scope).root=(num b b.root:Int) from rfl,show (zpQ b scope).to=za6 (outs b scope) from rfl,K.h71 _ _ w1 (by rw[w3];exact hrt),zaa];rfl
  have r49:m49 (zah (n+3999)) b scope=some (zxx b scope,0,()):=by refine m49_eq' K hR scope h79 (λs i hp=>?_) λF hF hA hl=>h92 (n+3995) (hR.two scope) (by omega) F hF hA hl;exact visN _ _ _ _ _ _ _ _ zah srt q91 (λn l hl=>zyi n l hl) zyl w1 (outs b scope).length (n+3999) [] s i (Nat.sub_le _ _) (by omega) hp
  have r50:m50 (zah (n+3999)) b scope=some (zxx b scope,0,()) :=
   m50_eq' K hR scope h63 λf hf=>(q61 (n+3998) _ _ _).trans (m61_dist _ rfl (by simp[zbr,w4]) w2 (by omega))
  have hcl:(zxx b scope).length<=1000000:=by unfold zxx;rw[yBi];have h1:=yA0 (λl:List Nat=>decide (1<l.length)) (comps (outs b scope) (zi4 b scope));have h2:=zxc (outs b scope) (zi4 b scope);omega
  have hcs:∀x∈zxx b scope,x.length<=1000000:=λx hx=>by unfold zxx at hx;rw[yBw] at hx;obtain ⟨l,hl,rfl⟩:=hx;have:=(zw4 (yAO.1 hl).1).1;unfold zbd;rw[yBi];omega
  rw[r39,r46,r47,r48,r49,r50];simp only[zaa];rw[same _ (by unfold zbd;rw[yBi];omega),zxW (n+3999) _ (by omega),zxX (n+3998) _ hcl hcs,L19 (by omega)];rfl
 ·have hne:(zwQ b scope != 0)=true:=by simpa using he
  obtain ⟨g,hg⟩:=h79.2 he;have r39:m39 (zah (n+3999)) b scope=some ([],zwQ b scope,()):=by unfold m39;rw[hg,zaa];dsimp only;rw[hne,zac]
  have r47:m47 (zah (n+3999)) b scope=some ([],zwQ b scope,()):=by unfold m47;rw[hg,zaa];dsimp only;rw[hne,zac]
  have r49:m49 (zah (n+3999)) b scope=some ([],zwQ b scope,()):=by unfold m49;rw[hg,zaa];dsimp only;rw[hne,zac]
  have r46:m46 (zah (n+3999)) b scope=some ([],zwQ b scope,()):=by unfold m46;rw[h63,zaa];dsimp only;rw[hne,zac]
  have r48:m48 (zah (n+3999)) b scope=some ([],zwQ b scope,()):=by unfold m48;rw[h63,zaa];dsimp only;rw[hne,zac]
  have r50:m50 (zah (n+3999)) b scope=some ([],zwQ b scope,()):=by unfold m50;rw[h63,zaa];dsimp only;rw[hne,zac]
  rw[r39,r46,r47,r48,r49,r50];simp only[zaa];rw[same [] (by decide),zxW (n+3999) [] (by decide),zxX (n+3998) [] (by decide) (λx hx=>by cases hx),L19 (by omega),show (zwQ b scope==zwQ b scope)=true from by simp];rfl
end Pe.Tryz
end
