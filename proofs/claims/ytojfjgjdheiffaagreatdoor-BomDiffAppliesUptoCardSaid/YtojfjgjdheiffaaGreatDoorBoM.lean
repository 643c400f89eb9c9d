/- PROVED HERE: a part of the seat's proofs; see the text that holds the claim's theorem. -/
import Derived.Test.YtojfjgjdheiffaaGreatDoorNm
import Derived.Test.YtojfjgjdheiffaaGreatDoorBoK
section
/- The difference of two bills in plain, and that applying it gives the other bill. -/
set_option maxRecDepth 100000
namespace Pe
def dif{α γ:Type}(lt:α->α->Bool)(g n:α->γ)(o:α->α->List γ):List α->List α->List γ|[],[]=>[]|x::a,[]=>g x::dif lt g n o a []|[],y::b=>n y::dif lt g n o [] b|x::a,y::b=>bif lt x y then g x::dif lt g n o a (y::b) else bif lt y x then n y::dif lt g n o (x::a) b else o x y++dif lt g n o a b
termination_by a b=>a.length+b.length
namespace Tryz
open Go Go.Proofs Pe Pe.Bfs
def zvO(x:Gt.Component):Gt.BillChange:=Gt.BillChange.mk 2 x.ref [] [] []
def zvZ(k:Int)(x:Gt.Component):Gt.BillChange:=Gt.BillChange.mk k x.ref [] [x] []
def zvR(x:Gt.Edge):Gt.BillChange:=Gt.BillChange.mk 5 [] [] [] [x]
def zwk(x:Gt.Edge):Gt.BillChange:=Gt.BillChange.mk 6 [] [] [] [x]
def zv3(r t:List UInt8):Gt.BillChange:=Gt.BillChange.mk 1 r t [] []
open Classical in
noncomputable def zwg(x y:Gt.Component):List Gt.BillChange:=if x=y then [] else [zvZ 4 y]
noncomputable def zvB:List Gt.Component->List Gt.Component->List Gt.BillChange:=dif (λx y=>decide (x.ref<y.ref)) zvO (zvZ 3) zwg
noncomputable def zvC:List Gt.Edge->List Gt.Edge->List Gt.BillChange:=dif (λx y=>decide (zpV x y<0)) zvR zwk λ_ _=>[]
def zvx(r x y:List UInt8):List Gt.BillChange:=bif x==y then [] else [zv3 r y]
noncomputable def zvG(a b:Gt.Bill):List Gt.BillChange:=zvx ztB a.name b.name++(zvx ztA a.version b.version++(zvx ztG a.root b.root++(zvB a.components b.components++zvC a.edges b.edges)))
theorem zv7{c:Gt.BillChange}(h1:1<=c.kind)(h2:c.kind<=6)(hf:ztn c=true):zue c=0:=by unfold zue zum;rw[decide_eq_false (by omega),cond_false,decide_eq_false (by omega),cond_false,hf];rfl
theorem zvH{b:Gt.Bill}{c:Gt.BillChange}(h1:1<=c.kind)(h2:c.kind<=6)(hf:ztn c=true):chg b c=bif c.kind==1 then (ztD b c,0) else bif decide (c.kind<=4) then zvc b c else zuE b c:=by unfold Tryz.chg;rw[zv7 h1 h2 hf];rfl
theorem zvw{c:Gt.BillChange}{t:List Gt.BillChange}{k:Nat}{b b':Gt.Bill}(h:chg b c=(b',0)):apl (c::t) k b=apl t (k+1) b':=by
 conv=>lhs;unfold apl
 rw[h];rfl
theorem zwl{r:List UInt8}(h:r≠[]):(!(r==[]))=true:=by simpa using h
theorem zwf{p a:List Gt.Component}{x:Gt.Component}{r:List UInt8}(h:(p++x::a).Pairwise rC)(hr:x.ref=r):pC (p++x::a) r=p.length/\inC (p++x::a) r=true:=by refine ⟨(zuZ h (k:=p.length) (by simp) (by simpa using hr)).symm,yBd.2 ⟨x,by simp,by simpa using hr⟩⟩
theorem zwr{p a:List Gt.Component}{r:List UInt8}(h1:∀z∈p,z.ref<r)(h2:∀z∈a,r<z.ref):pC (p++a) r=p.length/\inC (p++a) r=false:=by
 constructor
 ·unfold pC;rw[List.findIdx_append];have e1:p.findIdx (λx=> !decide (x.ref<r))=p.length:=List.findIdx_eq_length.2 λz hz=>by simpa using h1 z hz
  rw[e1,if_neg (Nat.lt_irrefl _)];cases a with
  |nil=>simp|cons z a =>have:=List.lt_asymm (h2 z (by simp));rw[List.findIdx_cons];simp[this]
 ·cases hi:inC (p++a) r with
  |false=>rfl|true =>
    obtain ⟨z,hz,he⟩:=yBd.1 hi;have he:z.ref=r:=by simpa using he
    rcases yAp.1 hz with hz|hz;·have:=h1 z hz;rw[he] at this;exact absurd this (yBn _)
    ·have:=h2 z hz;rw[he] at this;exact absurd this (yBn _)
theorem zv6{B:Gt.Bill}{p a:List Gt.Component}{x:Gt.Component}(h:(p++x::a).Pairwise rC)(hx:x.ref≠[]):chg (mkC B (p++x::a)) (zvO x)=(mkC B (p++a),0):=by obtain ⟨e1,e2⟩:=zwf h rfl;rw[zvH (c:=zvO x) (show 1<=(2:Int) from by decide) (show (2:Int)<=6 from by decide) (by show ((((!(x.ref==[]))&&true)&&true)&&true)=true;rw[zwl hx];rfl)];show zvc (mkC B (p++x::a)) (zvO x)=_;unfold zvc;show (bif !inC (p++x::a) x.ref then (mkC B (p++x::a),4) else (mkC B ((p++x::a).eraseIdx (pC (p++x::a) x.ref)),0))=(mkC B (p++a),(0:Int));rw[e2,e1,List.eraseIdx_append_of_length_le (yAi _),Nat.sub_self];rfl
theorem zwd{B:Gt.Bill}{p a:List Gt.Component}{y:Gt.Component}(h1:∀z∈p,z.ref<y.ref)(h2:∀z∈a,y.ref<z.ref)(hy:y.ref≠[]):chg (mkC B (p++a)) (zvZ 3 y)=(mkC B (p++[y]++a),0):=by obtain ⟨e1,e2⟩:=zwr h1 h2;rw[zvH (c:=zvZ 3 y) (show 1<=(3:Int) from by decide) (show (3:Int)<=6 from by decide) (by show ((((!(y.ref==[]))&&true)&&true)&&true)=true;rw[zwl hy];rfl)];show zvc (mkC B (p++a)) (zvZ 3 y)=_;unfold zvc;show (bif inC (p++a) y.ref then (mkC B (p++a),5) else bif y.ref==y.ref then (mkC B ((p++a).take (pC (p++a) y.ref)++[y]++(p++a).drop (pC (p++a) y.ref)),0) else (mkC B (p++a),2))=(mkC B (p++[y]++a),(0:Int));rw[e2,e1,yBr,yBy,show (y.ref==y.ref)=true from by simp];rfl
theorem zwb{B:Gt.Bill}{p a:List Gt.Component}{x y:Gt.Component}(h:(p++x::a).Pairwise rC)(hr:x.ref=y.ref)(hy:y.ref≠[]):chg (mkC B (p++x::a)) (zvZ 4 y)=(mkC B (p++[y]++a),0):=by obtain ⟨e1,e2⟩:=zwf h hr;rw[zvH (c:=zvZ 4 y) (show 1<=(4:Int) from by decide) (show (4:Int)<=6 from by decide) (by show ((((!(y.ref==[]))&&true)&&true)&&true)=true;rw[zwl hy];rfl)];show zvc (mkC B (p++x::a)) (zvZ 4 y)=_;unfold zvc;show (bif !inC (p++x::a) y.ref then (mkC B (p++x::a),4) else bif y.ref==y.ref then (mkC B ((p++x::a).set (pC (p++x::a) y.ref) y),0) else (mkC B (p++x::a),2))=(mkC B (p++[y]++a),(0:Int));rw[e2,e1,show (y.ref==y.ref)=true from by simp,List.set_append_right _ _ (yAi _),Nat.sub_self];show (mkC B (p++y::a),(0:Int))=_;rw[yA5];rfl
theorem zv1{x y:Gt.Component}(h1:¬x.ref<y.ref)(h2:¬y.ref<x.ref):x.ref=y.ref:=zly.eq _ _ (by rw[zc4];exact h1) (by rw[zc4];exact h2)
theorem zvD{α:Type}{R:α->α->Prop}{p a:List α}{x:α}(h:(p++x::a).Pairwise R):(∀z∈p,R z x)/\(∀z∈a,R x z)/\(p++a).Pairwise R/\(p++[x]++a).Pairwise R:=by refine ⟨λz hz=>(List.pairwise_append.1 h).2.2 z hz x (by simp),λz hz=>(yBU.1 (List.pairwise_append.1 h).2.1).1 z hz,h.sublist (by simp),by rw[yA5];exact h⟩
theorem apl_C(B:Gt.Bill)(rest:List Gt.BillChange):∀(n:Nat)(a b p:List Gt.Component)(k:Nat),a.length+b.length<=n->(p++a).Pairwise rC->(p++b).Pairwise rC->(∀x∈a,x.ref≠[])->(∀x∈b,x.ref≠[]) ->
  ∃k',apl (zvB a b++rest) k (mkC B (p++a))=apl rest k' (mkC B (p++b)):=by
 intro n;induction n with
 |zero =>intro a b p k h0 _ _ _ _;obtain rfl:a=[]:=yAU.1 (by omega);obtain rfl:b=[]:=yAU.1 (by omega);refine ⟨k,?_⟩;unfold zvB;rw[dif];rfl
 |succ n ih =>
   intro a b p k h0 ha hb na nb;have gone:∀x a',a=x::a'->zvB a b=zvO x::zvB a' b->∃k',apl (zvB a b++rest) k (mkC B (p++a))=apl rest k' (mkC B (p++b)):=λx a' e h=>by subst e;simp only[yAw] at h0;obtain ⟨k',hk⟩:=ih a' b p (k+1) (by omega) (zvD ha).2.2.1 hb (λz hz=>na z (by simp[hz])) nb;exact ⟨k',by rw[h,yA3,zvw (zv6 ha (na x (by simp)))];exact hk⟩
   have new:∀y b',b=y::b'->(∀z∈a,y.ref<z.ref)->zvB a b=zvZ 3 y::zvB a b'->∃k',apl (zvB a b++rest) k (mkC B (p++a))=apl rest k' (mkC B (p++b)):=λy b' e hya h=>by subst e;simp only[yAw] at h0;obtain ⟨m1,m2,m3,m4⟩:=zvD hb;obtain ⟨k',hk⟩:=ih a b' (p++[y]) (k+1) (by omega) (zuf (p:=p.length) (l:=p++a) ha (by rw[yBr];exact m1) (by rw[yBy];exact hya) |> λh=>by rwa[yBr,yBy] at h) m4 na (λz hz=>nb z (by simp[hz]));refine ⟨k',?_⟩;rw[h,yA3,zvw (zwd m1 hya (nb y (by simp))),hk,yA5];rfl
   cases a with
   |nil =>
     cases b with
     |nil=>exact ⟨k,by unfold zvB;rw[dif];rfl⟩|cons y b=>exact new y b rfl (λz hz=>by cases hz) (by unfold zvB;rw[dif])
   |cons x a =>
     cases b with
     |nil=>exact gone x a rfl (by unfold zvB;rw[dif])|cons y b =>
       have e:zvB (x::a) (y::b)=bif decide (x.ref<y.ref) then zvO x::zvB a (y::b) else bif decide (y.ref<x.ref) then zvZ 3 y::zvB (x::a) b else zwg x y++zvB a b:=(by unfold zvB;rw[dif]);cases h1:decide (x.ref<y.ref) with
       |true=>exact gone x a rfl (by rw[e,h1];rfl)|false =>
         cases h2:decide (y.ref<x.ref) with
         |true =>
           have h2':=of_decide_eq_true h2;refine new y b rfl (λz hz=>?_) (by rw[e,h1,h2];rfl);rcases yAm.1 hz with rfl|hz;·exact h2'
           ·exact yCa h2' ((zvD ha).2.1 z hz)
         |false =>
           have hr:=zv1 (of_decide_eq_false h1) (of_decide_eq_false h2);simp only[yAw] at h0;have hs:(p++[y]++a).Pairwise rC:=by
            have:=(zvD ha).2.2.2;rw[yA5,List.pairwise_append] at this ⊢;obtain ⟨q1,q2,q3⟩:=this;obtain ⟨q4,q5⟩:=yBU.1 q2;refine ⟨q1,yBU.2 ⟨λz hz=>?_,q5⟩,λu hu v hv=>?_⟩;·have:=q4 z hz;unfold rC at this ⊢;rw[<-hr];exact this
            ·rcases yAm.1 hv with rfl|hv;·have:=q3 u hu x (by simp);unfold rC at this ⊢;rw[<-hr];exact this
             ·exact q3 u hu v (yB6 _ hv)
           have tl:p++[y]++b=p++y::b:=(by rw[yA5];rfl);rw[e,h1,h2,cond_false,cond_false];unfold zwg;by_cases hxy:x=y;·subst hxy;obtain ⟨k',hk⟩:=ih a b (p++[x]) k (by omega) hs (by rw[tl];exact hb) (λz hz=>na z (by simp[hz])) (λz hz=>nb z (by simp[hz]));refine ⟨k',?_⟩;rw[if_pos rfl,yBb];rw[tl,yA5] at hk;exact hk
           ·obtain ⟨k',hk⟩:=ih a b (p++[y]) (k+1) (by omega) hs (by rw[tl];exact hb) (λz hz=>na z (by simp[hz])) (λz hz=>nb z (by simp[hz]));refine ⟨k',?_⟩;rw[if_neg hxy,yA5,List.singleton_append,zvw (zwb ha hr (nb y (by simp))),hk,tl]
theorem zwp{p a:List Gt.Edge}{x:Gt.Edge}(h:(p++x::a).Pairwise rE):pE (p++x::a) x=p.length/\inE (p++x::a) x=true :=
 ⟨(zuY h (k:=p.length) (by simp) (by simp)).symm,zuz.2 (by simp)⟩
theorem zwq{p a:List Gt.Edge}{r:Gt.Edge}(h1:∀z∈p,rE z r)(h2:∀z∈a,rE r z):pE (p++a) r=p.length/\inE (p++a) r=false:=by
 constructor
 ·unfold pE;rw[List.findIdx_append];have e1:p.findIdx (λx=> !decide (zpV x r<0))=p.length:=List.findIdx_eq_length.2 λz hz=>by simpa[rE] using h1 z hz
  rw[e1,if_neg (Nat.lt_irrefl _)];cases a with
  |nil=>simp|cons z a =>have:=zuk _ _ (h2 z (by simp));unfold rE at this;rw[List.findIdx_cons];simp[this]
 ·cases hi:inE (p++a) r with
  |false=>rfl|true =>
    rcases yAp.1 (zuz.1 hi) with hz|hz;·exact absurd (h1 r hz) (zuU r)
    ·exact absurd (h2 r hz) (zuU r)
theorem zv5{B:Gt.Bill}{p a:List Gt.Edge}{x:Gt.Edge}(h:(p++x::a).Pairwise rE):chg (mkE B (p++x::a)) (zvR x)=(mkE B (p++a),0):=by obtain ⟨e1,e2⟩:=zwp h;rw[zvH (show 1<=(5:Int) from by decide) (show (5:Int)<=6 from by decide) rfl];show zuE (mkE B (p++x::a)) (zvR x)=_;unfold zuE;show (bif inE (p++x::a) x then (mkE B ((p++x::a).eraseIdx (pE (p++x::a) x)),0) else (mkE B (p++x::a),4))=(mkE B (p++a),(0:Int));rw[e2,e1,List.eraseIdx_append_of_length_le (yAi _),Nat.sub_self];rfl
theorem zwc{B:Gt.Bill}{p a:List Gt.Edge}{y:Gt.Edge}(h1:∀z∈p,rE z y)(h2:∀z∈a,rE y z):chg (mkE B (p++a)) (zwk y)=(mkE B (p++[y]++a),0):=by obtain ⟨e1,e2⟩:=zwq h1 h2;rw[zvH (show 1<=(6:Int) from by decide) (show (6:Int)<=6 from by decide) rfl];show zuE (mkE B (p++a)) (zwk y)=_;unfold zuE;show (bif inE (p++a) y then (mkE B (p++a),5) else (mkE B ((p++a).take (pE (p++a) y)++[y]++(p++a).drop (pE (p++a) y)),0))=(mkE B (p++[y]++a),(0:Int));rw[e2,e1,yBr,yBy];rfl
theorem zvM{x y:Gt.Edge}(h1:¬zpV x y<0)(h2:¬zpV y x<0):x=y:=Classical.byContradiction λh=>h2 (zuT h1 h)
theorem apl_E(B:Gt.Bill):∀(n:Nat)(a b p:List Gt.Edge)(k:Nat),a.length+b.length<=n->(p++a).Pairwise rE->(p++b).Pairwise rE ->
  apl (zvC a b) k (mkE B (p++a))= .inl (mkE B (p++b)):=by
 intro n;induction n with
 |zero =>intro a b p k h0 _ _;obtain rfl:a=[]:=yAU.1 (by omega);obtain rfl:b=[]:=yAU.1 (by omega);unfold zvC;rw[dif];rfl
 |succ n ih =>
   intro a b p k h0 ha hb;have gone:∀x a',a=x::a'->zvC a b=zvR x::zvC a' b->apl (zvC a b) k (mkE B (p++a))= .inl (mkE B (p++b)):=λx a' e h=>by subst e;simp only[yAw] at h0;rw[h,zvw (zv5 ha)];exact ih a' b p (k+1) (by omega) (zvD ha).2.2.1 hb
   have new:∀y b',b=y::b'->(∀z∈a,rE y z)->zvC a b=zwk y::zvC a b'->apl (zvC a b) k (mkE B (p++a))= .inl (mkE B (p++b)):=λy b' e hya h=>by subst e;simp only[yAw] at h0;obtain ⟨m1,m2,m3,m4⟩:=zvD hb;have:=ih a b' (p++[y]) (k+1) (by omega) (zuf (p:=p.length) (l:=p++a) ha (by rw[yBr];exact m1) (by rw[yBy];exact hya) |> λh=>by rwa[yBr,yBy] at h) m4;rw[h,zvw (zwc m1 hya),this,yA5];rfl
   cases a with
   |nil =>
     cases b with
     |nil=>unfold zvC;rw[dif];rfl|cons y b=>exact new y b rfl (λz hz=>by cases hz) (by unfold zvC;rw[dif])
   |cons x a =>
     cases b with
     |nil=>exact gone x a rfl (by unfold zvC;rw[dif])|cons y b =>
       have e:zvC (x::a) (y::b)=bif decide (zpV x y<0) then zvR x::zvC a (y::b) else bif decide (zpV y x<0) then zwk y::zvC (x::a) b else []++zvC a b:=(by unfold zvC;rw[dif]);cases h1:decide (zpV x y<0) with
       |true=>exact gone x a rfl (by rw[e,h1];rfl)|false =>
         cases h2:decide (zpV y x<0) with
         |true =>
           have h2':zpV y x<0:=of_decide_eq_true h2;have h2':rE y x:=h2';refine new y b rfl (λz hz=>?_) (by rw[e,h1,h2];rfl);rcases yAm.1 hz with rfl|hz;·exact h2'
           ·exact zu4 h2' ((zvD ha).2.1 z hz)
         |false =>
           have hr:=zvM (of_decide_eq_false h1) (of_decide_eq_false h2);subst hr;simp only[yAw] at h0;rw[e,h1];have tl:∀l:List Gt.Edge,p++[x]++l=p++x::l:=λl=>by rw[yA5];rfl
           have:=ih a b (p++[x]) k (by omega) (by rw[tl];exact ha) (by rw[tl];exact hb);rw[tl,tl] at this;exact this
theorem zwo(r x y:List UInt8)(rest:List Gt.BillChange)(b b':Gt.Bill)(k:Nat)(hr:((r==ztB||r==ztA)||r==ztG)=true)(h:x≠y->ztD b (zv3 r y)=b')(h':x=y->b'=b):∃k',apl (zvx r x y++rest) k b=apl rest k' b':=by
 unfold zvx;cases hb:x==y with
 |true=>exact ⟨k,by rw[h' (by simpa using hb)];rfl⟩|false =>have hb:x≠y:=(by simpa using hb);refine ⟨k+1,?_⟩;show apl (zv3 r y::rest) k b=_;refine zvw ?_;rw[zvH (c:=zv3 r y) (show 1<=(1:Int) from by decide) (show (1:Int)<=6 from by decide) (by show ((true&&true)&&((r==ztB||r==ztA)||r==ztG))=true;rw[hr];rfl)];show (ztD b (zv3 r y),(0:Int))=_;rw[h hb]
theorem zwe{a b:Gt.Bill}(ha:Going 0 a)(hb:Going 0 b)(na:∀x∈a.components,x.ref≠[])(nb:∀x∈b.components,x.ref≠[]):apl (zvG a b) 0 a= .inl b:=by unfold zvG;obtain ⟨k1,e1⟩:=zwo ztB a.name b.name (zvx ztA a.version b.version++(zvx ztG a.root b.root++(zvB a.components b.components++zvC a.edges b.edges))) a (mkH a b.name a.version a.root) 0 (by decide) (λ_=>rfl) (λh=>by rw[<-h];rfl);obtain ⟨k2,e2⟩:=zwo ztA a.version b.version (zvx ztG a.root b.root++(zvB a.components b.components++zvC a.edges b.edges)) (mkH a b.name a.version a.root) (mkH a b.name b.version a.root) k1 (by decide) (λ_=>rfl) (λh=>by rw[<-h]);obtain ⟨k3,e3⟩:=zwo ztG a.root b.root (zvB a.components b.components++zvC a.edges b.edges) (mkH a b.name b.version a.root) (mkH a b.name b.version b.root) k2 (by decide) (λ_=>rfl) (λh=>by rw[<-h]);obtain ⟨k4,e4⟩:=apl_C (mkH a b.name b.version b.root) (zvC a.edges b.edges) _ a.components b.components [] k3 (yAi _) ha.refs hb.refs na nb;rw[e1,e2,e3];refine e4.trans ?_;exact apl_E (mkC (mkH a b.name b.version b.root) ([]++b.components)) _ a.edges b.edges [] k4 (yAi _) ha.edges hb.edges
end Tryz
end Pe
end
section
/- What the functions of a difference answer. -/
set_option maxRecDepth 100000
namespace Pe
noncomputable def eqb{α:Type}(x y:α):Bool:= @decide (x=y) (Classical.propDecidable _)
theorem zvv{α:Type}{x y:α}:eqb x y=true↔x=y:=by unfold eqb;simp
theorem zvK{α:Type}{x y:α}(h:x=y):eqb x y=true:=zvv.2 h
theorem zwa{α:Type}(x:α):eqb x x=true:=zvK rfl
theorem zvF{α:Type}{x y:α}(h:x≠y):eqb x y=false:=Bool.eq_false_iff.2 λk=>h (zvv.1 k)
theorem zv9{α:Type}{f:Int×Unit->Option ((Int×Unit)⊕(Unit⊕(Bool×Unit)))}(a b:List α)(hl:a.length=b.length)
  (h:∀k (h1:k<a.length) (h2:k<b.length),f ((k:Int),())=some (bif eqb a[k] b[k] then .inl (((k+1:Nat):Int),()) else .inr (.inr (false,()))))
  (he:f ((a.length:Int),())=some (.inr (.inl ()))):zaE (zak f ((0:Int),())) (λ_=>some (true,()))=some (eqb a b,()):=by
 have hF:=zb9 (f:=f) a.length (λk=>bif eqb a[k]? b[k]? then 0 else 1) (λ_=>.inr (false,())) (.inl ()) (λk hk _=>?_) he
 ·rw[hF];by_cases hab:a=b
  ·have:ff (λk=>bif eqb a[k]? b[k]? then (0:Int) else 1) a.length=0:=by
    rw[zvU (G:=λ_=>0) λk _=>by rw[zvK (by rw[hab])];rfl];induction a.length with
    |zero=>rfl|succ n ih=>simp[ff,ih]
   rw[this,if_neg (by simp),zaj,zvK hab]
  ·have:ff (λk=>bif eqb a[k]? b[k]? then (0:Int) else 1) a.length≠0:=λh0=>hab (yAW λk=>by
    by_cases hk:k<a.length
    ·have:=zsV h0 hk;cases he:eqb a[k]? b[k]? with
     |true=>exact zvv.1 he|false=>rw[he] at this;cases this
    ·rw[yAZ (by omega),yAZ (by omega)])
   rw[if_pos this,zaU,zvF hab]
 ·rw[h k hk (by omega)];unfold ffS;have e1:a[k]?=some a[k]:=yAe hk;have e2:b[k]?=some (b[k]'(by omega)):=yAe (by omega);by_cases e:a[k]=b[k]'(by omega);·rw[zvK e,zvK (x:=a[k]?) (by rw[e1,e2,e])];rfl
  ·rw[zvF e,zvF (x:=a[k]?) (by rw[e1,e2];simpa using e)];rfl
theorem zvS{α:Type}{f:Int×Unit->Option ((Int×Unit)⊕(Unit⊕(Bool×Unit)))}(a b:List α)
  (h:∀k (h1:k<a.length) (h2:k<b.length),f ((k:Int),())=some (bif eqb a[k] b[k] then .inl (((k+1:Nat):Int),()) else .inr (.inr (false,()))))
  (he:f ((a.length:Int),())=some (.inr (.inl ()))):br (len a != len b) (some (false,())) (zaE (zak f ((0:Int),())) λ_=>some (true,()))=some (eqb a b,()):=by
 by_cases hl:a.length=b.length;·rw[show (len a != len b)=false from by simp[len,hl],zab];exact zv9 a b hl h he
 ·rw[show (len a != len b)=true from by simp[len];omega,zac,zvF λe=>hl (by rw[e])]
theorem zwi{β:Type}{K:Bool->Option β}(x y:Bool):ob (br x (some y) (some false)) K=K (x&&y):=by cases x<;>rfl
theorem zws{β:Type}{K:Bool->Option β}(x y:Bool):ob (br x (some true) (some y)) K=K (x||y):=by cases x<;>rfl
theorem zvE(K:Nat){α γ R:Type}{f:List γ×Int×Int×Unit->Option ((List γ×Int×Int×Unit)⊕((List γ×Unit)⊕R))}{lt:α->α->Bool}{g n:α->γ}{o:α->α->List γ}(A B:List α)(ho:∀x y,(o x y).length<=2)
  (h0:∀out,f (out,(A.length:Int),(B.length:Int),())=some (.inr (.inl (out,()))))
  (h1:∀out k i (hi:i<A.length),out.length<=i+k+K->k=B.length->f (out,(i:Int),(k:Int),())=some (.inl (out++[g A[i]],((i+1:Nat):Int),(k:Int),())))
  (h2:∀out i k (hk:k<B.length),out.length<=i+k+K->i=A.length->f (out,(i:Int),(k:Int),())=some (.inl (out++[n B[k]],(i:Int),((k+1:Nat):Int),())))
  (h3:∀out i k (hi:i<A.length) (hk:k<B.length),out.length<=i+k+K->f (out,(i:Int),(k:Int),())=some (.inl (bif lt A[i] B[k] then (out++[g A[i]],((i+1:Nat):Int),(k:Int),()) else bif lt B[k] A[i] then (out++[n B[k]],(i:Int),((k+1:Nat):Int),()) else (out++o A[i] B[k],((i+1:Nat):Int),((k+1:Nat):Int),())))) :
  ∀(d i k:Nat)(out:List γ),(A.length - i)+(B.length - k)=d->i<=A.length->k<=B.length->out.length<=i+k+K->zak f (out,(i:Int),(k:Int),())=some (.inl (out++dif lt g n o (A.drop i) (B.drop k),())):=by
 intro d;induction d using Nat.strongRecOn with
 |_ d ih =>
   intro i k out hd hi hk ho';by_cases ei:i<A.length
   ·by_cases ek:k<B.length
    ·have hf:=h3 out i k ei ek ho';rw[yAV ei,yAV ek,dif,<-yAV ei,<-yAV ek];cases c1:lt A[i] B[k] with
     |true =>rw[c1] at hf;rw[zaR hf,cond_true,ih _ (by omega) (i+1) k (out++[g A[i]]) rfl (by omega) hk (by simp;omega),yA5];rfl|false =>
       rw[c1] at hf;cases c2:lt B[k] A[i] with
       |true =>rw[c2] at hf;rw[zaR hf,cond_false,cond_true,ih _ (by omega) i (k+1) (out++[n B[k]]) rfl hi (by omega) (by simp;omega),yA5];rfl|false =>rw[c2] at hf;have:=ho A[i] B[k];rw[zaR hf];simp only[cond_false];rw[ih _ (by omega) (i+1) (k+1) (out++o A[i] B[k]) rfl (by omega) (by omega) (by simp;omega),yA5]
    ·have hk':k=B.length:=(by omega);subst hk';rw[zaR (h1 out B.length i ei ho' rfl),ih _ (by omega) (i+1) B.length (out++[g A[i]]) rfl (by omega) hk (by simp;omega),yAV ei,List.drop_length,dif,yA5];rfl
   ·have hi':i=A.length:=(by omega);subst hi';by_cases ek:k<B.length;·rw[zaR (h2 out A.length k ek ho' rfl),ih _ (by omega) A.length (k+1) (out++[n B[k]]) rfl hi (by omega) (by simp;omega),yAV ek,List.drop_length,dif,yA5];rfl
    ·have hk':k=B.length:=(by omega);subst hk';rw[zaD (h0 out),List.drop_length,List.drop_length,dif,yAR]
theorem zvT{α γ R:Type}{f:List γ×Int×Int×Unit->Option ((List γ×Int×Int×Unit)⊕((List γ×Unit)⊕R))}{lt:α->α->Bool}{g n:α->γ}{o:α->α->List γ}(A B:List α)(ho:∀x y,(o x y).length<=2)
  (h0:∀out,f (out,(A.length:Int),(B.length:Int),())=some (.inr (.inl (out,()))))
  (h1:∀out k i (hi:i<A.length),out.length<=i+k->k=B.length->f (out,(i:Int),(k:Int),())=some (.inl (out++[g A[i]],((i+1:Nat):Int),(k:Int),())))
  (h2:∀out i k (hk:k<B.length),out.length<=i+k->i=A.length->f (out,(i:Int),(k:Int),())=some (.inl (out++[n B[k]],(i:Int),((k+1:Nat):Int),())))
  (h3:∀out i k (hi:i<A.length) (hk:k<B.length),out.length<=i+k->f (out,(i:Int),(k:Int),())=some (.inl (bif lt A[i] B[k] then (out++[g A[i]],((i+1:Nat):Int),(k:Int),()) else bif lt B[k] A[i] then (out++[n B[k]],(i:Int),((k+1:Nat):Int),()) else (out++o A[i] B[k],((i+1:Nat):Int),((k+1:Nat):Int),())))) :
  ∀(d i k:Nat)(out:List γ),(A.length - i)+(B.length - k)=d->i<=A.length->k<=B.length->out.length<=i+k->zak f (out,(i:Int),(k:Int),())=some (.inl (out++dif lt g n o (A.drop i) (B.drop k),())):=zvE 0 A B ho h0 h1 h2 h3
namespace Tryz
open Go Go.Proofs Pe Pe.Bfs
theorem m18_eq'(o:Orc Sx)(a b:List (List UInt8))(hl:a.length<=1000000000):m18 o a b=some (eqb a b,()):=by
 unfold m18;refine zvS a b (λk h1 h2=>?_) ?_
 ·dsimp only;rw[decide_eq_true (show (k:Int)<len a from by simp[len];exact h1),zac,zan h1,zaa,zan h2,zaa,zaf h1 (by omega)];by_cases e:a[k]=b[k];·rw[zvK e,show (a[k] != b[k])=false from by simpa using e,zab];rfl
  ·rw[zvF e,show (a[k] != b[k])=true from by simpa using e,zac];rfl
 ·dsimp only;rw[decide_eq_false (show ¬((a.length:Nat):Int)<len a from by simp[len]),zab]
theorem m69_eq'(o:Orc Sx)(a b:List (List UInt8))(hl:a.length<=1000000000):m69 o a b=some (eqb a b,()):=m18_eq' o a b hl
theorem zwh(x y:Gt.Digest):((x.algo==y.algo)&&((x.text==y.text)&&true))=true↔x=y:=by cases x;cases y;simp
theorem zv2(x y:Gt.Pair):((x.name==y.name)&&((x.value==y.value)&&true))=true↔x=y:=by cases x;cases y;simp
theorem zvV{a b:List Gt.Digest}(hl:a.length<=1000000000):br (len a != len b) (some (false,())) (zaE (σ:=Unit) (R:=Bool×Unit) (zak (σ:=Int×Unit) (R:=_) (λ(t1:Int×Unit)=>(br (decide (t1.1<(len a))) (ob (at? a t1.1) λy2=>(ob (at? b t1.1) λy3=>(br (!(((Gt.Digest.algo y2)==(Gt.Digest.algo y3))&&(((Gt.Digest.text y2)==(Gt.Digest.text y3))&&true))) (some (.inr (.inr (false,())))) (some (.inl ((IntKind.i64.wrap (t1.1+1)),())))))) (some (.inr (.inl (())))))) (0,())) λ(_:Unit)=>(some (true,())))=some (eqb a b,()):=by
 refine zvS a b (λk h1 h2=>?_) ?_
 ·dsimp only;rw[decide_eq_true (show (k:Int)<len a from by simp[len];exact h1),zac,zan h1,zaa,zan h2,zaa,zaf h1 (by omega)];by_cases e:a[k]=b[k];·rw[zvK e,(zwh _ _).2 e];rfl
  ·rw[zvF e,Bool.eq_false_iff.2 λh=>e ((zwh _ _).1 h)];rfl
 ·dsimp only;rw[decide_eq_false (show ¬((a.length:Nat):Int)<len a from by simp[len]),zab]
theorem zvN{a b:List Gt.Pair}(hl:a.length<=1000000000):br (len a != len b) (some (false,())) (zaE (σ:=Unit) (R:=Bool×Unit) (zak (σ:=Int×Unit) (R:=_) (λ(t1:Int×Unit)=>(br (decide (t1.1<(len a))) (ob (at? a t1.1) λy2=>(ob (at? b t1.1) λy3=>(br (!(((Gt.Pair.name y2)==(Gt.Pair.name y3))&&(((Gt.Pair.value y2)==(Gt.Pair.value y3))&&true))) (some (.inr (.inr (false,())))) (some (.inl ((IntKind.i64.wrap (t1.1+1)),())))))) (some (.inr (.inl (())))))) (0,())) λ(_:Unit)=>(some (true,())))=some (eqb a b,()):=by
 refine zvS a b (λk h1 h2=>?_) ?_
 ·dsimp only;rw[decide_eq_true (show (k:Int)<len a from by simp[len];exact h1),zac,zan h1,zaa,zan h2,zaa,zaf h1 (by omega)];by_cases e:a[k]=b[k];·rw[zvK e,(zv2 _ _).2 e];rfl
  ·rw[zvF e,Bool.eq_false_iff.2 λh=>e ((zv2 _ _).1 h)];rfl
 ·dsimp only;rw[decide_eq_false (show ¬((a.length:Nat):Int)<len a from by simp[len]),zab]
theorem m178_eq'{o:Orc Sx}{a b:Gt.Purl}(h:o.d 240 [.sl (.st 10) a.qualifiers,.sl (.st 10) b.qualifiers] [.bool]=(some (eqb a.qualifiers b.qualifiers,()):Option (Bool×Unit))):m178 o a b=some (eqb a b,()):=by
 unfold m178;rw[h];simp only[zaa,zwi];congr 2;rw[yBC];cases a;cases b;simp only[yAd,beq_iff_eq,zvv,Gt.Purl.mk.injEq];constructor
 ·rintro ⟨⟨⟨⟨⟨h1,h2⟩,h3⟩,h4⟩,h5⟩,h6⟩;exact ⟨h1,h2,h3,h4,h6,h5⟩
 ·rintro ⟨h1,h2,h3,h4,h6,h5⟩;exact ⟨⟨⟨⟨⟨h1,h2⟩,h3⟩,h4⟩,h5⟩,h6⟩
theorem m133_eq'{o:Orc Sx}{a b:Gt.Component}(h1:o.d 178 [.st 11 a.purl,.st 11 b.purl] [.bool]=(some (eqb a.purl b.purl,()):Option (Bool×Unit)))
  (h2:o.d 179 [.sl (.st 6) a.digests,.sl (.st 6) b.digests] [.bool]=(some (eqb a.digests b.digests,()):Option (Bool×Unit))) (h3:o.d 18 [.sl .str a.files,.sl .str b.files] [.bool]=(some (eqb a.files b.files,()):Option (Bool×Unit))) :
  m133 o a b=some (eqb a b,()):=by
 unfold m133;rw[h1,h2,h3];simp only[zaa,zwi];congr 2;rw[yBC];cases a;cases b;simp only[yAd,beq_iff_eq,zvv,Gt.Component.mk.injEq];constructor
 ·rintro ⟨⟨⟨⟨h1,h2⟩,h3⟩,h4⟩,h5⟩;exact ⟨h1,h2,h3,h4,h5⟩
 ·rintro ⟨h1,h2,h3,h4,h5⟩;exact ⟨⟨⟨⟨h1,h2⟩,h3⟩,h4⟩,h5⟩
theorem L133(n:Nat){a b:Gt.Component}(ha:SmL a): @Eq (Option (Bool×Unit)) ((zah (n+3)).d 133 [.st 5 a,.st 5 b] [.bool]) (some (eqb a b,())):=by
 refine (q133 (n+2) a b).trans (m133_eq' ?_ ?_ ?_);·exact (q178 (n+1) _ _).trans (m178_eq' ((q240 n _ _).trans (zvN ha.quals)))
 ·exact (q179 (n+1) _ _).trans (zvV ha.digs)
 ·exact (q18 (n+1) _ _).trans (m18_eq' _ _ _ ha.files)
theorem m70_eq'(o:Orc Sx){a b:Gt.Purl}(hl:a.qualifiers.length<=1000000000):m70 o a b=some (eqb a b,()):=by
 unfold m70;simp only[zws];cases hb:(a.kind != b.kind||a.space != b.space||a.name != b.name||a.version != b.version||a.sub != b.sub) with
 |true =>rw[show ∀x,(true||x)=true from λ_=>rfl,zac,zvF λe=>by subst e;simp at hb]|false =>rw[Bool.false_or];refine (zvN hl).trans ?_;congr 2;rw[yBC];cases a;cases b;simp only[yBl,bne_eq_false_iff_eq] at hb;simp only[zvv,Gt.Purl.mk.injEq];obtain ⟨⟨⟨⟨e1,e2⟩,e3⟩,e4⟩,e5⟩:=hb;exact ⟨λh=>⟨e1,e2,e3,e4,h,e5⟩,λh=>h.2.2.2.2.1⟩
theorem L26x(n:Nat){a b:Gt.Component}(ha:SmL a): @Eq (Option (Bool×Unit)) ((zah (n+2)).d 26 [.st 5 a,.st 5 b] [.bool]) (some (eqb a b,())):=by
 refine (q26 (n+1) a b).trans ?_;unfold m26
 rw[show @Eq (Option (Bool×Unit)) ((zah (n+1)).d 69 [.sl .str a.files,.sl .str b.files] [.bool]) (some (eqb a.files b.files,())) from (q69 n _ _).trans (m69_eq' _ _ _ ha.files),
  show @Eq (Option (Bool×Unit)) ((zah (n+1)).d 70 [.st 11 a.purl,.st 11 b.purl] [.bool]) (some (eqb a.purl b.purl,())) from (q70 n _ _).trans (m70_eq' _ ha.quals)]
 simp only[zaa,zws];have hd:=zvV (a:=a.digests) (b:=b.digests) ha.digs;by_cases hdl:a.digests.length=b.digests.length
 ·rw[show (len a.digests != len b.digests)=false from by simp[len,hdl],Bool.or_false];rw[show (len a.digests != len b.digests)=false from by simp[len,hdl],zab] at hd;cases hb:(a.ref != b.ref||a.licence != b.licence|| !eqb a.files b.files|| !eqb a.purl b.purl) with
  |true=>rw[zac,zvF λe=>by subst e;simp[zwa] at hb]|false =>rw[zab];refine hd.trans ?_;congr 2;rw[yBC];cases a;cases b;simp only[yBl,bne_eq_false_iff_eq,Bool.not_eq_false',zvv] at hb;simp only[zvv,Gt.Component.mk.injEq];obtain ⟨⟨⟨e1,e2⟩,e3⟩,e4⟩:=hb;exact ⟨λh=>⟨e1,e4,h,e2,e3⟩,λh=>h.2.2.1⟩
 ·rw[show (len a.digests != len b.digests)=true from by simp[len];omega,Bool.or_true,Bool.true_or,zac,zvF λe=>hdl (by rw[e])]
structure SmG (c:Gt.BillChange):Prop where
 comps:∀x∈c.component,SmL x
 cl:c.component.length<=1000000000
 el:c.edge.length<=1000000000
theorem L90(n:Nat){c:Gt.BillChange}(hc:SmG c): @Eq (Option (Bool×Unit)) ((zah (n+3)).d 90 [.st 4 c,.st 4 c] [.bool]) (some (true,())):=by
 have be:∀x:Int,(x==x)=true:=λx=>by simp
 have bs:∀x:List UInt8,(x==x)=true:=λx=>by simp
 refine (q90 (n+2) c c).trans ?_;unfold m90;simp only[be,bs,zac,zaa,show (len c.component != len c.component)=false from by simp,zab];rw[zty (n:=c.component.length) (.inl ():Unit⊕(Bool×Unit)) (λk hk=>?_) ?_];·rw[zaj,zaa,zaa,zac,show @Eq (Option (Bool×Unit)) ((zah (n+2)).d 55 [.sl (.st 7) c.edge,.sl (.st 7) c.edge] [.bool]) (some (true,())) from (q55 (n+1) _ _).trans (m55_same _ hc.el)];rfl
 ·dsimp only;rw[decide_eq_false (show ¬((c.component.length:Nat):Int)<len c.component from by simp[len]),zab]
 ·dsimp only;rw[decide_eq_true (show (k:Int)<len c.component from by simp[len];exact hk),zac,zan hk,zaa,zaa,L26 n (hc.comps _ (yAy hk)),zaa,zaf hk (by have:=hc.cl;omega)];rfl
theorem L45(n:Nat){l:List Gt.BillChange}(hl:∀c∈l,SmG c)(hn:l.length<=1000000000): @Eq (Option (Bool×Unit)) ((zah (n+4)).d 45 [.sl (.st 4) l,.sl (.st 4) l] [.bool]) (some (true,())):=by
 refine (q45 (n+3) l l).trans ?_;unfold m45;rw[show (len l != len l)=false from by simp,zab];rw[zty (n:=l.length) (.inl ():Unit⊕(Bool×Unit)) (λk hk=>?_) ?_];·rw[zaj,zaa]
 ·dsimp only;rw[decide_eq_false (show ¬((l.length:Nat):Int)<len l from by simp[len]),zab]
 ·dsimp only;rw[decide_eq_true (show (k:Int)<len l from by simp[len];exact hk),zac,zan hk,zaa,zaa,L90 n (hl _ (yAy hk)),zaa,zaf hk (by omega)];rfl
end Tryz
end Pe
end
section
/- Diff on both sides. -/
set_option maxRecDepth 100000
namespace Pe.Tryz
open Go Go.Proofs Pe Pe.Bfs
theorem zvJ(x y:Gt.Component):zwg x y=bif eqb x y then [] else [zvZ 4 y]:=by
 unfold zwg;by_cases h:x=y;·rw[if_pos h,zvK h];rfl
 ·rw[if_neg h,zvF h];rfl
theorem m85_eq'(o:Orc Sx)(r x y:List UInt8):m85 o r x y=some (zvx r x y,()):=by unfold m85 zvx;cases x==y<;>rfl
theorem m132_eq'(o:Orc Sx){n:Int}(h0:0<=n)(h1:n<=1000000000):m132 o n=some (.inl ([],())):=by
 unfold m132;rw[decide_eq_false (by omega),zab,zaj,show IntKind.i64.wrap (0 - 0)=0 from rfl,zaH (by omega) (by omega),Int.sub_zero];by_cases h:0<n
 ·obtain ⟨k,rfl⟩:∃k:Nat,n=(k:Int):=⟨n.toNat,by omega⟩;have hr:zlG (k:Int) (Gt.BillChange.mk 0 [] [] [] [])=some (List.replicate k (Gt.BillChange.mk 0 [] [] [] [])):=by
   show (bif Nat.ble k 1073741824 then some _ else none)=_;rw[show Nat.ble k 1073741824=true from by rw[yAK];omega];rfl
  rw[decide_eq_true h,zac,hr,zaa,show Nat.blt 0 (List.replicate k (Gt.BillChange.mk 0 [] [] [] [])).length=true from by rw[yAN,yB4];omega,cond_true];have:=zhM (l:=List.replicate k (Gt.BillChange.mk 0 [] [] [] [])) (i:=0) (j:=0) (yAi _) (yAA _);rw[show zhN (List.replicate k (Gt.BillChange.mk 0 [] [] [] [])) 0 0=some [] from by simpa using this];rfl
 ·rw[decide_eq_false h,zab]
theorem m84_eq'{o:Orc Sx}(h:∀n:Int,0<=n->n<=1000000000->o.l 132 sg132 ((n,()):Int×Unit)=(some (.inl ([],())):Option ((List Gt.BillChange×Unit)⊕Unit))){l:List (List Gt.BillChange)}(hl:l.length<=10)(hx:∀x∈l,x.length<=1000000) :
  m84 o l=some (.inl (l.foldl (λa y=>a++y) [],())):=by
 unfold m84;have e1:=zcK (σ:=Int×Int×Unit) (R:=(Int×Unit)⊕((List Gt.BillChange×Unit)⊕Unit)) (f:=λ(t1:Int×Int×Unit)=>(br (decide (t1.2.1<(len l))) (ob (at? l t1.2.1) λy2=>(br (decide ((IntKind.i64.wrap (t1.1+(len y2)))<0)) none (some (.inl ((IntKind.i64.wrap (t1.1+(len y2))),(IntKind.i64.wrap (t1.2.1+1)),()))))) (some (.inr (.inl (t1.1,())))))) (λk (a:Int)=>(a,(k:Int),())) l (λa y=>a+len y) (λa=>.inl (a,())) (λk a=>0<=a/\a<=k*1000000) (λk hk a hI=>?_) (λa hI=>?_) 0 ⟨by decide,by decide⟩
 ·have hb:0<=l.foldl (λa y=>a+len y) 0/\l.foldl (λa y=>a+len y) 0<=l.length*1000000:=by
   have key:∀(t:List (List Gt.BillChange))(a:Int),(∀x∈t,x.length<=1000000)->0<=a->0<=t.foldl (λa y=>a+len y) a/\t.foldl (λa y=>a+len y) a<=a+t.length*1000000:=by
    intro t;induction t with
    |nil=>intro a _ h;simp;exact h
    |cons y t ih =>intro a hy h;have h1:=hy y (by simp);have:=ih (a+len y) (λx hx=>hy x (by simp[hx])) (by unfold len;omega);simp only[yCd,yAw];unfold len at this ⊢;omega
   simpa using key l 0 hx (by decide)
  refine zt2 e1 ?_;rw[zaj,h _ hb.1 (by omega),zaA];have e2:=zcK (σ:=List Gt.BillChange×Int×Unit) (R:=(List Gt.BillChange×Unit)⊕((List Gt.BillChange×Unit)⊕Unit)) (f:=λ(t6:List (Gt.BillChange)×Int×Unit)=>(br (decide (t6.2.1<(len l))) (ob (at? l t6.2.1) λy7=>(ob (zdJ t6.1 y7) λl8=>(some (.inl (l8,(IntKind.i64.wrap (t6.2.1+1)),()))))) (some (.inr (.inl (t6.1,())))))) (λk (a:List Gt.BillChange)=>(a,(k:Int),())) l (λa y=>a++y) (λa=>.inl (a,())) (λk a=>a.length<=k*1000000) (λk hk a hI=>?_) (λa hI=>?_) [] (by simp);·exact zt2 e2 rfl
  ·have h1:=hx _ (yAy hk);dsimp only;rw[decide_eq_true (show (k:Int)<len l from by simp[len];exact hk),zac,zan hk,zaa,zbc (by simp only[lim];omega),zaa,zaf hk (by omega)];exact ⟨rfl,by rw[yAI];omega⟩
  ·dsimp only;rw[decide_eq_false (show ¬((l.length:Nat):Int)<len l from by simp[len]),zab]
 ·have h1:=hx _ (yAy hk);have h2:len l[k]<=1000000/\0<=len l[k]:=by unfold len;omega
  dsimp only;rw[decide_eq_true (show (k:Int)<len l from by simp[len];exact hk),zac,zan hk,zaa,zaH (by omega) (by omega),decide_eq_false (by omega),zab,zaf hk (by omega)];exact ⟨rfl,by omega,by omega⟩
 ·dsimp only;rw[decide_eq_false (show ¬((l.length:Nat):Int)<len l from by simp[len]),zab]
theorem L84(n:Nat){l:List (List Gt.BillChange)}(hl:l.length<=10)(hx:∀x∈l,x.length<=1000000): @Eq (Option ((List Gt.BillChange×Unit)⊕Unit)) ((zah (n+2)).l 84 sg84 ((l,()):List (List (Gt.BillChange))×Unit)) (some (.inl (l.foldl (λa y=>a++y) [],()))) :=
 (q84 (n+1) l).trans (m84_eq' (λk h0 h1=>(q132 n k).trans (m132_eq' _ h0 h1)) hl hx)
theorem zvz{α γ:Type}{lt:α->α->Bool}{g n:α->γ}{o:α->α->List γ}(ho:∀x y,(o x y).length<=2):∀(d:Nat)(a b:List α),a.length+b.length<=d->(dif lt g n o a b).length<=d
 |0,a,b,h=>by obtain rfl:a=[]:=yAU.1 (by omega);obtain rfl:b=[]:=yAU.1 (by omega);rw[dif];exact yAi _
 |d+1,a,b,h=>by
   cases a with
   |nil =>
     cases b with
     |nil=>rw[dif];exact yAA _|cons y b=>rw[dif];simp only[yAw] at h ⊢;have:=zvz (lt:=lt) (g:=g) (n:=n) ho d [] b (by simp only[List.length_nil];omega);omega
   |cons x a =>
     cases b with
     |nil=>rw[dif];simp only[yAw] at h ⊢;have:=zvz (lt:=lt) (g:=g) (n:=n) ho d a [] (by simp only[List.length_nil];omega);omega
     |cons y b =>
       simp only[yAw] at h;rw[dif];cases lt x y with
       |true=>simp only[cond_true,yAw];have:=zvz (lt:=lt) (g:=g) (n:=n) ho d a (y::b) (by simp only[yAw];omega);omega
       |false =>
         cases lt y x with
         |true=>simp only[cond_true,cond_false,yAw];have:=zvz (lt:=lt) (g:=g) (n:=n) ho d (x::a) b (by simp only[yAw];omega);omega
         |false =>
           cases d with
           |zero=>omega|succ d =>simp only[cond_false,yAI];have:=zvz (lt:=lt) (g:=g) (n:=n) ho d a b (by omega);have:=ho x y;omega
theorem zvI(x y:Gt.Component):(zwg x y).length<=2:=by rw[zvJ];cases eqb x y<;>simp
theorem zvu{α:Type}{l:List α}{k:Nat}(h:k<l.length):decide ((k:Int)<len l)=true:=decide_eq_true (by simp[len];exact h)
theorem zvr{α:Type}{l:List α}:decide (((l.length:Nat):Int)<len l)=false:=decide_eq_false (by simp[len])
theorem zvA{α:Type}{l:List α}:(((l.length:Nat):Int)==len l)=true:=by simp[len]
theorem zvt{α:Type}{l:List α}{k:Nat}(h:k<l.length):((k:Int)==len l)=false:=by simp[len];omega
theorem m86_eq'{o:Orc Sx}{a b:Gt.Bill}(h1:∀c∈b.components,o.d 68 [.st 5 c] [(.st 5)]=(some (c,()):Option (Gt.Component×Unit)))(h2:∀c∈a.components,∀d:Gt.Component,o.d 133 [.st 5 c,.st 5 d] [.bool]=(some (eqb c d,()):Option (Bool×Unit)))
  (ha:a.components.length<=1000000) (hb:b.components.length<=1000000):m86 o a b=some (zvB a.components b.components,()):=by
 unfold m86
 rw[show (([]:List Gt.BillChange),(0:Int),(0:Int),())=(([]:List Gt.BillChange),((0:Nat):Int),((0:Nat):Int),()) from rfl,
  zvT (lt:=λx y=>decide (x.ref<y.ref)) (g:=zvO) (n:=zvZ 3) (o:=zwg) a.components b.components zvI (λout=>?_) (λout k i hi ho hk=>?_) (λout i k hk ho hi=>?_) (λout i k hi hk ho=>?_) _ 0 0 [] rfl (yAA _) (yAA _) (yAA _)]
 ·rfl
 ·dsimp only;rw[zvr,zvr,zab,zaa,zab]
 ·subst hk;dsimp only;rw[zvu hi,zac,zaa,zac,zvA,zac,zaa,zac,zan hi,zaa,zbc (by simp only[lim,List.length_singleton];omega),zaa,zaf hi (by omega)];rfl
 ·subst hi;dsimp only;rw[zvr,zvu hk,zab,zaa,zac,zvt hk,zab,zab,zaa,zaa,zab,zvA,zac,zaa,zac,zan hk,zaa,h1 _ (yAy hk),zaa,zbc (by simp only[lim,List.length_singleton];omega),zaa,zaf hk (by omega)];rfl
 ·dsimp only;rw[zvu hi,zac,zaa,zac,zvt hk,zab,zac,zan hi,zaa,zan hk,zaa,zaa,zaa,zgX];cases c1:decide (a.components[i].ref<b.components[k].ref) with
  |true=>rw[zac,zaa,zbc (by simp only[lim,List.length_singleton];omega),zaa,zaf hi (by omega)];rfl|false =>
    rw[zab,zvt hi,zab,zaa,zaa,zaa,zgX];cases c2:decide (b.components[k].ref<a.components[i].ref) with
    |true=>rw[zac,zaa,h1 _ (yAy hk),zaa,zbc (by simp only[lim,List.length_singleton];omega),zaa,zaf hk (by omega)];rfl|false =>
      rw[zab,zaa,zaa,h2 _ (yAy hi),zaa,cond_false,cond_false,zvJ];cases eqb a.components[i] b.components[k] with
      |true=>rw[yBS,zab,zaj,zaf hi (by omega),zaf hk (by omega),cond_true,yAR]|false=>rw[Bool.not_false,zac,zaa,h1 _ (yAy hk),zaa,zbc (by simp only[lim,List.length_singleton];omega),zaa,zaj,zaf hi (by omega),zaf hk (by omega)];rfl
theorem zvP(x y:Gt.Edge):(0<zpV x y)↔zpV y x<0:=by
 constructor
 ·intro h;have h1:¬rE x y:=by unfold rE;omega
  refine zuT h1 λe=>?_;subst e;have h2:=zuU x;unfold zpV at h;rw[if_neg (by rw[ztx.2 rfl];simp),if_neg (by rw[ztx.2 rfl];simp)] at h;unfold sgI at h;simp at h
 ·intro h;have h1:¬rE x y:=zuk _ _ h;unfold rE at h1;have h2:zpV x y≠0:=λh0=>by
   have:x=y:=zvM (by omega) (λh3=>by
    unfold zpV at h0;by_cases e1:cS x.from_ y.from_=0
    ·rw[if_neg (by simpa using e1)] at h0;by_cases e2:cS x.to y.to=0
     ·rw[if_neg (by simpa using e2)] at h0;have e1:=ztx.1 e1;have e2:=ztx.1 e2;have e3:x.scope=y.scope:=by unfold sgI at h0;split at h0<;>(try split at h0)<;>omega
      have:x=y:=by cases x;cases y;simp_all
      subst this;exact zuU _ h3
     ·rw[if_pos e2] at h0;exact e2 h0
    ·rw[if_pos e1] at h0;exact e1 h0)
   subst this;exact zuU _ h
  omega
theorem m87_eq'{o:Orc Sx}{a b:Gt.Bill}(h1:∀x y:Gt.Edge,o.d 100 [.st 7 x,.st 7 y] [(.int .i64)]=(some (zpV x y,()):Option (Int×Unit)))
  (ha:a.edges.length<=1000000) (hb:b.edges.length<=1000000):m87 o a b=some (zvC a.edges b.edges,()):=by
 unfold m87
 rw[show (([]:List Gt.BillChange),(0:Int),(0:Int),())=(([]:List Gt.BillChange),((0:Nat):Int),((0:Nat):Int),()) from rfl,
  zvT (lt:=λx y=>decide (zpV x y<0)) (g:=zvR) (n:=zwk) (o:=λ_ _=>[]) a.edges b.edges (λ_ _=>yAA _) (λout=>?_) (λout k i hi ho hk=>?_) (λout i k hk ho hi=>?_) (λout i k hi hk ho=>?_) _ 0 0 [] rfl (yAA _) (yAA _) (yAA _)]
 ·rfl
 ·dsimp only;rw[zvr,zvr,zab,zaa,zab]
 ·subst hk;dsimp only;rw[zvu hi,zac,zaa,zac,zvt hi,zab,zvA,zac,zaj];dsimp only;rw[show decide ((-1:Int)<0)=true from rfl,zac,zan hi,zaa,zbc (by simp only[lim,List.length_singleton];omega),zaa,zaj,show decide ((-1:Int)<=0)=true from rfl,zac,zaj,show decide ((0:Int)<= -1)=false from rfl,zab,zaf hi (by omega)];rfl
 ·subst hi;dsimp only;rw[zvr,zvu hk,zab,zaa,zac,zvA,zac,zaj];dsimp only;rw[show decide ((1:Int)<0)=false from rfl,zab,show decide ((0:Int)<1)=true from rfl,zac,zan hk,zaa,zbc (by simp only[lim,List.length_singleton];omega),zaa,zaj,show decide ((1:Int)<=0)=false from rfl,zab,zaj,show decide ((0:Int)<=1)=true from rfl,zac,zaf hk (by omega)];rfl
 ·dsimp only;rw[zvu hi,zac,zaa,zac,zvt hi,zab,zvt hk,zab,zan hi,zaa,zan hk,zaa,h1,zaa,zaj];dsimp only;have hsw:=zvP a.edges[i] b.edges[k];by_cases c1:zpV a.edges[i] b.edges[k]<0;·rw[decide_eq_true c1,zac,zaa,zbc (by simp only[lim,List.length_singleton];omega),zaa,zaj,decide_eq_true (show zpV a.edges[i] b.edges[k]<=0 by omega),zac,zaj,decide_eq_false (show ¬0<=zpV a.edges[i] b.edges[k] by omega),zab,zaf hi (by omega)];rfl
  ·rw[decide_eq_false c1,zab,cond_false];by_cases c2:zpV b.edges[k] a.edges[i]<0;·have c3:=hsw.2 c2;rw[decide_eq_true c2,decide_eq_true c3,zac,zaa,zbc (by simp only[lim,List.length_singleton];omega),zaa,zaj,decide_eq_false (show ¬zpV a.edges[i] b.edges[k]<=0 by omega),zab,zaj,decide_eq_true (show 0<=zpV a.edges[i] b.edges[k] by omega),zac,zaf hk (by omega)];rfl
   ·have c3:¬0<zpV a.edges[i] b.edges[k]:=λh=>c2 (hsw.1 h);rw[decide_eq_false c2,decide_eq_false c3,zab,zaj,decide_eq_true (show zpV a.edges[i] b.edges[k]<=0 by omega),zac,zaj,decide_eq_true (show 0<=zpV a.edges[i] b.edges[k] by omega),zac,zaf hi (by omega),zaf hk (by omega),cond_false,yAR]
end Pe.Tryz
end
section
/- The law of the difference (law 10) in plain. -/
set_option maxRecDepth 100000
namespace Pe.Tryz
open Go Go.Proofs Pe Pe.Bfs
theorem zwm(x y:List UInt8):(!(Op.bytesLess x y||x==y))=decide (y<x):=by
 rw[zgX];by_cases h1:x<y;·rw[decide_eq_true h1,decide_eq_false (List.lt_asymm h1)];rfl
 ·rw[decide_eq_false h1];by_cases h2:x=y;·subst h2;rw[decide_eq_false (yBn x)];simp
  ·have:y<x:=Classical.byContradiction λh3=>h2 (zly.eq x y (by rw[zc4];exact h1) (by rw[zc4];exact h3));rw[decide_eq_true this];simpa using h2
noncomputable def zv0(a b:Gt.Bill):List Gt.BillChange×Int×Unit:=bif zfo a != 0 then ([],zfo a,()) else bif zfo b != 0 then ([],zfo b,()) else (zvG a b,0,())
theorem zvs(r x y:List UInt8):(zvx r x y).length<=1:=by unfold zvx;cases x==y<;>simp
theorem zvL(a b:List Gt.Component):(zvB a b).length<=a.length+b.length:=zvz zvI _ a b (yAi _)
theorem zvW(a b:List Gt.Edge):(zvC a b).length<=a.length+b.length:=zvz (λ_ _=>yAA _) _ a b (yAi _)
theorem L43{n:Nat}{a b:Gt.Bill}(ha:SmB a)(hb:SmB b):m43 (zah (n+200)) a b=some (zv0 a b):=by
 unfold m43 zv0;rw[L40 (by omega) ha,zaa];dsimp only;cases h0:zfo a != 0 with
 |true=>rfl|false =>
   have hA:=zeo (b:=a) (by simpa using h0);rw[zab,L40 (by omega) hb,zaa,cond_false];dsimp only;cases h1:zfo b != 0 with
   |true=>rfl|false =>
     have hB:=zeo (b:=b) (by simpa using h1);have hAn:=hA.n;have hAm:=hA.m;have hBn:=hB.n;have hBm:=hB.m;have h85:∀r x y,@Eq (Option (List Gt.BillChange×Unit)) ((zah (n+200)).d 85 [.str r,.str x,.str y] [(.sl (.st 4))]) (some (zvx r x y,())):=λr x y=>(q85 (n+199) r x y).trans (m85_eq' _ r x y);have l1:=zvs ztB a.name b.name;have l2:=zvs ztA a.version b.version;have l3:=zvs ztG a.root b.root;have l4:=zvL a.components b.components;have l5:=zvW a.edges b.edges;rw[zab,h85,zaa,h85,zaa,h85,zaa,cond_false];dsimp only;rw[L84 (n+198) (by simp) (λx hx=>by
      simp only[yAm,yAX,or_false] at hx;rcases hx with rfl|rfl|rfl;·exact yAo l1 (by decide)
      ·exact yAo l2 (by decide)
      ·exact yAo l3 (by decide)),zaA]
     dsimp only
     rw[show @Eq (Option (List Gt.BillChange×Unit)) ((zah (n+200)).d 86 [.st 3 a,.st 3 b] [(.sl (.st 4))]) (some (zvB a.components b.components,())) from
      (q86 (n+199) a b).trans (m86_eq' (λc hc=>L68 (n+197) (hb.comps c hc).toL) (λc hc d=>L133 (n+196) (ha.comps c hc).toL) (by omega) (by omega)),zaa,
      show @Eq (Option (List Gt.BillChange×Unit)) ((zah (n+200)).d 87 [.st 3 a,.st 3 b] [(.sl (.st 4))]) (some (zvC a.edges b.edges,())) from
      (q87 (n+199) a b).trans (m87_eq' (λx y=>L100 (n+195) x y) (by omega) (by omega)),zaa]
     dsimp only;rw[L84 (n+198) (by simp) (λx hx=>by
      simp only[yAm,yAX,or_false] at hx;rcases hx with rfl|rfl|rfl
      ·simp only[yCd,List.foldl_nil,yAI,List.length_nil];have l1:(zvx [110,97,109,101] a.name b.name).length<=1:=l1;have l2:(zvx [118,101,114,115,105,111,110] a.version b.version).length<=1:=l2;have l3:(zvx [114,111,111,116] a.root b.root).length<=1:=l3;omega
      ·omega
      ·omega),zaA]
     dsimp only[List.foldl_cons,List.foldl_nil];unfold zvG;simp only[yBb,yA5];rfl
noncomputable def zwv(a b:Gt.Bill):Nat->Int|0=>zfo a|_=>zfo b
theorem zwu(a b:Gt.Bill):ff (zwv a b) 2=if zfo a≠0 then zfo a else zfo b:=by
 have h1:ff (zwv a b) 1=zfo a:=by show (if (0:Int)≠0 then (0:Int) else zfo a)=_;rw[if_neg (by decide)]
 show (if ff (zwv a b) 1≠0 then ff (zwv a b) 1 else zfo b)=_;rw[h1]
def outE(e:Int):Unit⊕(List Gt.BillChange×Int×Unit):= .inr ([],e,())
theorem zv4{σ τ R:Type}{f:σ->Option (σ⊕(τ⊕R))}{s:σ}{r:R}{K:τ->Option R}(h:zak f s=some (.inr r)):zaE (zak f s) K=some r:=by rw[h];rfl
theorem L44{n:Nat}{a b:Gt.Bill}(ha:SmB a)(hb:SmB b):m44 (zah (n+200)) a b=some (zv0 a b):=by
 unfold m44 zv0
 have e1:=zv8 (A:=Unit) (σ:=List Gt.Bill×Int×Unit) (R:=Unit⊕(List Gt.BillChange×Int×Unit)) (f:=λ(t1:List (Gt.Bill)×Int×Unit)=>(br (decide (t1.2.1<(len [a,b]))) (ob (at? t1.1 t1.2.1) λy2=>(ob (α:=Int×Unit) ((zah (n+200)).d 54 [.st 3 y2] [(.int .i64)]) λ(r3:Int×Unit)=>(br (r3.1 != 0) (some (.inr (.inr ([],r3.1,())))) (some (.inl (t1.1,(IntKind.i64.wrap (t1.2.1+1)),())))))) (some (.inr (.inl (()))))))
  (λk _=>([a,b],(k:Int),())) 2 (zwv a b) outE (.inl ()) (λ_ _=>True) (λk _ hk _ _=>⟨(),trivial,?_⟩) (λ_ _=>?_) () trivial
 rotate_left
 ·have:k=0\/k=1:=by omega
  rcases this with rfl|rfl;·dsimp only;rw[show decide (((0:Nat):Int)<len [a,b])=true from rfl,zac,show at? [a,b] ((0:Nat):Int)=some a from rfl,zaa,L54 (by omega) ha,zaa];exact zwn (out:=outE) (nxt:=([a,b],((1:Nat):Int),())) (a:=zfo a)
  ·dsimp only;rw[show decide (((1:Nat):Int)<len [a,b])=true from rfl,zac,show at? [a,b] ((1:Nat):Int)=some b from rfl,zaa,L54 (by omega) hb,zaa];exact zwn (out:=outE) (nxt:=([a,b],((2:Nat):Int),())) (a:=zfo b)
 ·rfl
 rw[zwu] at e1;cases h0:zfo a != 0 with
 |true =>have h0:zfo a≠0:=(by simpa using h0);rw[if_pos h0,if_pos h0] at e1;exact zv4 e1
 |false =>
   have h0:zfo a=0:=(by simpa using h0);have hA:=zeo h0;rw[if_neg (show ¬zfo a≠0 from λh=>h h0)] at e1;rw[cond_false];cases h1:zfo b != 0 with
   |true =>have h1:zfo b≠0:=(by simpa using h1);rw[if_pos h1] at e1;exact zv4 e1
   |false =>
     have h1:zfo b=0:=(by simpa using h1);have hB:=zeo h1;have hAn:=hA.n;have hAm:=hA.m;have hBn:=hB.n;have hBm:=hB.m;rw[if_neg (show ¬zfo b≠0 from λh=>h h1)] at e1;refine zt2 e1 ?_;rw[zaj,cond_false]
     have e2:=zcK (σ:=List Gt.BillChange×List Gt.A3_string×Int×Unit) (R:=(List Gt.BillChange×Unit)⊕(List Gt.BillChange×Int×Unit))
      (λk (out:List Gt.BillChange)=>(out,[(Gt.A3_string.mk [110,97,109,101] (Gt.Bill.name a) (Gt.Bill.name b)),(Gt.A3_string.mk [118,101,114,115,105,111,110] (Gt.Bill.version a) (Gt.Bill.version b)),(Gt.A3_string.mk [114,111,111,116] (Gt.Bill.root a) (Gt.Bill.root b))],(k:Int),()))
      [(Gt.A3_string.mk [110,97,109,101] (Gt.Bill.name a) (Gt.Bill.name b)),(Gt.A3_string.mk [118,101,114,115,105,111,110] (Gt.Bill.version a) (Gt.Bill.version b)),(Gt.A3_string.mk [114,111,111,116] (Gt.Bill.root a) (Gt.Bill.root b))] (λout h=>out++zvx h.e0 h.e1 h.e2) (λout=>.inl (out,())) (λk out=>out.length<=k)
      (f:=λ(t5:List (Gt.BillChange)×List (Gt.A3_string)×Int×Unit)=>(br (decide (t5.2.2.1<(len [(Gt.A3_string.mk [110,97,109,101] (Gt.Bill.name a) (Gt.Bill.name b)),(Gt.A3_string.mk [118,101,114,115,105,111,110] (Gt.Bill.version a) (Gt.Bill.version b)),(Gt.A3_string.mk [114,111,111,116] (Gt.Bill.root a) (Gt.Bill.root b))]))) (ob (at? t5.2.1 t5.2.2.1) λy6=>(br ((Gt.A3_string.e1 y6) != (Gt.A3_string.e2 y6)) (ob (zdJ t5.1 [(Gt.BillChange.mk 1 (Gt.A3_string.e0 y6) (Gt.A3_string.e2 y6) [] [])]) λl7=>(some (.inl (l7,t5.2.1,(IntKind.i64.wrap (t5.2.2.1+1)),())))) (some (.inl (t5.1,t5.2.1,(IntKind.i64.wrap (t5.2.2.1+1)),()))))) (some (.inr (.inl (t5.1,()))))))
      (λk hk out hI=>?_) (λout hI=>?_) [] (yAi _)
     rotate_left
     ·have hk3:k<3:=hk;generalize hH:[(Gt.A3_string.mk [110,97,109,101] (Gt.Bill.name a) (Gt.Bill.name b)),(Gt.A3_string.mk [118,101,114,115,105,111,110] (Gt.Bill.version a) (Gt.Bill.version b)),(Gt.A3_string.mk [114,111,111,116] (Gt.Bill.root a) (Gt.Bill.root b))]=heads at hk ⊢;dsimp only;rw[zvu hk,zac,zan hk,zaa,zaf hk3 (by decide)];have hl:=zvs heads[k].e0 heads[k].e1 heads[k].e2;refine ⟨?_,by rw[yAI];omega⟩;unfold zvx;rw[show (heads[k].e1 != heads[k].e2)= !(heads[k].e1==heads[k].e2) from rfl];cases heads[k].e1==heads[k].e2 with
      |true=>rw[yBS,zab,cond_true,yAR]|false=>rw[Bool.not_false,zac,zbc (by simp only[lim,List.length_singleton];omega),zaa];rfl
     ·dsimp only;rw[zvr,zab]
     refine zt2 e2 ?_;rw[zaj];dsimp only[List.foldl_cons,List.foldl_nil];have l1:(zvx [110,97,109,101] a.name b.name).length<=1:=zvs _ _ _;have l2:(zvx [118,101,114,115,105,111,110] a.version b.version).length<=1:=zvs _ _ _;have l3:(zvx [114,111,111,116] a.root b.root).length<=1:=zvs _ _ _;have l4:=zvL a.components b.components;have hh:([]++zvx [110,97,109,101] a.name b.name++zvx [118,101,114,115,105,111,110] a.version b.version++zvx [114,111,111,116] a.root b.root).length<=3:=by simp only[yAI,List.length_nil];omega
     have hfin:zvG a b=[]++zvx [110,97,109,101] a.name b.name++zvx [118,101,114,115,105,111,110] a.version b.version++zvx [114,111,111,116] a.root b.root++zvB a.components b.components++zvC a.edges b.edges:=(by unfold zvG;simp only[yBb,yA5];rfl);rw[hfin];generalize []++zvx [110,97,109,101] a.name b.name++zvx [118,101,114,115,105,111,110] a.version b.version++zvx [114,111,111,116] a.root b.root=hd at hh;refine zt2 (f:=λ(t9:List (Gt.BillChange)×Int×Int×Unit)=>_) (s:=(hd,((0:Nat):Int),((0:Nat):Int),())) (zvE 3 (lt:=λx y=>decide (x.ref<y.ref)) (g:=zvO) (n:=zvZ 3) (o:=zwg) a.components b.components zvI (λout=>?_) (λout k i hi ho hk=>?_) (λout i k hk ho hi=>?_) (λout i k hi hk ho=>?_) _ 0 0 hd rfl (yAA _) (yAA _) (by omega)) ?_
     rotate_left 4
     ·rw[zaj];dsimp only[yBo];refine zt2 (f:=λ(t28:List (Gt.BillChange)×Int×Int×Unit)=>_) (s:=(hd++zvB a.components b.components,((0:Nat):Int),((0:Nat):Int),())) (zvE 7000 (lt:=λx y=>decide (zpV x y<0)) (g:=zvR) (n:=zwk) (o:=λ_ _=>[]) a.edges b.edges (λ_ _=>yAA _) (λout=>?_) (λout k i hi ho hk=>?_) (λout i k hk ho hi=>?_) (λout i k hi hk ho=>?_) _ 0 0 (hd++zvB a.components b.components) rfl (yAA _) (yAA _) (by rw[yAI];omega)) ?_
      rotate_left 4
      ·rfl
      ·dsimp only;rw[zvr,zvr,zab,zaa,zab]
      ·subst hk;dsimp only;rw[zvu hi,zac,zaa,zac,zvA,zac,zaa,zac,zan hi,zaa,zbc (by simp only[lim,List.length_singleton];omega),zaa,zaf hi (by omega)];rfl
      ·subst hi;dsimp only;rw[zvr,zvu hk,zab,zaa,zac,zvt hk,zab,zab,zaa,zaa,zab,zvA,zac,zaa,zac,zan hk,zaa,zbc (by simp only[lim,List.length_singleton];omega),zaa,zaf hk (by omega)];rfl
      ·dsimp only;rw[zvu hi,zac,zaa,zac,zvt hk,zab,zac,zan hi,zaa,zan hk,zaa,L88 (n+198),zaa,zaa,zaa];dsimp only;have hsw:=zvP a.edges[i] b.edges[k];by_cases c1:zpV a.edges[i] b.edges[k]<0;·rw[decide_eq_true c1,zac,zaa,zbc (by simp only[lim,List.length_singleton];omega),zaa,zaf hi (by omega)];rfl
       ·rw[decide_eq_false c1,zab,zvt hi,zab,zaa,zaa,L88 (n+198),zaa,zaa,cond_false];dsimp only;by_cases c2:zpV b.edges[k] a.edges[i]<0;·rw[decide_eq_true c2,decide_eq_true (hsw.2 c2),zac,zaa,zbc (by simp only[lim,List.length_singleton];omega),zaa,zaf hk (by omega)];rfl
        ·rw[decide_eq_false c2,decide_eq_false (λh=>c2 (hsw.1 h)),zab,zaf hi (by omega),zaf hk (by omega),cond_false,yAR]
     ·dsimp only;rw[zvr,zvr,zab,zaa,zab]
     ·subst hk;dsimp only;rw[zvu hi,zac,zaa,zac,zvA,zac,zaa,zac,zan hi,zaa,zbc (by simp only[lim,List.length_singleton];omega),zaa,zaf hi (by omega)];rfl
     ·subst hi;dsimp only;rw[zvr,zvu hk,zab,zaa,zac,zvt hk,zab,zab,zaa,zaa,zab,zvA,zac,zaa,zac,zan hk,zaa,zbc (by simp only[lim,List.length_singleton];omega),zaa,zaf hk (by omega)];rfl
     ·dsimp only;rw[zvu hi,zac,zaa,zac,zvt hk,zab,zac,zan hi,zaa,zan hk,zaa,zaa,zaa,zgX];cases c1:decide (a.components[i].ref<b.components[k].ref) with
      |true=>rw[zac,zaa,zbc (by simp only[lim,List.length_singleton];omega),zaa,zaf hi (by omega)];rfl|false =>
        have hx:=zwm a.components[i].ref b.components[k].ref;rw[zgX,c1] at hx;rw[zab,zvt hi,zab,zaa,zaa,zgX,c1,hx,zaa];cases c2:decide (b.components[k].ref<a.components[i].ref) with
        |true=>rw[zac,zaa,zbc (by simp only[lim,List.length_singleton];omega),zaa,zaf hk (by omega)];rfl|false =>
          rw[zab,zaa,zaa,L26x (n+198) (ha.comps _ (yAy hi)).toL,zaa,cond_false,cond_false,zvJ];cases eqb a.components[i] b.components[k] with
          |true=>rw[yBS,zab,zaj,zaf hi (by omega),zaf hk (by omega),cond_true,yAR]|false=>rw[Bool.not_false,zac,zbc (by simp only[lim,List.length_singleton];omega),zaa,zaj,zaf hi (by omega),zaf hk (by omega)];rfl
end Pe.Tryz
end
section
/- The law of the difference (law 10): Diff on both sides, and applying it. -/
set_option maxRecDepth 100000
namespace Pe.Tryz
open Go Go.Proofs Pe Pe.Bfs
theorem zvy{α γ:Type}{lt:α->α->Bool}{g n:α->γ}{o:α->α->List γ}{c:γ}:∀(d:Nat)(a b:List α),a.length+b.length<=d->c∈dif lt g n o a b->(∃x∈a,c=g x)\/(∃y∈b,c=n y)\/∃x∈a,∃y∈b,c∈o x y
 |0,a,b,h,hc=>by obtain rfl:a=[]:=yAU.1 (by omega);obtain rfl:b=[]:=yAU.1 (by omega);rw[dif] at hc;cases hc
 |d+1,a,b,h,hc=>by
   have lift:∀{a' b':List α},(∀z∈a',z∈a)->(∀z∈b',z∈b)->((∃x∈a',c=g x)\/(∃y∈b',c=n y)\/∃x∈a',∃y∈b',c∈o x y)->(∃x∈a,c=g x)\/(∃y∈b,c=n y)\/∃x∈a,∃y∈b,c∈o x y:=λha hb h=>by
    rcases h with ⟨x,hx,e⟩|⟨y,hy,e⟩|⟨x,hx,y,hy,e⟩;·exact .inl ⟨x,ha x hx,e⟩
    ·exact .inr (.inl ⟨y,hb y hy,e⟩)
    ·exact .inr (.inr ⟨x,ha x hx,y,hb y hy,e⟩)
   cases a with
   |nil =>
     cases b with
     |nil=>rw[dif] at hc;cases hc|cons y b =>
       rw[dif] at hc;simp only[yAw,List.length_nil] at h;rcases yAm.1 hc with hc|hc;·exact .inr (.inl ⟨y,by simp,hc⟩)
       ·exact lift (λz hz=>hz) (λz hz=>by simp[hz]) (zvy d [] b (by simp only[List.length_nil];omega) hc)
   |cons x a =>
     cases b with
     |nil =>
       rw[dif] at hc;simp only[yAw,List.length_nil] at h;rcases yAm.1 hc with hc|hc;·exact .inl ⟨x,by simp,hc⟩
       ·exact lift (λz hz=>by simp[hz]) (λz hz=>hz) (zvy d a [] (by simp only[List.length_nil];omega) hc)
     |cons y b =>
       rw[dif] at hc;simp only[yAw] at h;cases h1:lt x y with
       |true =>
         rw[h1] at hc;rcases yAm.1 hc with hc|hc;·exact .inl ⟨x,by simp,hc⟩
         ·exact lift (λz hz=>by simp[hz]) (λz hz=>hz) (zvy d a (y::b) (by simp only[yAw];omega) hc)
       |false =>
         rw[h1] at hc;cases h2:lt y x with
         |true =>
           rw[h2] at hc;rcases yAm.1 hc with hc|hc;·exact .inr (.inl ⟨y,by simp,hc⟩)
           ·exact lift (λz hz=>hz) (λz hz=>by simp[hz]) (zvy d (x::a) b (by simp only[yAw];omega) hc)
         |false =>
           rw[h2] at hc;rcases yAp.1 hc with hc|hc;·exact .inr (.inr ⟨x,by simp,y,by simp,hc⟩)
           ·exact lift (λz hz=>by simp[hz]) (λz hz=>by simp[hz]) (zvy d a b (by omega) hc)
structure OfD (b:Gt.Bill) (c:Gt.BillChange):Prop where
 text:c.text=[]\/c.text=b.name\/c.text=b.version\/c.text=b.root
 comps:∀x∈c.component,x∈b.components
 cl:c.component.length<=1
 el:c.edge.length<=1
theorem zvQ{r x y:List UInt8}{b:Gt.Bill}(hy:y=b.name\/y=b.version\/y=b.root){c:Gt.BillChange}(h:c∈zvx r x y):OfD b c:=by
 unfold zvx at h;cases hb:x==y with
 |true=>rw[hb] at h;cases h|false =>rw[hb] at h;obtain rfl:=yBp.1 h;exact ⟨.inr hy,λz hz=>(by cases hz),yAA _,yAA _⟩
theorem zwj{a b:Gt.Bill}{c:Gt.BillChange}(h:c∈zvG a b):OfD b c:=by
 unfold zvG at h;simp only[yAp] at h;rcases h with h|h|h|h|h;·exact zvQ (.inl rfl) h
 ·exact zvQ (.inr (.inl rfl)) h
 ·exact zvQ (.inr (.inr rfl)) h
 ·rcases zvy _ _ _ (yAi _) h with ⟨x,hx,rfl⟩|⟨y,hy,rfl⟩|⟨x,hx,y,hy,hc⟩;·exact ⟨.inl rfl,λz hz=>(by cases hz),yAA _,yAA _⟩
  ·exact ⟨.inl rfl,λz hz=>by rw[yBp.1 hz];exact hy,yAi _,yAA _⟩
  ·rw[zvJ] at hc;cases hb:eqb x y with
   |true=>rw[hb] at hc;cases hc|false =>rw[hb] at hc;obtain rfl:=yBp.1 hc;exact ⟨.inl rfl,λz hz=>by rw[yBp.1 hz];exact hy,yAi _,yAA _⟩
 ·rcases zvy _ _ _ (yAi _) h with ⟨x,hx,rfl⟩|⟨y,hy,rfl⟩|⟨x,hx,y,hy,hc⟩;·exact ⟨.inl rfl,λz hz=>(by cases hz),yAA _,yAi _⟩
  ·exact ⟨.inl rfl,λz hz=>(by cases hz),yAA _,yAi _⟩
  ·cases hc
theorem zvY{b:Gt.Bill}(hs:SmB b)(h:Right b):b.root.length<=1000000000:=by obtain ⟨k,hk,he⟩:=h.root;rw[<-he,zcU hk];exact (hs.comps _ (yAy hk)).ref
theorem zvX{b:Gt.Bill}(h:zfo b=0):∀c∈b.components,c.ref≠[]:=by unfold zfo at h;obtain ⟨_,h⟩:=zc5 (by decide) h;obtain ⟨_,h⟩:=zc5 (by decide) h;obtain ⟨hc,_⟩:=zni h;intro c hm he;obtain ⟨k,hk,rfl⟩:=yBH hm;have h1:=zsV hc hk;unfold zen at h1;obtain ⟨h1,_⟩:=zni h1;rw[show b.components.getD k noC=b.components[k] from by simp[hk]] at h1;unfold zix at h1;obtain ⟨h1,_⟩:=zc5 (by decide) h1;rw[he] at h1;cases h1
theorem L10{n:Nat}(hn:220<=n){a b:Gt.Bill}(ha:SmB a)(hb:SmB b):m10 (zah n) a b=some (true,()):=by
 obtain ⟨n,rfl⟩:∃k,n=k+220:=⟨n - 220,by omega⟩;have be:∀x:Int,(x==x)=true:=λx=>by simp
 unfold m10
 rw[show @Eq (Option (List Gt.BillChange×Int×Unit)) ((zah (n+220)).d 43 [.st 3 a,.st 3 b] [(.sl (.st 4)),(.int .i64)]) (some (zv0 a b)) from (q43 (n+219) a b).trans (L43 ha hb),zaa,
  show @Eq (Option (List Gt.BillChange×Int×Unit)) ((zah (n+220)).d 44 [.st 3 a,.st 3 b] [(.sl (.st 4)),(.int .i64)]) (some (zv0 a b)) from (q44 (n+219) a b).trans (L44 ha hb),zaa]
 rw[show ((zv0 a b).2.1 != (zv0 a b).2.1)=false from by simp,zab];by_cases h0:zfo a=0/\zfo b=0
 ·obtain ⟨h0,h1⟩:=h0;have hA:=zeo h0;have hB:=zeo h1;have hAn:=hA.n;have hAm:=hA.m;have hBn:=hB.n;have hBm:=hB.m;have hD:zv0 a b=(zvG a b,0,()):=by unfold zv0;rw[h0,h1];rfl
  have hlen:(zvG a b).length<=100000:=by unfold zvG;have l1:=zvs ztB a.name b.name;have l2:=zvs ztA a.version b.version;have l3:=zvs ztG a.root b.root;have l4:=zvL a.components b.components;have l5:=zvW a.edges b.edges;simp only[yAI];omega
  have hof:∀c∈zvG a b,OfD b c:=λc hc=>zwj hc;have hK:∀c∈zvG a b,SmK c:=λc hc=>by
   have h:=hof c hc;refine ⟨?_,λx hx=>hb.comps x (h.comps x hx)⟩;rcases h.text with e|e|e|e;·rw[e];exact yAA _
   ·rw[e];exact hb.name
   ·rw[e];exact hb.version
   ·rw[e];exact zvY hb hB
  have hG:∀c∈zvG a b,SmG c:=λc hc=>by have h:=hof c hc;have:=h.cl;have:=h.el;exact ⟨λx hx=>(hb.comps x (h.comps x hx)).toL,by omega,by omega⟩
  rw[hD];dsimp only;rw[L45 (n+216) hG (by omega),zaa,zaa];dsimp only;rw[yBS,zab,show ((0:Int) != 0)=false from rfl,zab];rw[show @Eq (Option (Gt.Bill×Int×Int×Unit)) ((zah (n+220)).d 41 [.st 3 a,.sl (.st 4) (zvG a b)] [(.st 3),(.int .i64),(.int .i64)]) (some (zun a (zvG a b))) from (q41 (n+219) a (zvG a b)).trans (L41 (by omega) ha hK),zaa];cases h3:decide (30000<len (zvG a b)) with
  |true =>have hO:zun a (zvG a b)=(zB,0,3,()):=(by unfold zun;rw[h0,h3];rfl);rw[hO,zac];dsimp only;rw[be,zac,L19c (by omega)];rfl
  |false =>have hO:zun a (zvG a b)=(b,0,0,()):=(by unfold zun;rw[h0,h3,zwe (hA.going ha) (hB.going hb) (zvX h0) (zvX h1)];simp only[show ((0:Int) != 0)=false from rfl,cond_false];rw[h1];rfl);rw[hO,zab];dsimp only;rw[be,zac,zaa,zac,show @Eq (Option (Bool×Unit)) ((zah (n+220)).d 38 [.st 3 b,.st 3 b] [.bool]) (some (true,())) from (q38 (n+219) _ _).trans (L38 (by omega) hb (by omega) (by omega)),zaa,zaa,zac,L19c (by omega)];rfl
 ·have hne:∃e:Int,e≠0/\zv0 a b=([],e,()):=by
   unfold zv0;cases h1:zfo a != 0 with
   |true=>exact ⟨zfo a,by simpa using h1,rfl⟩|false =>have h1:zfo a=0:=(by simpa using h1);have h2:zfo b≠0:=λh=>h0 ⟨h1,h⟩;exact ⟨zfo b,h2,by rw[cond_false,show (zfo b != 0)=true from by simpa using h2];rfl⟩
  obtain ⟨e,he,hD⟩:=hne;rw[hD];dsimp only;rw[L45 (n+216) (λc hc=>by cases hc) (yAA _),zaa,zaa];dsimp only;rw[yBS,zab,show (e != 0)=true from by simpa using he,zac,L19c (by omega)];rfl
end Pe.Tryz
end
