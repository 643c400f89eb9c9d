/- PROVED HERE: a part of the seat's proofs; see the text that holds the claim's theorem. -/
import Derived.Test.YtbkjohfobibmlaaDoorNm
import Derived.Test.YtbkjohfobibmlaaDoorPtG
section
/- The beginning of a pattern. -/
set_option maxRecDepth 100000
namespace Pe.Tryd
open Go Go.Proofs Pe Pe.Told
theorem pk42(l:B):(pk l==42)=hdB 42 l:=by
 cases l with
 |nil=>rfl|cons c r=>exact eq8 (f:=λc=>((c.toNat:Int)==42)) (g:=λc=>(c==42)) (by decide+kernel) c
def zll(l:B):B×B×Option B:=bif hdB 42 l then (match l.tail with
 |c::r=>bif c==47 then ([42],r,none) else ([],c::r,some (c::r))|[]=>([],[],some [])) else zhB l
def zcd(l:B):B×B×Option B:=match zpZ [112,107,103,58] l with
 | .inl r=>zll r| .inr e=>([],l,some e)
theorem G56t(n:Nat){s:B}(hs:s.length<=3000):∃a:Int,@Eq (ER (B×Unit)) ((zam (n+2)).e 56 [.ptr 0 0,.bool true] [74] [(.st 6)] ((Gt.Rd_.mk s 0 (-1),()):RP×Unit) [.str] [] 0) (some (.inl ((Gt.Rd_.mk s a (zgY s (zcd s).2.2),()),((zcd s).1,()))))/\((zcd s).2.2=none->a=((P s (zcd s).2.1:Nat):Int))/\(zcd s).2.1 <:+ s:=by
 rw[q56];unfold m56;dsimp only
 have hp:=zlT (R:=(B×Int×Int×Unit)⊕(((RP×Unit)×(B×Unit))⊕Unit)) (f:=λ(t1:Int×List UInt8×Int×Int×Unit)=>(br (decide (t1.1<4)) (ob (br (decide ((len t1.2.1)<=t1.1)) (some true) (ob (zbX t1.2.1 t1.1 (IntKind.i64.wrap (t1.1+1))) λs2=>(ob (α:=List UInt8×Unit) ((zam (n+1)).d 30 [.str s2] [.str]) λ(r3:List UInt8×Unit)=>(ob (zbX [112,107,103,58] t1.1 (IntKind.i64.wrap (t1.1+1))) λs4=>(some (r3.1 != s4)))))) λb5=>(br b5 (oc (α:=((RP×Unit)×(Unit))) (β:=Unit) ((zam (n+1)).e 62 [.ptr 0 0,.int .i64 t1.1] [74] [(.st 6)] (((Gt.Rd_.mk t1.2.1 t1.2.2.1 t1.2.2.2.1),()):RP×Unit) [] [] 0) (λ(r6:((RP×Unit)×(Unit)))=>(some (.inr (.inr (.inl ((r6.1.1,()),([],()))))))) λ(p7:Unit)=>(some (.inr (.inr (.inr (())))))) (some (.inl ((IntKind.i64.wrap (t1.1+1)),t1.2.1,t1.2.2.1,t1.2.2.2.1,()))))) (some (.inr (.inl (t1.2.1,t1.2.2.1,t1.2.2.2.1,()))))))
  (λk=>(((k:Nat):Int),s,0, -1,())) (λk=>.inr (.inl ((Gt.Rd_.mk s 0 ((k:Nat):Int),()),([],())))) (.inl (s,0, -1,())) s [112,107,103,58] ?_ rfl [112,107,103,58] s 0 rfl rfl (yAE _) (yAE _)
 ·cases hl:zpZ [112,107,103,58] s with
  |inr e =>
    rw[hl] at hp;have hh:zcd s=([],s,some e):=by unfold zcd;rw[hl]
    rw[hh];exact ⟨0,zaS hp rfl,λh=>(by cases h),yCm _⟩
  |inl r =>
    rw[hl] at hp;obtain ⟨h1,h2⟩:=zlU hl;have hr:r <:+ s:=h2▸List.drop_suffix _ _;have h4:P s r=4:=by have:=congrArg List.length h2;simp only[yAW,yAn,yBd] at this h1;unfold P;omega
    have hh:zcd s=zll r:=(by unfold zcd;rw[hl]);rw[hh];have hpk:br (decide ((4:Int)<len s)) (ob (at? s 4) λc10=>some (((UInt8.toNat c10:Nat):Int),())) (some (0,()))=some (pk r,()):=by have:=zoS hr;rw[h4] at this;exact this
    cases hb:hdB 42 r with
    |true =>
      obtain ⟨t,rfl⟩:=zbM hb;have ht:=zcs hr;have e5:P s t=5:=by rw[zdv hr,h4]
      have hk42:(pk (42::t)==42)=true:=rfl;have hw5:IntKind.i64.wrap (4+1)=5:=rfl;have hpart:zbX s 4 5=some [42]:=(by have:=ziU hr (yAR 42 t);rw[h4,e5] at this;rw[show (42::t).length - t.length=1 by simp] at this;exact this);have hpk5:br (decide ((5:Int)<len s)) (ob (at? s 5) λc10=>some (((UInt8.toNat c10:Nat):Int),())) (some (0,()))=some (pk t,()):=(by have:=zoS ht;rw[e5] at this;exact this);cases hc:hdB 47 t with
      |false =>
        have hk:zll (42::t)=([],t,some t):=by
         unfold zll;cases t with
         |nil=>rfl|cons c t=>simp only[hdB] at hc;simp[hdB,hc]
        rw[hk];refine ⟨5,?_,λh=>(by cases h),ht⟩;refine zaS hp ?_;simp only[zaq,zaf,hpk,zaa,hk42,hw5];refine (congrArg (λz=>ob z _) hpart).trans ?_;rw[zaa,show (([42]:B)==[])=false from rfl,zad];refine (congrArg (λz=>ob (ob z _) _) hpk5).trans ?_;simp only[zaa];rw[show (pk t != 47)=true by rw[show (pk t != 47)= !(hdB 47 t) from congrArg (!·) (zrt _),hc];rfl,zaf,G62,zbI,show zgY s (some t)=5 from congrArg (λz:Nat=>(z:Int)) e5]
      |true =>obtain ⟨u,rfl⟩:=zbM hc;have hk:zll (42::47::u)=([42],u,none):=rfl;rw[hk];refine ⟨((P s u:Nat):Int),?_,λ_=>rfl,zcs ht⟩;refine zaS hp ?_;simp only[zaq,zaf,hpk,zaa,hk42,hw5];refine (congrArg (λz=>ob z _) hpart).trans ?_;rw[zaa,show (([42]:B)==[])=false from rfl,zad];refine (congrArg (λz=>ob (ob z _) _) hpk5).trans ?_;simp only[zaa];rw[show (pk (47::u) != 47)=false from rfl,zad,L30 n (show ([42]:B).length<=1000000000 by simp)];simp only[zaa];rw[show ((P s u:Nat):Int)=6 by rw[zdv ht,e5];rfl];rfl
    |false =>
      have hb42:(pk r==42)=false:=(pk42 r).trans hb;rw[show zll r=zhB r by unfold zll;rw[hb];rfl];have hw:zav (R:=(B×Int×Int×Unit)⊕(((RP×Unit)×(B×Unit))⊕Unit)) (λ(t13:List UInt8×Int×Int×Unit)=>(ob (br (decide (t13.2.1<(len t13.1))) (ob (at? t13.1 t13.2.1) λc17=>(ob (α:=Bool×Unit) ((zam (n+1)).d 65 [.int .u8 (UInt8.toNat c17:Int)] [.bool]) λ(r15:Bool×Unit)=>(some r15.1))) (some false)) λb16=>(br b16 (some (.inl (t13.1,(IntKind.i64.wrap (t13.2.1+1)),t13.2.2.1,()))) (some (.inr (.inl (t13.1,t13.2.1,t13.2.2.1,()))))))) (s,((P s r:Nat):Int), -1,())=some (.inl (s,((P s (r.dropWhile zjw):Nat):Int), -1,())):=by
       refine zie (R:=(B×Int×Int×Unit)⊕(((RP×Unit)×(B×Unit))⊕Unit)) (λk=>(s,((k:Nat):Int), -1,())) (λk=>.inl (s,((k:Nat):Int), -1,())) s zjw 0 ?_ ?_ r hr (yAE _);·intro c t ht _;dsimp only;rw[zfU ht,zk0 ht,show ((c::t) != ([]:B))=true from rfl];simp only[yAT,zaa,zaf,L65];rw[zdT hs,<-zdv ht];cases zjw c<;>rfl
       ·dsimp only;rw[zfU (l:=[]) yCd];rfl
      rw[h4] at hw;have hd:r.dropWhile zjw <:+ s:=(List.dropWhile_suffix zjw).trans hr;have hpart:=zmD (p:=zjw) hr;rw[h4] at hpart;have key:∀{R:Type}(X:Option R),X=X:=λ_=>rfl;cases htw:r.takeWhile zjw with
      |nil =>
        refine ⟨((P s (r.dropWhile zjw):Nat):Int),?_,?_,?_⟩;·refine zaS hp ?_;simp only[zaq,zaf,hpk,zaa,hb42,zad];refine zaS hw ?_;simp only[zaq];refine (congrArg (λz=>ob z _) hpart).trans ?_;rw[htw,zaa,show (([]:B)==[])=true from rfl,zaf,zaa,zaf,G62,zbI];unfold zhB;rw[htw];cases r.dropWhile zjw<;>rfl
        ·unfold zhB;rw[htw];intro h;cases h2:r.dropWhile zjw<;>rw[h2] at h<;>cases h
        ·unfold zhB;rw[htw];cases h2:r.dropWhile zjw<;>rw[h2] at hd<;>exact hd
      |cons k ks =>
        cases hdw:r.dropWhile zjw with
        |nil =>have hk:zhB r=([],[],some []):=(by unfold zhB;rw[htw,hdw]);rw[hk];rw[hdw] at hw hpart hd;refine ⟨((P s []:Nat):Int),?_,λh=>(by cases h),hd⟩;refine zaS hp ?_;simp only[zaq,zaf,hpk,zaa,hb42,zad];refine zaS hw ?_;simp only[zaq];refine (congrArg (λz=>ob z _) hpart).trans ?_;rw[htw,zaa,show ((k::ks:B)==[])=false from rfl,zad,zoS hd];simp only[zaa];rw[show (pk [] != 47)=true from rfl,zaf,G62,zbI];rfl
        |cons c t =>
          rw[hdw] at hw hpart hd;cases hc:(c==47) with
          |false =>have hk:zhB r=([],c::t,some (c::t)):=(by unfold zhB;rw[htw,hdw];simp only[hc,cond_false]);rw[hk];refine ⟨((P s (c::t):Nat):Int),?_,λh=>(by cases h),hd⟩;refine zaS hp ?_;simp only[zaq,zaf,hpk,zaa,hb42,zad];refine zaS hw ?_;simp only[zaq];refine (congrArg (λz=>ob z _) hpart).trans ?_;rw[htw,zaa,show ((k::ks:B)==[])=false from rfl,zad,zoS hd];simp only[zaa];rw[show (pk (c::t) != 47)=true by rw[show (pk (c::t) != 47)= !(hdB 47 (c::t)) from congrArg (!·) (zrt _)];simp only[hdB,hc];rfl,zaf,G62,zbI];rfl
          |true =>
            have hk:zhB r=(zaW (k::ks),t,none):=(by unfold zhB;rw[htw,hdw];simp only[hc,cond_true]);rw[hk];have hlen:(k::ks).length<=3000:=by have:=(List.takeWhile_prefix zjw (l:=r)).length_le;have:=hr.length_le;rw[htw] at *;omega
            refine ⟨((P s t:Nat):Int),?_,λ_=>rfl,zcs hd⟩;refine zaS hp ?_;simp only[zaq,zaf,hpk,zaa,hb42,zad];refine zaS hw ?_;simp only[zaq];refine (congrArg (λz=>ob z _) hpart).trans ?_;rw[htw,zaa,show ((k::ks:B)==[])=false from rfl,zad,zoS hd];simp only[zaa];rw[show (pk (c::t) != 47)=false by rw[show (pk (c::t) != 47)= !(hdB 47 (c::t)) from congrArg (!·) (zrt _)];simp only[hdB,hc];rfl,zad,L30 n (by omega)];simp only[zaa];rw[zdT hs,<-zdv hd];rfl
 ·intro k p hk hks;dsimp only;have hk4:k<4:=(yAc.1 hk).1;rw[decide_eq_true (show ((k:Nat):Int)<4 by omega),zaf];have hw1:IntKind.i64.wrap (((k:Nat):Int)+1)=((k+1:Nat):Int):=by rw[zdw (by omega) (by omega)];rfl
  rw[hw1];cases hd:s[k]? with
  |none =>have:s.length<=k:=List.getElem?_eq_none_iff.1 hd;rw[decide_eq_true (show len s<=((k:Nat):Int) by unfold len;omega)];simp only[zaf,zaa];rw[G62,zbI]
  |some d =>
    have:k<s.length:=(yAc.1 hd).1;rw[decide_eq_false (show ¬len s<=((k:Nat):Int) by unfold len;omega)];simp only[zad,take_one hd,zaa,L30 n (show [d].length<=1000000000 by simp),take_one hk];rw[show (zaW [d] != [p])= !(low d==p) by simp[zaW,bne]];cases (low d==p) with
    |true=>rfl|false=>simp only[yBn,zaf,cond_false];rw[G62,zbI]
end Pe.Tryd
end
section
/- The nodes of a segment, a name or a version of a pattern. -/
set_option maxRecDepth 100000
namespace Pe.Tryd
open Go Go.Proofs Pe Pe.Told
abbrev zeL:=Gt.Nd_
theorem s88(o:Orc Sx)(s p:B):m88 o s p=some (s.take p.length==p,()):=by
 unfold m88;by_cases h:p.length<=s.length;·rw[decide_eq_true (show len p<=len s by unfold len;omega),zaf];have:=zho (l:=s) (i:=0) (j:=p.length) (yAE _) h;rw[yBH,Nat.sub_zero] at this;refine (congrArg (λz=>ob (ob z _) _) this).trans rfl
 ·rw[decide_eq_false (show ¬len p<=len s by unfold len;omega),zad,zaa];have:(s.take p.length==p)=false:=by
   rw[beq_eq_false_iff_ne];intro e;have:=congrArg List.length e;rw[yAU] at this;omega
  rw[this]
theorem L80(n:Nat)(s p:B): @Eq (Option (Bool×Unit)) ((zam (n+2)).d 80 [.str s,.str p] [.bool]) (some (s.take p.length==p,())):=by refine (q80 (n+1) _ _).trans ?_;unfold m80;rw[show @Eq (Option (Bool×Unit)) ((zam (n+1)).d 88 [.str s,.str p] [.bool]) _ from (q88 n _ _).trans (s88 _ s p)];rfl
def zod(sp:Bool):Nat->List zeL->B->(List zeL×B×Option B)⊕(Bool×B×Option B)
 |0,acc,l=>.inl (acc,l,none)
 | k+1,acc,l=>bif hdB 42 l then
    (bif hdB 42 l.tail then (bif (bif (bif !sp then true else decide (0<len acc)) then true else !(l.tail.take 2==[42,47])) then .inr (false,l.tail,some l.tail) else .inr (true,l.tail.tail,none)) else zod sp k (acc++[⟨2,0⟩]) l.tail)
  else match zhq l with
   | .stop=>.inl (acc,l,none)| .bad e=>.inl (acc,l,some e)| .byte c r=>zod sp k (acc++[⟨1,(c.toNat:Int)⟩]) r
theorem zln{R σ:Type}{f:σ->Option (σ⊕R)}(sp:Bool)(mk:List zeL->B->σ)(out:(List zeL×B×Option B)⊕(Bool×B×Option B)->R)(s:B)
  (h:∀acc l,l <:+ s->acc.length+l.length<=3000->f (mk acc l)=bif hdB 42 l then
   (bif hdB 42 l.tail then (bif (bif (bif !sp then true else decide (0<len acc)) then true else !(l.tail.take 2==[42,47])) then some (.inr (out (.inr (false,l.tail,some l.tail)))) else some (.inr (out (.inr (true,l.tail.tail,none))))) else some (.inl (mk (acc++[⟨2,0⟩]) l.tail)))
  else match zhq l with
   | .stop=>some (.inr (out (.inl (acc,l,none))))| .bad e=>some (.inr (out (.inl (acc,l,some e))))| .byte c r=>some (.inl (mk (acc++[⟨1,(c.toNat:Int)⟩]) r))) :
  ∀k acc l,l.length<k->l <:+ s->acc.length+l.length<=3000->zav f (mk acc l)=some (out (zod sp k acc l))
 |0,_,_,hk,_,_=>by omega
 |k+1,acc,l,hk,hl,hb=>by
   have h1:=h acc l hl hb;unfold zod;cases h42:hdB 42 l with
   |true =>
     rw[h42] at h1;obtain ⟨t,rfl⟩:=zbM h42;simp only[yB2,cond_true] at h1 ⊢;simp only[yAn] at hk hb;cases h2:hdB 42 t with
     |true =>
       rw[h2] at h1;simp only[cond_true] at h1 ⊢;cases hc:(bif (bif !sp then true else decide (0<len acc)) then true else !(t.take 2==[42,47])) with
       |true=>rw[hc] at h1;exact zax h1|false=>rw[hc] at h1;exact zax h1
     |false =>rw[h2] at h1;simp only[cond_false] at h1 ⊢;rw[za8 h1,zln sp mk out s h k _ t (by omega) (zcs hl) (by simp;omega)]
   |false =>
     rw[h42] at h1;simp only[cond_false] at h1 ⊢;have ho:=zlZ (l:=l);cases hc:zhq l with
     |stop=>rw[hc] at h1;exact zax h1|bad e=>rw[hc] at h1;exact zax h1|byte c r =>rw[hc] at h1;obtain ⟨g1,g2⟩:=ho.2 c r hc;rw[za8 h1,zln sp mk out s h k _ r (by omega) (g1.trans hl) (by simp;omega)]
def zao(sp:Bool)(l:B):List zeL×Bool×B×Option B:=match zod sp (l.length+1) [] l with
 | .inl (acc,r,e)=>(acc,false,r,bif len acc==0 then some (e.getD r) else e)| .inr (deep,r,e)=>([],deep,r,e)
def itOut(s:B):(List zeL×B×Option B)⊕(Bool×B×Option B)->(List zeL×B×Int×Int×Unit)⊕(((RP×Unit)×(List zeL×Bool×Unit))⊕Unit)| .inl (acc,l,e)=>.inl (acc,s,((P s l:Nat):Int),zgY s e,())| .inr (deep,l,e)=>.inr (.inl ((Gt.Rd_.mk s ((P s l:Nat):Int) (zgY s e),()),([],deep,())))
theorem zos(s:B)(e:Option B)(l:B):(bif e.isNone then ((P s l:Nat):Int) else zgY s e)=zgY s (some (e.getD l)):=by cases e<;>rfl
theorem G67(n:Nat){s l:B}(h:l <:+ s)(hs:s.length<=3000)(sp:Bool) :
  @Eq (ER (List zeL×Bool×Unit)) ((zam (n+3)).e 67 [.ptr 0 0,.bool sp] [74] [(.st 6)] ((Gt.Rd_.mk s ((P s l:Nat):Int) (-1),()):RP×Unit) [(.sl (.st 4)),.bool] [] 0)
   (some (.inl ((Gt.Rd_.mk s ((P s (zao sp l).2.2.1:Nat):Int) (zgY s (zao sp l).2.2.2),()),((zao sp l).1,(zao sp l).2.1,())))):=by
 rw[q67];unfold m67;dsimp only;refine zaS (zln sp (λacc l=>(acc,s,((P s l:Nat):Int), -1,())) (itOut s) s (λacc l hl hb=>?_) (l.length+1) [] l (yCn _) h (by have:=h.length_le;simp;omega)) ?_
 ·dsimp only;rw[show decide ((-1:Int)<0)=true from rfl,zaf,zoS hl,zaa];dsimp only;rw[show (pk l != 42)= !(hdB 42 l) from congrArg (!·) (pk42 l)];cases h42:hdB 42 l with
  |false =>
    rw[yBn,zaf,cond_false,G77 n hl hs,zbI];cases hc:zhq l with
    |stop=>rw[zj8 hc];rfl|bad e=>rw[zfl hc];rfl|byte c r =>rw[zhp hc];dsimp only;rw[yBr,zad,zbu (by simp[lim];omega)];rfl
  |true =>
    obtain ⟨t,rfl⟩:=zbM h42;have ht:=zcs hl;simp only[yAn] at hb;rw[yBr,zad,cond_true,yB2,zdT hs,<-zdv hl,zoS ht,zaa];dsimp only;rw[show (pk t==42)=hdB 42 t from pk42 t];cases h2:hdB 42 t with
    |false=>rw[zad,cond_false,zbu (by simp[lim];omega)];rfl|true =>
      obtain ⟨u,rfl⟩:=zbM h2;rw[zaf,cond_true,zaD,zaa];have hp:zbX s ((P s (42::u):Nat):Int) (len s)=some (42::u):=by have:=ziU ht (yCd (l:=42::u));rw[show ((P s []:Nat):Int)=len s by simp[P,len]] at this;rw[this];simp
      rw[hp,zaa,L80 n,zaa];dsimp only;rw[zaD,zaa];show br (bif (bif !sp then true else decide (0<len acc)) then true else !((42::u:B).take 2==[42,47])) _ _=_;cases (bif (bif !sp then true else decide (0<len acc)) then true else !((42::u:B).take 2==[42,47])) with
      |true=>rw[zaf,cond_true,G62,zbI];rfl|false =>rw[zad,cond_false,zdT hs,<-zdv ht];rfl
 ·unfold zao;cases zod sp (l.length+1) [] l with
  |inr x=>rfl|inl x =>
    obtain ⟨acc,r,e⟩:=x;show br (len acc==0) _ _=_;cases hz:(len acc==0) with
    |false=>simp only[zad,hz,cond_false]|true =>simp only[zaf,hz,cond_true];refine (congrArg (λz=>oc z _ _) (G90e (n+1) s ((P s r:Nat):Int) ((P s r:Nat):Int) e)).trans ?_;show some (Sum.inl ((Gt.Rd_.mk s ((P s r:Nat):Int) (bif e.isNone then ((P s r:Nat):Int) else zgY s e),()),(acc,false,())))=_;rw[zos]
end Pe.Tryd
end
section
/- A pattern is read. -/
set_option maxRecDepth 100000
namespace Pe.Tryd
open Go Go.Proofs Pe Pe.Told
theorem zjb(sp:Bool):∀(k:Nat)(acc:List zeL)(l:B),match zod sp k acc l with
  | .inl (a,r,e)=>r <:+ l/\(∀x,e=some x->x <:+ l)/\a.length+r.length<=acc.length+l.length| .inr (d,r,e)=>r <:+ l/\(∀x,e=some x->x <:+ l)/\r.length<l.length/\(e=none->d=true)
 |0,acc,l=>⟨yCm _,λx h=>(by cases h),yAj _⟩|k+1,acc,l=>by
   unfold zod;cases h42:hdB 42 l with
   |true =>
     obtain ⟨t,rfl⟩:=zbM h42;simp only[cond_true,yB2];cases h2:hdB 42 t with
     |true =>
       obtain ⟨u,rfl⟩:=zbM h2;simp only[cond_true,yB2];cases (bif (bif !sp then true else decide (0<len acc)) then true else !((42::u:B).take 2==[42,47])) with
       |true=>exact ⟨yAR _ _,λx h=>by cases h;exact yAR _ _,by simp,λh=>(by cases h)⟩|false=>exact ⟨(yAR _ _).trans (yAR _ _),λx h=>(by cases h),by simp;omega,λ_=>rfl⟩
     |false =>
       simp only[cond_false];have ih:=zjb sp k (acc++[⟨2,0⟩]) t;revert ih;cases zod sp k (acc++[⟨2,0⟩]) t with
       |inl z =>obtain ⟨a,r,e⟩:=z;intro ih;exact ⟨ih.1.trans (yAR _ _),λx h=>(ih.2.1 x h).trans (yAR _ _),by have:=ih.2.2;simp at this ⊢;omega⟩
       |inr z =>obtain ⟨d,r,e⟩:=z;intro ih;exact ⟨ih.1.trans (yAR _ _),λx h=>(ih.2.1 x h).trans (yAR _ _),by have:=ih.2.2.1;simp;omega,ih.2.2.2⟩
   |false =>
     simp only[cond_false];have ho:=zlZ (l:=l);cases hc:zhq l with
     |stop=>exact ⟨yCm _,λx h=>(by cases h),yAj _⟩|bad e=>exact ⟨yCm _,λx h=>by cases h;exact ho.1 e hc,yAj _⟩|byte c t =>
       obtain ⟨g1,g2⟩:=ho.2 c t hc;have ih:=zjb sp k (acc++[⟨1,(c.toNat:Int)⟩]) t;revert ih;dsimp only;cases zod sp k (acc++[⟨1,(c.toNat:Int)⟩]) t with
       |inl z =>obtain ⟨a,r,e⟩:=z;intro ih;exact ⟨ih.1.trans g1,λx h=>(ih.2.1 x h).trans g1,by have:=ih.2.2;simp at this ⊢;omega⟩
       |inr z =>obtain ⟨d,r,e⟩:=z;intro ih;exact ⟨ih.1.trans g1,λx h=>(ih.2.1 x h).trans g1,by have:=ih.2.2.1;omega,ih.2.2.2⟩
theorem zc0(sp:Bool)(l:B):(zao sp l).2.2.1 <:+ l/\(∀x,(zao sp l).2.2.2=some x->x <:+ l)/\(zao sp l).1.length<=l.length/\((zao sp l).2.2.2=none->(zao sp l).2.2.1.length<l.length/\(zao sp l).1.length+(zao sp l).2.2.1.length<=l.length):=by
 have h:=zjb sp (l.length+1) [] l;unfold zao;revert h;cases zod sp (l.length+1) [] l with
 |inr z =>obtain ⟨d,r,e⟩:=z;intro h;exact ⟨h.1,h.2.1,yAE _,λ_=>⟨h.2.2.1,by have:=h.2.2.1;simp;omega⟩⟩
 |inl z =>
   obtain ⟨a,r,e⟩:=z;intro h;have h3:=h.2.2;simp only[yBd,yAG] at h3;refine ⟨h.1,λx hx=>?_,by dsimp only;omega,λhx=>?_⟩
   ·dsimp only at hx;cases hz:(len a==0) with
    |false=>rw[hz] at hx;exact h.2.1 x hx|true =>
      rw[hz] at hx;cases e with
      |none=>cases hx;exact h.1|some y=>cases hx;exact h.2.1 _ rfl
   ·dsimp only at hx ⊢;cases hz:(len a==0) with
    |false =>
      have:a.length≠0:=λh0=>by rw[show len a=0 by unfold len;omega] at hz;simp at hz
      omega
    |true=>rw[hz] at hx;cases hx
def zhn(ns:List zeL)(r:B):List zeL×Option B :=
 bif r==[] then (ns++[⟨6,0⟩],none) else bif hdB 64 r then ((ns++[⟨5,0⟩])++(zao false r.tail).1,match (zao false r.tail).2.2.2 with
  |some e=>some e|none=>bif (zao false r.tail).2.2.1==[] then none else some (zao false r.tail).2.2.1) else (ns,some r)
def zhm:Nat->List zeL->Nat->B->List zeL×Nat×Option B
 |0,ns,d,_=>(ns,d,none)|k+1,ns,d,l=>match (zao true l).2.2.2 with
   |some e=>(ns,d,some e)
   | none=>bif hdB 47 (zao true l).2.2.1 then
     zhm k (bif !(zao true l).2.1 then (bif (zao true l).2.1 then ns++[⟨4,0⟩] else ns++(zao true l).1)++[⟨3,0⟩] else (bif (zao true l).2.1 then ns++[⟨4,0⟩] else ns++(zao true l).1)) (d+1) (zao true l).2.2.1.tail
    else ((zhn (bif (zao true l).2.1 then ns++[⟨4,0⟩] else ns++(zao true l).1) (zao true l).2.2.1).1,d,(zhn (bif (zao true l).2.1 then ns++[⟨4,0⟩] else ns++(zao true l).1) (zao true l).2.2.1).2)
def zi1(s:B):Gt.Pt_×Option B:=match (zcd s).2.2 with
 |none=>(⟨(zcd s).1,(zhm ((zcd s).2.1.length+1) [] 0 (zcd s).2.1).1,((zhm ((zcd s).2.1.length+1) [] 0 (zcd s).2.1).2.1:Int)⟩,(zhm ((zcd s).2.1.length+1) [] 0 (zcd s).2.1).2.2)|some e=>(⟨(zcd s).1,[],0⟩,some e)
end Pe.Tryd
end
section
/- The program's reader of patterns gives what zi1 says. -/
set_option maxRecDepth 100000
namespace Pe.Tryd
open Go Go.Proofs Pe Pe.Told
abbrev zha(ns:List zeL)(l:B):List zeL:=bif (zao true l).2.1 then ns++[⟨4,0⟩] else ns++(zao true l).1
abbrev zjL(ns:List zeL)(l:B):List zeL:=bif !(zao true l).2.1 then zha ns l++[⟨3,0⟩] else zha ns l
theorem zfc{ns:List zeL}{l:B}(hb:ns.length+l.length<=3000)(he:(zao true l).2.2.2=none):(zha ns l).length+(zao true l).2.2.1.length<=3000/\(zjL ns l).length+(zao true l).2.2.1.length<=3001:=by obtain ⟨h1,h2,h3,h4⟩:=zc0 true l;obtain ⟨h5,h6⟩:=h4 he;unfold zjL zha;cases (zao true l).2.1<;>simp<;>omega
theorem zlW{σ T R:Type}{f:σ->Option (σ⊕(T⊕R))}{K:T->Option R}(mk:List zeL->Nat->B->σ)(Q:List zeL->Nat->Option B->R->Prop)(s:B)
  (h1:∀ns d l,l <:+ s->ns.length+l.length<=3000->d+l.length<=3000->∀e,(zao true l).2.2.2=some e->∃r,f (mk ns d l)=some (.inr (.inr r))/\Q ns d (some e) r)
  (h2:∀ns d l,l <:+ s->ns.length+l.length<=3000->d+l.length<=3000->(zao true l).2.2.2=none->hdB 47 (zao true l).2.2.1=true->f (mk ns d l)=some (.inl (mk (zjL ns l) (d+1) (zao true l).2.2.1.tail)))
  (h3:∀ns d l,l <:+ s->ns.length+l.length<=3000->d+l.length<=3000->(zao true l).2.2.2=none->hdB 47 (zao true l).2.2.1=false->∃t r,f (mk ns d l)=some (.inr (.inl t))/\K t=some r/\Q (zhn (zha ns l) (zao true l).2.2.1).1 d (zhn (zha ns l) (zao true l).2.2.1).2 r) :
  ∀k ns d l,l.length<k->l <:+ s->ns.length+l.length<=3000->d+l.length<=3000->∃r,zaQ (zav f (mk ns d l)) K=some r/\Q (zhm k ns d l).1 (zhm k ns d l).2.1 (zhm k ns d l).2.2 r
 |0,_,_,_,hk,_,_,_=>by omega
 |k+1,ns,d,l,hk,hl,hb,hd=>by
   obtain ⟨g1,g2,g3,g4⟩:=zc0 true l;unfold zhm;cases he:(zao true l).2.2.2 with
   |some e =>obtain ⟨r,e1,e2⟩:=h1 ns d l hl hb hd e he;exact ⟨r,zaS (zax e1) rfl,e2⟩
   |none =>
     obtain ⟨g5,g6⟩:=g4 he;obtain ⟨b1,b2⟩:=zfc hb he;dsimp only;cases h47:hdB 47 (zao true l).2.2.1 with
     |false =>obtain ⟨t,r,e1,e2,e3⟩:=h3 ns d l hl hb hd he h47;exact ⟨r,zaS (zax e1) e2,e3⟩
     |true =>
       obtain ⟨u,hu⟩:=zbM h47;have e1:=h2 ns d l hl hb hd he h47;rw[za8 e1];have hlu:(zao true l).2.2.1.tail.length+1=(zao true l).2.2.1.length:=by rw[hu];simp
       exact zlW mk Q s h1 h2 h3 k _ (d+1) _ (by omega) ((by rw[hu];exact yAR _ _:(zao true l).2.2.1.tail <:+ (zao true l).2.2.1).trans (g1.trans hl)) (by omega) (by omega)
abbrev T9:=B×Int×Int×B×List zeL×Int×B×List zeL×Int×Unit
abbrev PR:=((RP×Unit)×(Gt.Pt_×Unit))⊕Unit
def Q43(s kind:B)(ns:List zeL)(d:Nat)(e:Option B)(r:PR):Prop:=∃a:Int,r= .inl ((Gt.Rd_.mk s a (zgY s e),()),(Gt.Pt_.mk kind ns (d:Int),()))
theorem zjh(s:B)(e:B):decide (0<=zgY s (some e))=true:=zq2 s (some e)
theorem zjg(s:B)(e:B):decide (zgY s (some e)<0)=false:=zor s (some e)
theorem G43(n:Nat){s:B}(hs:s.length<=3000):∃r:PR,@Eq (Option PR) ((zam (n+4)).e 43 [.ptr 0 0] [74] [(.st 6)] ((Gt.Rd_.mk s 0 (-1),()):RP×Unit) [(.st 5)] [] 0) (some r)/\∃a:Int,r= .inl ((Gt.Rd_.mk s a (zgY s (zi1 s).2),()),((zi1 s).1,())):=by
 obtain ⟨a0,hh,hat,hsf⟩:=G56t (n+1) hs;rw[show @Eq (Option PR) ((zam (n+4)).e 43 [.ptr 0 0] [74] [(.st 6)] ((Gt.Rd_.mk s 0 (-1),()):RP×Unit) [(.st 5)] [] 0) _ from q43 (n+3) _];unfold m43;dsimp only;rw[hh,zbI];dsimp only;unfold zi1;cases he:(zcd s).2.2 with
 |some e =>
   rw[he] at hh;have hl:∀{X:Option ((B×Int×Int×B×List zeL×Int×B×List zeL×Int×Unit)⊕((B×Int×Int×B×List zeL×Int×B×List zeL×Int×Unit)⊕PR))}{y:B×Int×Int×B×List zeL×Int×B×List zeL×Int×Unit},br (decide (zgY s (some e)<0)) X (some (.inr (.inl y)))=some (.inr (.inl y)):=λ{X y}=>by rw[zjg s e];rfl
   refine ⟨_,zaS (zax hl) ?_,a0,rfl⟩;rw[zaq];dsimp only;rw[zjh s e,zaf,zaq];dsimp only;rw[zjg s e,zad,zaa,zad]
 |none =>
   have hat:=hat he;subst hat
   have key:=λf K=>zlW (σ:=T9) (T:=T9) (R:=PR) (f:=f) (K:=K) (λns d l=>(s,((P s l:Nat):Int), -1,[],[],0,(zcd s).1,ns,(d:Int),())) (Q43 s (zcd s).1) s;dsimp only;refine key _ _ ?_ ?_ ?_ ((zcd s).2.1.length+1) [] 0 (zcd s).2.1 (yCn _) hsf (by have:=hsf.length_le;simp;omega) (by have:=hsf.length_le;omega);·intro ns d l hl hb hd e hie;refine ⟨_,?_,((P s (zao true l).2.2.1:Nat):Int),rfl⟩;dsimp only;rw[show decide ((-1:Int)<0)=true from rfl,zaf,G67 n hl hs true,zbI];dsimp only;rw[hie,zjh s e,zaf]
   ·intro ns d l hl hb hd hie h47;obtain ⟨g1,g2,g3,g4⟩:=zc0 true l;obtain ⟨b1,b2⟩:=zfc hb hie;obtain ⟨g5,g6⟩:=g4 hie;have hr:=g1.trans hl;dsimp only;rw[show decide ((-1:Int)<0)=true from rfl,zaf,G67 n hl hs true,zbI];dsimp only;rw[hie,show decide (0<=zgY s none)=false from rfl,zad];refine zaS (r:= .inl ([],[],0,(zcd s).1,zha ns l,(d:Int),())) ?_ ?_
    ·unfold zha;cases (zao true l).2.1 with
     |true=>rw[zaf,zbu (by simp[lim];omega)];rfl|false=>rw[zad,zbu (by simp[lim];omega)];rfl
    ·rw[zaq,zoS hr,zaa];dsimp only;rw[show (pk (zao true l).2.2.1 != 47)= !(hdB 47 (zao true l).2.2.1) from congrArg (!·) (zrt _),h47,yBr,zad];obtain ⟨u,hu⟩:=zbM h47;have hP:IntKind.i64.wrap (((P s (zao true l).2.2.1:Nat):Int)+1)=((P s (zao true l).2.2.1.tail:Nat):Int):=by
      have hr2:=hr;rw[hu] at hr2;rw[zdT hs,hu,yB2,zdv hr2]
     have hd1:IntKind.i64.wrap ((d:Int)+1)=((d+1:Nat):Int):=(by rw[zdw (by omega) (by omega)];rfl);rw[hP,hd1];unfold zjL;cases hdp:(zao true l).2.1 with
     |true=>rfl|false =>rw[yBn,zaf,zbu (by simp[lim];omega)];rfl
   ·intro ns d l hl hb hd hie h47;obtain ⟨g1,g2,g3,g4⟩:=zc0 true l;obtain ⟨b1,b2⟩:=zfc hb hie;have hr:=g1.trans hl;refine ⟨(s,((P s (zao true l).2.2.1:Nat):Int), -1,[],[],0,(zcd s).1,zha ns l,(d:Int),()),?_⟩;generalize hrest:(zao true l).2.2.1=r at *
    generalize hns:zha ns l=ns2 at *
    refine exists_and_left.2 ⟨?_,?_⟩
    ·dsimp only;rw[show decide ((-1:Int)<0)=true from rfl,zaf,G67 n hl hs true,zbI];dsimp only;rw[hie,show decide (0<=zgY s none)=false from rfl,zad,hrest];refine zaS (r:= .inl ([],[],0,(zcd s).1,ns2,(d:Int),())) ?_ ?_
     ·rw[<-hns];unfold zha;cases (zao true l).2.1 with
      |true=>rw[zaf,zbu (by simp[lim];omega)];rfl|false=>rw[zad,zbu (by simp[lim];omega)];rfl
     ·rw[zaq,zoS hr,zaa];dsimp only;rw[show (pk r != 47)= !(hdB 47 r) from congrArg (!·) (zrt _),h47,yBn,zaf];rfl
    dsimp only;rw[show decide (0<=(-1:Int))=false from rfl,zad,zqy hr];unfold zhn;cases hr0:(r==[]) with
    |true =>
      obtain rfl:r=[]:=by simpa using hr0
      rw[zaf,zbu (by simp[lim];omega),zaa,zaq];dsimp only;rw[show decide ((-1:Int)<0)=true from rfl,zaf,zfU (yCd (l:=s)),zaa,show (([]:B) != [])=false from rfl,zad];exact ⟨_,rfl,_,rfl⟩
    |false =>
      rw[zad,zoS hr,zaa];dsimp only;rw[pk64 r];cases h64:hdB 64 r with
      |false =>rw[zad,zaq];dsimp only;rw[show decide ((-1:Int)<0)=true from rfl,zaf,zfU hr,zaa,bne,hr0,yBn,zaf,G62,zbI];exact ⟨_,rfl,_,rfl⟩|true =>
        obtain ⟨u,rfl⟩:=zbM h64;have hu:=zcs hr;obtain ⟨i1,i2,i3,i4⟩:=zc0 false u;have hru:=i1.trans hu;simp only[yAn] at b1;rw[zaf,zdT hs,<-zdv hr,G67 n hu hs false,zbI];dsimp only;rw[zbu (by simp[lim];omega),zaa,zbu (by simp[lim];omega),zaa,zaq];dsimp only;cases hie2:(zao false u).2.2.2 with
        |some e =>rw[zjg s e,zad,zaa,zad];exact ⟨_,rfl,((P s (zao false u).2.2.1:Nat):Int),by simp[hie2]⟩|none =>
          rw[show decide (zgY s none<0)=true from rfl,zaf,zfU hru,zaa];cases hz:((zao false u).2.2.1==[]) with
          |true =>rw[bne,hz,yBr,zad];exact ⟨_,rfl,((P s (zao false u).2.2.1:Nat):Int),by simp[hie2,hz]⟩|false =>rw[bne,hz,yBn,zaf,show zgY s none= -1 from rfl,G62,zbI];exact ⟨_,rfl,((P s (zao false u).2.2.1:Nat):Int),by simp[hie2,hz];rfl⟩
end Pe.Tryd
end
section
/- What readPattern returns. -/
set_option maxRecDepth 100000
namespace Pe.Tryd
open Go Go.Proofs Pe Pe.Told
def ziu(k:List UInt8):Int:=if zfE=k then 0 else if zdC=k then 1 else if ze7=k then 2 else if zb3=k then 3 else if zfi=k then 4 else -1
theorem zrX(k:List UInt8):c44 k=some (ziu k,()):=by
 by_cases h1:zfE=k;·subst h1;kernel_rfl
 by_cases h2:zdC=k;·subst h2;kernel_rfl
 by_cases h3:ze7=k;·subst h3;kernel_rfl
 by_cases h4:zb3=k;·subst h4;kernel_rfl
 by_cases h5:zfi=k;·subst h5;kernel_rfl
 have hp:ziu k= -1:=by simp[ziu,h1,h2,h3,h4,h5]
 rw[hp];have e1:=zlz h1;have e2:=zlz h2;have e3:=zlz h3;have e4:=zlz h4;have e5:=zlz h5;simp only[zfE,zdC,ze7,zb3,zfi] at e1 e2 e3 e4 e5;simp[c44,c47,ob,itC,zh5,br,at?,IntKind.wrap,IntKind.bits,IntKind.signed,e1,e2,e3,e4,e5,zaQ]
theorem L44(n:Nat)(k:List UInt8):(zam (n+2)).d 44 [.str k] [(.int .i64)]=some (ziu k,()):=zqh n k _ (zrX k)
theorem zmV(k:List UInt8):decide (ziu k<0)=(zjT k).isNone:=by
 unfold ziu zjT;split;·rfl
 split;·rfl
 split;·rfl
 split;·rfl
 split<;>rfl
def zp0:Gt.Pt_:=⟨[],[],0⟩
def zgJ(s:B):Gt.Pt_×Int×Int×Unit :=
 bif decide (3000<len s) then (zp0,0,3,()) else match (zi1 s).2 with
 |some e=>(zp0,((P s e:Nat):Int),6,())|none=>bif (bif (zi1 s).1.kind != [42] then (zjT (zi1 s).1.kind).isNone else false) then (zp0,0,7,()) else bif decide (10<(zi1 s).1.deep) then (zp0,0,3,()) else ((zi1 s).1,0,0,())
theorem L18(n:Nat)(s:B): @Eq (Option (Gt.Pt_×Int×Int×Unit)) ((zam (n+5)).d 18 [.str s] [(.st 5),(.int .i64),(.int .i64)]) (some (zgJ s)):=by
 refine (q18 (n+4) _).trans ?_;unfold m18 zgJ;cases hl:decide (3000<len s) with
 |true=>rfl|false =>
   have hs:s.length<=3000:=(by have:=of_decide_eq_false hl;unfold len at this;omega);obtain ⟨r,h1,a,rfl⟩:=G43 n hs;rw[zad,cond_false,h1,zbI];dsimp only;cases he:(zi1 s).2 with
   |some e=>rw[zjh s e,zaf];rfl|none =>
     rw[show decide (0<=zgY s none)=false from rfl,zad,L44 (n+2),zaa,zaD,zaa,zmV];cases (bif (zi1 s).1.kind != [42] then (zjT (zi1 s).1.kind).isNone else false) with
     |true=>rfl|false =>rw[zad];cases decide (10<(zi1 s).1.deep)<;>rfl
theorem zmX{ns:List zeL}{r:B}{M:Nat}(h:ns.length+r.length<=M):(zhn ns r).1.length<=M+1:=by
 unfold zhn;cases r==[] with
 |true=>simp;omega|false =>
   cases h64:hdB 64 r with
   |false=>simp;omega|true =>obtain ⟨u,rfl⟩:=zbM h64;have:=(zc0 false u).2.2.1;simp at h ⊢;omega
theorem zj3:∀(k:Nat)(ns:List zeL)(d:Nat)(l:B),ns.length+l.length<=3000->(zhm k ns d l).1.length<=3001
 |0,ns,d,l,h=>by unfold zhm;dsimp only;omega
 |k+1,ns,d,l,h=>by
   obtain ⟨g1,g2,g3,g4⟩:=zc0 true l;unfold zhm;cases he:(zao true l).2.2.2 with
   |some e=>dsimp only;omega|none =>
     obtain ⟨g5,g6⟩:=g4 he;obtain ⟨b1,b2⟩:=zfc h he;dsimp only;cases h47:hdB 47 (zao true l).2.2.1 with
     |false=>exact zmX b1|true =>
       obtain ⟨u,hu⟩:=zbM h47;have hlu:(zao true l).2.2.1.tail.length+1=(zao true l).2.2.1.length:=by rw[hu];simp
       exact zj3 k (zjL ns l) (d+1) _ (by omega)
theorem zoi(n:Nat){s:B}(hs:s.length<=3000):(zcd s).2.1 <:+ s:=by obtain ⟨_,_,_,h⟩:=G56t n hs;exact h
theorem znI(s:B):(zgJ s).1.nodes.length<=1000000:=by
 unfold zgJ;cases hl:decide (3000<len s) with
 |true=>simp[zp0]|false =>
   have hs:s.length<=3000:=(by have:=of_decide_eq_false hl;unfold len at this;omega);have hp:(zi1 s).1.nodes.length<=3001:=by
    unfold zi1;cases (zcd s).2.2 with
    |some e=>simp|none=>exact zj3 _ _ _ _ (by have:=(zoi 0 hs).length_le;simp;omega)
   rw[cond_false];cases (zi1 s).2 with
   |some e=>simp[zp0]|none =>
     dsimp only;cases (bif (zi1 s).1.kind != [42] then (zjT (zi1 s).1.kind).isNone else false) with
     |true=>simp[zp0]|false =>
       cases decide (10<(zi1 s).1.deep) with
       |true=>simp[zp0]|false=>simp only[cond_false];omega
theorem L7(n:Nat)(s:B){p:Gt.Purl}(h:p.qualifiers.length<=1000000000): @Eq (Option (Bool×Int×Unit)) ((zam (n+6)).d 7 [.str s,.st 3 p] [.bool,(.int .i64)]) (some (zhx (zgJ s).1 (zgJ s).2.2.1 p)) :=
 (q7 (n+5) _ _).trans (s7 (n+1) (L18 n s) (λ_=>znI s) h)
theorem L3(n:Nat)(s:B){p:Gt.Purl}(h:p.qualifiers.length<=1000000000):m3 (zam (n+7)) s p=some (true,()):=by
 unfold m3;rw[L4 (n+2) h,zaa];unfold zoA;cases hc:(zbE p != 0) with
 |true =>rw[cond_true];dsimp only;rw[hc,zaf,L5 (n+3) h,zaa];dsimp only;rw[show (zbE p==zbE p)=true by simp,zaf,told n];rfl|false =>have h0:zbE p=0:=(by simpa using hc);have hq:(za9 p).qualifiers.length<=1000000000:=h;rw[cond_false];dsimp only;rw[show ((0:Int) != 0)=false from rfl,zad,L7 (n+1) s h,zaa,L7 (n+1) s hq,zaa];have e:zhx (zgJ s).1 (zgJ s).2.2.1 (za9 p)=zhx (zgJ s).1 (zgJ s).2.2.1 p:=(by unfold zhx;rw[zlv h0,h0,zlw]);rw[e,told n];generalize zhx (zgJ s).1 (zgJ s).2.2.1 p=z;obtain ⟨b,i,⟨⟩⟩:=z;simp[zaf,zaa]
end Pe.Tryd
end
