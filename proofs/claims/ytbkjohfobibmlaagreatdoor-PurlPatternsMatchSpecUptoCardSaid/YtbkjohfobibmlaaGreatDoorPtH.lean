/- PROVED HERE: a part of the seat's proofs; see the text that holds the claim's theorem. -/
import Derived.Test.YtbkjohfobibmlaaGreatDoorNm
import Derived.Test.YtbkjohfobibmlaaGreatDoorPtG
section
/- The beginning of a pattern. -/
set_option maxRecDepth 100000
namespace Pe.Tryz
open Go Go.Proofs Pe Pe.Told
theorem pk42(l:B):(pk l==42)=hdB 42 l:=by
 cases l with
 |nil=>rfl|cons c r=>exact eq8 (f:=λc=>((c.toNat:Int)==42)) (g:=λc=>(c==42)) (by decide+kernel) c
def zef(l:B):B×B×Option B:=bif hdB 42 l then (match l.tail with
 |c::r=>bif c==47 then ([42],r,none) else ([],c::r,some (c::r))|[]=>([],[],some [])) else zex l
def zas(l:B):B×B×Option B:=match zj6 [112,107,103,58] l with
 | .inl r=>zef r| .inr e=>([],l,some e)
theorem G56t(n:Nat){s:B}(hs:s.length<=3000):∃a:Int,@Eq (ER (B×Unit)) ((zal (n+2)).e 103 [.ptr 0 0,.bool true] [98] [(.st 12)] ((Gt.Rd_.mk s 0 (-1),()):RP×Unit) [.str] [] 0) (some (.inl ((Gt.Rd_.mk s a (zhY s (zas s).2.2),()),((zas s).1,()))))/\((zas s).2.2=none->a=((P s (zas s).2.1:Nat):Int))/\(zas s).2.1 <:+ s:=by
 rw[q103];unfold m103;dsimp only
 have hp:=zng (R:=(B×Int×Int×Unit)⊕(((RP×Unit)×(B×Unit))⊕Unit)) (f:=λ(t1:Int×List UInt8×Int×Int×Unit)=>(br (decide (t1.1<4)) (ob (br (decide ((len t1.2.1)<=t1.1)) (some true) (ob (zbu t1.2.1 t1.1 (IntKind.i64.wrap (t1.1+1))) λs2=>(ob (α:=List UInt8×Unit) ((zal (n+1)).d 57 [.str s2] [.str]) λ(r3:List UInt8×Unit)=>(ob (zbu [112,107,103,58] t1.1 (IntKind.i64.wrap (t1.1+1))) λs4=>(some (r3.1 != s4)))))) λb5=>(br b5 (oc (α:=((RP×Unit)×(Unit))) (β:=Unit) ((zal (n+1)).e 106 [.ptr 0 0,.int .i64 t1.1] [98] [(.st 12)] (((Gt.Rd_.mk t1.2.1 t1.2.2.1 t1.2.2.2.1),()):RP×Unit) [] [] 0) (λ(r6:((RP×Unit)×(Unit)))=>(some (.inr (.inr (.inl ((r6.1.1,()),([],()))))))) λ(p7:Unit)=>(some (.inr (.inr (.inr (())))))) (some (.inl ((IntKind.i64.wrap (t1.1+1)),t1.2.1,t1.2.2.1,t1.2.2.2.1,()))))) (some (.inr (.inl (t1.2.1,t1.2.2.1,t1.2.2.2.1,()))))))
  (λk=>(((k:Nat):Int),s,0, -1,())) (λk=>.inr (.inl ((Gt.Rd_.mk s 0 ((k:Nat):Int),()),([],())))) (.inl (s,0, -1,())) s [112,107,103,58] ?_ rfl [112,107,103,58] s 0 rfl rfl (yAD _) (yAD _)
 ·cases hl:zj6 [112,107,103,58] s with
  |inr e =>
    rw[hl] at hp;have hh:zas s=([],s,some e):=by unfold zas;rw[hl]
    rw[hh];exact ⟨0,zaA hp rfl,λh=>(by cases h),yBp _⟩
  |inl r =>
    rw[hl] at hp;obtain ⟨h1,h2⟩:=znh hl;have hr:r <:+ s:=h2▸List.drop_suffix _ _;have h4:P s r=4:=by have:=congrArg List.length h2;simp only[yAQ,yAi,yAZ] at this h1;unfold P;omega
    have hh:zas s=zef r:=(by unfold zas;rw[hl]);rw[hh];have hpk:br (decide ((4:Int)<len s)) (ob (at? s 4) λc33=>some (((UInt8.toNat c33:Nat):Int),())) (some (0,()))=some (pk r,()):=by have:=zqM hr;rw[h4] at this;exact this
    cases hb:hdB 42 r with
    |true =>
      obtain ⟨t,rfl⟩:=zbh hb;have ht:=za4 hr;have e5:P s t=5:=by rw[zbt hr,h4]
      have hk42:(pk (42::t)==42)=true:=rfl;have hw5:IntKind.i64.wrap (4+1)=5:=rfl;have hpart:zbu s 4 5=some [42]:=(by have:=zhO hr (yAP 42 t);rw[h4,e5] at this;rw[show (42::t).length - t.length=1 by simp] at this;exact this);have hpk5:br (decide ((5:Int)<len s)) (ob (at? s 5) λc33=>some (((UInt8.toNat c33:Nat):Int),())) (some (0,()))=some (pk t,()):=(by have:=zqM ht;rw[e5] at this;exact this);cases hc:hdB 47 t with
      |false =>
        have hk:zef (42::t)=([],t,some t):=by
         unfold zef;cases t with
         |nil=>rfl|cons c t=>simp only[hdB] at hc;simp[hdB,hc]
        rw[hk];refine ⟨5,?_,λh=>(by cases h),ht⟩;refine zaA hp ?_;simp only[zai,zad,hpk,zaa,hk42,hw5];refine (congrArg (λz=>ob z _) hpart).trans ?_;rw[zaa,show (([42]:B)==[])=false from rfl,zab];refine (congrArg (λz=>ob (ob z _) _) hpk5).trans ?_;simp only[zaa];rw[show (pk t != 47)=true by rw[show (pk t != 47)= !(hdB 47 t) from congrArg (!·) (ztM _),hc];rfl,zad,G106,zaH,show zhY s (some t)=5 from congrArg (λz:Nat=>(z:Int)) e5]
      |true =>obtain ⟨u,rfl⟩:=zbh hc;have hk:zef (42::47::u)=([42],u,none):=rfl;rw[hk];refine ⟨((P s u:Nat):Int),?_,λ_=>rfl,za4 ht⟩;refine zaA hp ?_;simp only[zai,zad,hpk,zaa,hk42,hw5];refine (congrArg (λz=>ob z _) hpart).trans ?_;rw[zaa,show (([42]:B)==[])=false from rfl,zab];refine (congrArg (λz=>ob (ob z _) _) hpk5).trans ?_;simp only[zaa];rw[show (pk (47::u) != 47)=false from rfl,zab,L57 n (show ([42]:B).length<=1000000000 by simp)];simp only[zaa];rw[show ((P s u:Nat):Int)=6 by rw[zbt ht,e5];rfl];rfl
    |false =>
      have hb42:(pk r==42)=false:=(pk42 r).trans hb;rw[show zef r=zex r by unfold zef;rw[hb];rfl];have hw:zau (R:=(B×Int×Int×Unit)⊕(((RP×Unit)×(B×Unit))⊕Unit)) (λ(t13:List UInt8×Int×Int×Unit)=>(ob (br (decide (t13.2.1<(len t13.1))) (ob (at? t13.1 t13.2.1) λc27=>(ob (α:=Bool×Unit) ((zal (n+1)).d 123 [.int .u8 (UInt8.toNat c27:Int)] [.bool]) λ(r15:Bool×Unit)=>(some r15.1))) (some false)) λb16=>(br b16 (some (.inl (t13.1,(IntKind.i64.wrap (t13.2.1+1)),t13.2.2.1,()))) (some (.inr (.inl (t13.1,t13.2.1,t13.2.2.1,()))))))) (s,((P s r:Nat):Int), -1,())=some (.inl (s,((P s (r.dropWhile zcG):Nat):Int), -1,())):=by
       refine zgD (R:=(B×Int×Int×Unit)⊕(((RP×Unit)×(B×Unit))⊕Unit)) (λk=>(s,((k:Nat):Int), -1,())) (λk=>.inl (s,((k:Nat):Int), -1,())) s zcG 0 ?_ ?_ r hr (yAD _);·intro c t ht _;dsimp only;rw[zgM ht,zft ht,show ((c::t) != ([]:B))=true from rfl];simp only[yAC,zaa,zad,L123];rw[zbD hs,<-zbt ht];cases zcG c<;>rfl
       ·dsimp only;rw[zgM (l:=[]) yBQ];rfl
      rw[h4] at hw;have hd:r.dropWhile zcG <:+ s:=(List.dropWhile_suffix zcG).trans hr;have hpart:=zje (p:=zcG) hr;rw[h4] at hpart;have key:∀{R:Type}(X:Option R),X=X:=λ_=>rfl;cases htw:r.takeWhile zcG with
      |nil =>
        refine ⟨((P s (r.dropWhile zcG):Nat):Int),?_,?_,?_⟩;·refine zaA hp ?_;simp only[zai,zad,hpk,zaa,hb42,zab];refine zaA hw ?_;simp only[zai];refine (congrArg (λz=>ob z _) hpart).trans ?_;rw[htw,zaa,show (([]:B)==[])=true from rfl,zad,zaa,zad,G106,zaH];unfold zex;rw[htw];cases r.dropWhile zcG<;>rfl
        ·unfold zex;rw[htw];intro h;cases h2:r.dropWhile zcG<;>rw[h2] at h<;>cases h
        ·unfold zex;rw[htw];cases h2:r.dropWhile zcG<;>rw[h2] at hd<;>exact hd
      |cons k ks =>
        cases hdw:r.dropWhile zcG with
        |nil =>have hk:zex r=([],[],some []):=(by unfold zex;rw[htw,hdw]);rw[hk];rw[hdw] at hw hpart hd;refine ⟨((P s []:Nat):Int),?_,λh=>(by cases h),hd⟩;refine zaA hp ?_;simp only[zai,zad,hpk,zaa,hb42,zab];refine zaA hw ?_;simp only[zai];refine (congrArg (λz=>ob z _) hpart).trans ?_;rw[htw,zaa,show ((k::ks:B)==[])=false from rfl,zab,zqM hd];simp only[zaa];rw[show (pk [] != 47)=true from rfl,zad,G106,zaH];rfl
        |cons c t =>
          rw[hdw] at hw hpart hd;cases hc:(c==47) with
          |false =>have hk:zex r=([],c::t,some (c::t)):=(by unfold zex;rw[htw,hdw];simp only[hc,cond_false]);rw[hk];refine ⟨((P s (c::t):Nat):Int),?_,λh=>(by cases h),hd⟩;refine zaA hp ?_;simp only[zai,zad,hpk,zaa,hb42,zab];refine zaA hw ?_;simp only[zai];refine (congrArg (λz=>ob z _) hpart).trans ?_;rw[htw,zaa,show ((k::ks:B)==[])=false from rfl,zab,zqM hd];simp only[zaa];rw[show (pk (c::t) != 47)=true by rw[show (pk (c::t) != 47)= !(hdB 47 (c::t)) from congrArg (!·) (ztM _)];simp only[hdB,hc];rfl,zad,G106,zaH];rfl
          |true =>
            have hk:zex r=(zaY (k::ks),t,none):=(by unfold zex;rw[htw,hdw];simp only[hc,cond_true]);rw[hk];have hlen:(k::ks).length<=3000:=by have:=(List.takeWhile_prefix zcG (l:=r)).length_le;have:=hr.length_le;rw[htw] at *;omega
            refine ⟨((P s t:Nat):Int),?_,λ_=>rfl,za4 hd⟩;refine zaA hp ?_;simp only[zai,zad,hpk,zaa,hb42,zab];refine zaA hw ?_;simp only[zai];refine (congrArg (λz=>ob z _) hpart).trans ?_;rw[htw,zaa,show ((k::ks:B)==[])=false from rfl,zab,zqM hd];simp only[zaa];rw[show (pk (c::t) != 47)=false by rw[show (pk (c::t) != 47)= !(hdB 47 (c::t)) from congrArg (!·) (ztM _)];simp only[hdB,hc];rfl,zab,L57 n (by omega)];simp only[zaa];rw[zbD hs,<-zbt hd];rfl
 ·intro k p hk hks;dsimp only;have hk4:k<4:=(yAc.1 hk).1;rw[decide_eq_true (show ((k:Nat):Int)<4 by omega),zad];have hw1:IntKind.i64.wrap (((k:Nat):Int)+1)=((k+1:Nat):Int):=by rw[zbT (by omega) (by omega)];rfl
  rw[hw1];cases hd:s[k]? with
  |none =>have:s.length<=k:=List.getElem?_eq_none_iff.1 hd;rw[decide_eq_true (show len s<=((k:Nat):Int) by unfold len;omega)];simp only[zad,zaa];rw[G106,zaH]
  |some d =>
    have:k<s.length:=(yAc.1 hd).1;rw[decide_eq_false (show ¬len s<=((k:Nat):Int) by unfold len;omega)];simp only[zab,take_one hd,zaa,L57 n (show [d].length<=1000000000 by simp),take_one hk];rw[show (zaY [d] != [p])= !(low d==p) by simp[zaY,bne]];cases (low d==p) with
    |true=>rfl|false=>simp only[yAU,zad,cond_false];rw[G106,zaH]
end Pe.Tryz
end
section
/- The nodes of a segment, a name or a version of a pattern. -/
set_option maxRecDepth 100000
namespace Pe.Tryz
open Go Go.Proofs Pe Pe.Told
abbrev zbq:=Gt.Nd_
theorem s157(o:Orc Sx)(s p:B):m157 o s p=some (s.take p.length==p,()):=by
 unfold m157;by_cases h:p.length<=s.length;·rw[decide_eq_true (show len p<=len s by unfold len;omega),zad];have:=zdQ (l:=s) (i:=0) (j:=p.length) (yAD _) h;rw[yBB,Nat.sub_zero] at this;refine (congrArg (λz=>ob (ob z _) _) this).trans rfl
 ·rw[decide_eq_false (show ¬len p<=len s by unfold len;omega),zab,zaa];have:(s.take p.length==p)=false:=by
   rw[beq_eq_false_iff_ne];intro e;have:=congrArg List.length e;rw[yA1] at this;omega
  rw[this]
theorem L141(n:Nat)(s p:B): @Eq (Option (Bool×Unit)) ((zal (n+2)).d 141 [.str s,.str p] [.bool]) (some (s.take p.length==p,())):=by refine (q141 (n+1) _ _).trans ?_;unfold m141;rw[show @Eq (Option (Bool×Unit)) ((zal (n+1)).d 157 [.str s,.str p] [.bool]) _ from (q157 n _ _).trans (s157 _ s p)];rfl
def zhW(sp:Bool):Nat->List zbq->B->(List zbq×B×Option B)⊕(Bool×B×Option B)
 |0,acc,l=>.inl (acc,l,none)
 | k+1,acc,l=>bif hdB 42 l then
    (bif hdB 42 l.tail then (bif (bif (bif !sp then true else decide (0<len acc)) then true else !(l.tail.take 2==[42,47])) then .inr (false,l.tail,some l.tail) else .inr (true,l.tail.tail,none)) else zhW sp k (acc++[⟨2,0⟩]) l.tail)
  else match zen l with
   | .stop=>.inl (acc,l,none)| .bad e=>.inl (acc,l,some e)| .byte c r=>zhW sp k (acc++[⟨1,(c.toNat:Int)⟩]) r
theorem zmG{R σ:Type}{f:σ->Option (σ⊕R)}(sp:Bool)(mk:List zbq->B->σ)(out:(List zbq×B×Option B)⊕(Bool×B×Option B)->R)(s:B)
  (h:∀acc l,l <:+ s->acc.length+l.length<=3000->f (mk acc l)=bif hdB 42 l then
   (bif hdB 42 l.tail then (bif (bif (bif !sp then true else decide (0<len acc)) then true else !(l.tail.take 2==[42,47])) then some (.inr (out (.inr (false,l.tail,some l.tail)))) else some (.inr (out (.inr (true,l.tail.tail,none))))) else some (.inl (mk (acc++[⟨2,0⟩]) l.tail)))
  else match zen l with
   | .stop=>some (.inr (out (.inl (acc,l,none))))| .bad e=>some (.inr (out (.inl (acc,l,some e))))| .byte c r=>some (.inl (mk (acc++[⟨1,(c.toNat:Int)⟩]) r))) :
  ∀k acc l,l.length<k->l <:+ s->acc.length+l.length<=3000->zau f (mk acc l)=some (out (zhW sp k acc l))
 |0,_,_,hk,_,_=>by omega
 |k+1,acc,l,hk,hl,hb=>by
   have h1:=h acc l hl hb;unfold zhW;cases h42:hdB 42 l with
   |true =>
     rw[h42] at h1;obtain ⟨t,rfl⟩:=zbh h42;simp only[yBb,cond_true] at h1 ⊢;simp only[yAi] at hk hb;cases h2:hdB 42 t with
     |true =>
       rw[h2] at h1;simp only[cond_true] at h1 ⊢;cases hc:(bif (bif !sp then true else decide (0<len acc)) then true else !(t.take 2==[42,47])) with
       |true=>rw[hc] at h1;exact zao h1|false=>rw[hc] at h1;exact zao h1
     |false =>rw[h2] at h1;simp only[cond_false] at h1 ⊢;rw[zay h1,zmG sp mk out s h k _ t (by omega) (za4 hl) (by simp;omega)]
   |false =>
     rw[h42] at h1;simp only[cond_false] at h1 ⊢;have ho:=zf7 (l:=l);cases hc:zen l with
     |stop=>rw[hc] at h1;exact zao h1|bad e=>rw[hc] at h1;exact zao h1|byte c r =>rw[hc] at h1;obtain ⟨g1,g2⟩:=ho.2 c r hc;rw[zay h1,zmG sp mk out s h k _ r (by omega) (g1.trans hl) (by simp;omega)]
def zaf(sp:Bool)(l:B):List zbq×Bool×B×Option B:=match zhW sp (l.length+1) [] l with
 | .inl (acc,r,e)=>(acc,false,r,bif len acc==0 then some (e.getD r) else e)| .inr (deep,r,e)=>([],deep,r,e)
def itOut(s:B):(List zbq×B×Option B)⊕(Bool×B×Option B)->(List zbq×B×Int×Int×Unit)⊕(((RP×Unit)×(List zbq×Bool×Unit))⊕Unit)| .inl (acc,l,e)=>.inl (acc,s,((P s l:Nat):Int),zhY s e,())| .inr (deep,l,e)=>.inr (.inl ((Gt.Rd_.mk s ((P s l:Nat):Int) (zhY s e),()),([],deep,())))
theorem zqe(s:B)(e:Option B)(l:B):(bif e.isNone then ((P s l:Nat):Int) else zhY s e)=zhY s (some (e.getD l)):=by cases e<;>rfl
theorem G104(n:Nat){s l:B}(h:l <:+ s)(hs:s.length<=3000)(sp:Bool) :
  @Eq (ER (List zbq×Bool×Unit)) ((zal (n+3)).e 104 [.ptr 0 0,.bool sp] [98] [(.st 12)] ((Gt.Rd_.mk s ((P s l:Nat):Int) (-1),()):RP×Unit) [(.sl (.st 10)),.bool] [] 0)
   (some (.inl ((Gt.Rd_.mk s ((P s (zaf sp l).2.2.1:Nat):Int) (zhY s (zaf sp l).2.2.2),()),((zaf sp l).1,(zaf sp l).2.1,())))):=by
 rw[q104];unfold m104;dsimp only;refine zaA (zmG sp (λacc l=>(acc,s,((P s l:Nat):Int), -1,())) (itOut s) s (λacc l hl hb=>?_) (l.length+1) [] l (yBX _) h (by have:=h.length_le;simp;omega)) ?_
 ·dsimp only;rw[show decide ((-1:Int)<0)=true from rfl,zad,zqM hl,zaa];dsimp only;rw[show (pk l != 42)= !(hdB 42 l) from congrArg (!·) (pk42 l)];cases h42:hdB 42 l with
  |false =>
    rw[yAU,zad,cond_false,G140 n hl hs,zaH];cases hc:zen l with
    |stop=>rw[zlm hc];rfl|bad e=>rw[zf6 hc];rfl|byte c r =>rw[zir hc];dsimp only;rw[yA7,zab,zbj (by simp[lim];omega)];rfl
  |true =>
    obtain ⟨t,rfl⟩:=zbh h42;have ht:=za4 hl;simp only[yAi] at hb;rw[yA7,zab,cond_true,yBb,zbD hs,<-zbt hl,zqM ht,zaa];dsimp only;rw[show (pk t==42)=hdB 42 t from pk42 t];cases h2:hdB 42 t with
    |false=>rw[zab,cond_false,zbj (by simp[lim];omega)];rfl|true =>
      obtain ⟨u,rfl⟩:=zbh h2;rw[zad,cond_true,zav,zaa];have hp:zbu s ((P s (42::u):Nat):Int) (len s)=some (42::u):=by have:=zhO ht (yBQ (l:=42::u));rw[show ((P s []:Nat):Int)=len s by simp[P,len]] at this;rw[this];simp
      rw[hp,zaa,L141 n,zaa];dsimp only;rw[zav,zaa];show br (bif (bif !sp then true else decide (0<len acc)) then true else !((42::u:B).take 2==[42,47])) _ _=_;cases (bif (bif !sp then true else decide (0<len acc)) then true else !((42::u:B).take 2==[42,47])) with
      |true=>rw[zad,cond_true,G106,zaH];rfl|false =>rw[zab,cond_false,zbD hs,<-zbt ht];rfl
 ·unfold zaf;cases zhW sp (l.length+1) [] l with
  |inr x=>rfl|inl x =>
    obtain ⟨acc,r,e⟩:=x;show br (len acc==0) _ _=_;cases hz:(len acc==0) with
    |false=>simp only[zab,hz,cond_false]|true =>simp only[zad,hz,cond_true];refine (congrArg (λz=>oc z _ _) (G90e (n+1) s ((P s r:Nat):Int) ((P s r:Nat):Int) e)).trans ?_;show some (Sum.inl ((Gt.Rd_.mk s ((P s r:Nat):Int) (bif e.isNone then ((P s r:Nat):Int) else zhY s e),()),(acc,false,())))=_;rw[zqe]
end Pe.Tryz
end
section
/- A pattern is read. -/
set_option maxRecDepth 100000
namespace Pe.Tryz
open Go Go.Proofs Pe Pe.Told
theorem zhV(sp:Bool):∀(k:Nat)(acc:List zbq)(l:B),match zhW sp k acc l with
  | .inl (a,r,e)=>r <:+ l/\(∀x,e=some x->x <:+ l)/\a.length+r.length<=acc.length+l.length| .inr (d,r,e)=>r <:+ l/\(∀x,e=some x->x <:+ l)/\r.length<l.length/\(e=none->d=true)
 |0,acc,l=>⟨yBp _,λx h=>(by cases h),yAj _⟩|k+1,acc,l=>by
   unfold zhW;cases h42:hdB 42 l with
   |true =>
     obtain ⟨t,rfl⟩:=zbh h42;simp only[cond_true,yBb];cases h2:hdB 42 t with
     |true =>
       obtain ⟨u,rfl⟩:=zbh h2;simp only[cond_true,yBb];cases (bif (bif !sp then true else decide (0<len acc)) then true else !((42::u:B).take 2==[42,47])) with
       |true=>exact ⟨yAP _ _,λx h=>by cases h;exact yAP _ _,by simp,λh=>(by cases h)⟩|false=>exact ⟨(yAP _ _).trans (yAP _ _),λx h=>(by cases h),by simp;omega,λ_=>rfl⟩
     |false =>
       simp only[cond_false];have ih:=zhV sp k (acc++[⟨2,0⟩]) t;revert ih;cases zhW sp k (acc++[⟨2,0⟩]) t with
       |inl z =>obtain ⟨a,r,e⟩:=z;intro ih;exact ⟨ih.1.trans (yAP _ _),λx h=>(ih.2.1 x h).trans (yAP _ _),by have:=ih.2.2;simp at this ⊢;omega⟩
       |inr z =>obtain ⟨d,r,e⟩:=z;intro ih;exact ⟨ih.1.trans (yAP _ _),λx h=>(ih.2.1 x h).trans (yAP _ _),by have:=ih.2.2.1;simp;omega,ih.2.2.2⟩
   |false =>
     simp only[cond_false];have ho:=zf7 (l:=l);cases hc:zen l with
     |stop=>exact ⟨yBp _,λx h=>(by cases h),yAj _⟩|bad e=>exact ⟨yBp _,λx h=>by cases h;exact ho.1 e hc,yAj _⟩|byte c t =>
       obtain ⟨g1,g2⟩:=ho.2 c t hc;have ih:=zhV sp k (acc++[⟨1,(c.toNat:Int)⟩]) t;revert ih;dsimp only;cases zhW sp k (acc++[⟨1,(c.toNat:Int)⟩]) t with
       |inl z =>obtain ⟨a,r,e⟩:=z;intro ih;exact ⟨ih.1.trans g1,λx h=>(ih.2.1 x h).trans g1,by have:=ih.2.2;simp at this ⊢;omega⟩
       |inr z =>obtain ⟨d,r,e⟩:=z;intro ih;exact ⟨ih.1.trans g1,λx h=>(ih.2.1 x h).trans g1,by have:=ih.2.2.1;omega,ih.2.2.2⟩
theorem zbg(sp:Bool)(l:B):(zaf sp l).2.2.1 <:+ l/\(∀x,(zaf sp l).2.2.2=some x->x <:+ l)/\(zaf sp l).1.length<=l.length/\((zaf sp l).2.2.2=none->(zaf sp l).2.2.1.length<l.length/\(zaf sp l).1.length+(zaf sp l).2.2.1.length<=l.length):=by
 have h:=zhV sp (l.length+1) [] l;unfold zaf;revert h;cases zhW sp (l.length+1) [] l with
 |inr z =>obtain ⟨d,r,e⟩:=z;intro h;exact ⟨h.1,h.2.1,yAD _,λ_=>⟨h.2.2.1,by have:=h.2.2.1;simp;omega⟩⟩
 |inl z =>
   obtain ⟨a,r,e⟩:=z;intro h;have h3:=h.2.2;simp only[yAZ,yAH] at h3;refine ⟨h.1,λx hx=>?_,by dsimp only;omega,λhx=>?_⟩
   ·dsimp only at hx;cases hz:(len a==0) with
    |false=>rw[hz] at hx;exact h.2.1 x hx|true =>
      rw[hz] at hx;cases e with
      |none=>cases hx;exact h.1|some y=>cases hx;exact h.2.1 _ rfl
   ·dsimp only at hx ⊢;cases hz:(len a==0) with
    |false =>
      have:a.length≠0:=λh0=>by rw[show len a=0 by unfold len;omega] at hz;simp at hz
      omega
    |true=>rw[hz] at hx;cases hx
def zfm(ns:List zbq)(r:B):List zbq×Option B :=
 bif r==[] then (ns++[⟨6,0⟩],none) else bif hdB 64 r then ((ns++[⟨5,0⟩])++(zaf false r.tail).1,match (zaf false r.tail).2.2.2 with
  |some e=>some e|none=>bif (zaf false r.tail).2.2.1==[] then none else some (zaf false r.tail).2.2.1) else (ns,some r)
def zfg:Nat->List zbq->Nat->B->List zbq×Nat×Option B
 |0,ns,d,_=>(ns,d,none)|k+1,ns,d,l=>match (zaf true l).2.2.2 with
   |some e=>(ns,d,some e)
   | none=>bif hdB 47 (zaf true l).2.2.1 then
     zfg k (bif !(zaf true l).2.1 then (bif (zaf true l).2.1 then ns++[⟨4,0⟩] else ns++(zaf true l).1)++[⟨3,0⟩] else (bif (zaf true l).2.1 then ns++[⟨4,0⟩] else ns++(zaf true l).1)) (d+1) (zaf true l).2.2.1.tail
    else ((zfm (bif (zaf true l).2.1 then ns++[⟨4,0⟩] else ns++(zaf true l).1) (zaf true l).2.2.1).1,d,(zfm (bif (zaf true l).2.1 then ns++[⟨4,0⟩] else ns++(zaf true l).1) (zaf true l).2.2.1).2)
def zio(s:B):Gt.Pt_×Option B:=match (zas s).2.2 with
 |none=>(⟨(zas s).1,(zfg ((zas s).2.1.length+1) [] 0 (zas s).2.1).1,((zfg ((zas s).2.1.length+1) [] 0 (zas s).2.1).2.1:Int)⟩,(zfg ((zas s).2.1.length+1) [] 0 (zas s).2.1).2.2)|some e=>(⟨(zas s).1,[],0⟩,some e)
end Pe.Tryz
end
section
/- The program's reader of patterns gives what zio says. -/
set_option maxRecDepth 100000
namespace Pe.Tryz
open Go Go.Proofs Pe Pe.Told
abbrev zib(ns:List zbq)(l:B):List zbq:=bif (zaf true l).2.1 then ns++[⟨4,0⟩] else ns++(zaf true l).1
abbrev zkV(ns:List zbq)(l:B):List zbq:=bif !(zaf true l).2.1 then zib ns l++[⟨3,0⟩] else zib ns l
theorem zfT{ns:List zbq}{l:B}(hb:ns.length+l.length<=3000)(he:(zaf true l).2.2.2=none):(zib ns l).length+(zaf true l).2.2.1.length<=3000/\(zkV ns l).length+(zaf true l).2.2.1.length<=3001:=by obtain ⟨h1,h2,h3,h4⟩:=zbg true l;obtain ⟨h5,h6⟩:=h4 he;unfold zkV zib;cases (zaf true l).2.1<;>simp<;>omega
theorem znj{σ T R:Type}{f:σ->Option (σ⊕(T⊕R))}{K:T->Option R}(mk:List zbq->Nat->B->σ)(Q:List zbq->Nat->Option B->R->Prop)(s:B)
  (h1:∀ns d l,l <:+ s->ns.length+l.length<=3000->d+l.length<=3000->∀e,(zaf true l).2.2.2=some e->∃r,f (mk ns d l)=some (.inr (.inr r))/\Q ns d (some e) r)
  (h2:∀ns d l,l <:+ s->ns.length+l.length<=3000->d+l.length<=3000->(zaf true l).2.2.2=none->hdB 47 (zaf true l).2.2.1=true->f (mk ns d l)=some (.inl (mk (zkV ns l) (d+1) (zaf true l).2.2.1.tail)))
  (h3:∀ns d l,l <:+ s->ns.length+l.length<=3000->d+l.length<=3000->(zaf true l).2.2.2=none->hdB 47 (zaf true l).2.2.1=false->∃t r,f (mk ns d l)=some (.inr (.inl t))/\K t=some r/\Q (zfm (zib ns l) (zaf true l).2.2.1).1 d (zfm (zib ns l) (zaf true l).2.2.1).2 r) :
  ∀k ns d l,l.length<k->l <:+ s->ns.length+l.length<=3000->d+l.length<=3000->∃r,zaJ (zau f (mk ns d l)) K=some r/\Q (zfg k ns d l).1 (zfg k ns d l).2.1 (zfg k ns d l).2.2 r
 |0,_,_,_,hk,_,_,_=>by omega
 |k+1,ns,d,l,hk,hl,hb,hd=>by
   obtain ⟨g1,g2,g3,g4⟩:=zbg true l;unfold zfg;cases he:(zaf true l).2.2.2 with
   |some e =>obtain ⟨r,e1,e2⟩:=h1 ns d l hl hb hd e he;exact ⟨r,zaA (zao e1) rfl,e2⟩
   |none =>
     obtain ⟨g5,g6⟩:=g4 he;obtain ⟨b1,b2⟩:=zfT hb he;dsimp only;cases h47:hdB 47 (zaf true l).2.2.1 with
     |false =>obtain ⟨t,r,e1,e2,e3⟩:=h3 ns d l hl hb hd he h47;exact ⟨r,zaA (zao e1) e2,e3⟩
     |true =>
       obtain ⟨u,hu⟩:=zbh h47;have e1:=h2 ns d l hl hb hd he h47;rw[zay e1];have hlu:(zaf true l).2.2.1.tail.length+1=(zaf true l).2.2.1.length:=by rw[hu];simp
       exact znj mk Q s h1 h2 h3 k _ (d+1) _ (by omega) ((by rw[hu];exact yAP _ _:(zaf true l).2.2.1.tail <:+ (zaf true l).2.2.1).trans (g1.trans hl)) (by omega) (by omega)
abbrev T9:=B×Int×Int×B×List zbq×Int×B×List zbq×Int×Unit
abbrev PR:=((RP×Unit)×(Gt.Pt_×Unit))⊕Unit
def Q43(s kind:B)(ns:List zbq)(d:Nat)(e:Option B)(r:PR):Prop:=∃a:Int,r= .inl ((Gt.Rd_.mk s a (zhY s e),()),(Gt.Pt_.mk kind ns (d:Int),()))
theorem zkr(s:B)(e:B):decide (0<=zhY s (some e))=true:=zs5 s (some e)
theorem zkq(s:B)(e:B):decide (zhY s (some e)<0)=false:=zqd s (some e)
theorem G50(n:Nat){s:B}(hs:s.length<=3000):∃r:PR,@Eq (Option PR) ((zal (n+4)).e 50 [.ptr 0 0] [98] [(.st 12)] ((Gt.Rd_.mk s 0 (-1),()):RP×Unit) [(.st 11)] [] 0) (some r)/\∃a:Int,r= .inl ((Gt.Rd_.mk s a (zhY s (zio s).2),()),((zio s).1,())):=by
 obtain ⟨a0,hh,hat,hsf⟩:=G56t (n+1) hs;rw[show @Eq (Option PR) ((zal (n+4)).e 50 [.ptr 0 0] [98] [(.st 12)] ((Gt.Rd_.mk s 0 (-1),()):RP×Unit) [(.st 11)] [] 0) _ from q50 (n+3) _];unfold m50;dsimp only;rw[hh,zaH];dsimp only;unfold zio;cases he:(zas s).2.2 with
 |some e =>
   rw[he] at hh;have hl:∀{X:Option ((B×Int×Int×B×List zbq×Int×B×List zbq×Int×Unit)⊕((B×Int×Int×B×List zbq×Int×B×List zbq×Int×Unit)⊕PR))}{y:B×Int×Int×B×List zbq×Int×B×List zbq×Int×Unit},br (decide (zhY s (some e)<0)) X (some (.inr (.inl y)))=some (.inr (.inl y)):=λ{X y}=>by rw[zkq s e];rfl
   refine ⟨_,zaA (zao hl) ?_,a0,rfl⟩;rw[zai];dsimp only;rw[zkr s e,zad,zai];dsimp only;rw[zkq s e,zab,zaa,zab]
 |none =>
   have hat:=hat he;subst hat
   have key:=λf K=>znj (σ:=T9) (T:=T9) (R:=PR) (f:=f) (K:=K) (λns d l=>(s,((P s l:Nat):Int), -1,[],[],0,(zas s).1,ns,(d:Int),())) (Q43 s (zas s).1) s;dsimp only;refine key _ _ ?_ ?_ ?_ ((zas s).2.1.length+1) [] 0 (zas s).2.1 (yBX _) hsf (by have:=hsf.length_le;simp;omega) (by have:=hsf.length_le;omega);·intro ns d l hl hb hd e hie;refine ⟨_,?_,((P s (zaf true l).2.2.1:Nat):Int),rfl⟩;dsimp only;rw[show decide ((-1:Int)<0)=true from rfl,zad,G104 n hl hs true,zaH];dsimp only;rw[hie,zkr s e,zad]
   ·intro ns d l hl hb hd hie h47;obtain ⟨g1,g2,g3,g4⟩:=zbg true l;obtain ⟨b1,b2⟩:=zfT hb hie;obtain ⟨g5,g6⟩:=g4 hie;have hr:=g1.trans hl;dsimp only;rw[show decide ((-1:Int)<0)=true from rfl,zad,G104 n hl hs true,zaH];dsimp only;rw[hie,show decide (0<=zhY s none)=false from rfl,zab];refine zaA (r:= .inl ([],[],0,(zas s).1,zib ns l,(d:Int),())) ?_ ?_
    ·unfold zib;cases (zaf true l).2.1 with
     |true=>rw[zad,zbj (by simp[lim];omega)];rfl|false=>rw[zab,zbj (by simp[lim];omega)];rfl
    ·rw[zai,zqM hr,zaa];dsimp only;rw[show (pk (zaf true l).2.2.1 != 47)= !(hdB 47 (zaf true l).2.2.1) from congrArg (!·) (ztM _),h47,yA7,zab];obtain ⟨u,hu⟩:=zbh h47;have hP:IntKind.i64.wrap (((P s (zaf true l).2.2.1:Nat):Int)+1)=((P s (zaf true l).2.2.1.tail:Nat):Int):=by
      have hr2:=hr;rw[hu] at hr2;rw[zbD hs,hu,yBb,zbt hr2]
     have hd1:IntKind.i64.wrap ((d:Int)+1)=((d+1:Nat):Int):=(by rw[zbT (by omega) (by omega)];rfl);rw[hP,hd1];unfold zkV;cases hdp:(zaf true l).2.1 with
     |true=>rfl|false =>rw[yAU,zad,zbj (by simp[lim];omega)];rfl
   ·intro ns d l hl hb hd hie h47;obtain ⟨g1,g2,g3,g4⟩:=zbg true l;obtain ⟨b1,b2⟩:=zfT hb hie;have hr:=g1.trans hl;refine ⟨(s,((P s (zaf true l).2.2.1:Nat):Int), -1,[],[],0,(zas s).1,zib ns l,(d:Int),()),?_⟩;generalize hrest:(zaf true l).2.2.1=r at *
    generalize hns:zib ns l=ns2 at *
    refine exists_and_left.2 ⟨?_,?_⟩
    ·dsimp only;rw[show decide ((-1:Int)<0)=true from rfl,zad,G104 n hl hs true,zaH];dsimp only;rw[hie,show decide (0<=zhY s none)=false from rfl,zab,hrest];refine zaA (r:= .inl ([],[],0,(zas s).1,ns2,(d:Int),())) ?_ ?_
     ·rw[<-hns];unfold zib;cases (zaf true l).2.1 with
      |true=>rw[zad,zbj (by simp[lim];omega)];rfl|false=>rw[zab,zbj (by simp[lim];omega)];rfl
     ·rw[zai,zqM hr,zaa];dsimp only;rw[show (pk r != 47)= !(hdB 47 r) from congrArg (!·) (ztM _),h47,yAU,zad];rfl
    dsimp only;rw[show decide (0<=(-1:Int))=false from rfl,zab,zgN hr];unfold zfm;cases hr0:(r==[]) with
    |true =>
      obtain rfl:r=[]:=by simpa using hr0
      rw[zad,zbj (by simp[lim];omega),zaa,zai];dsimp only;rw[show decide ((-1:Int)<0)=true from rfl,zad,zgM (yBQ (l:=s)),zaa,show (([]:B) != [])=false from rfl,zab];exact ⟨_,rfl,_,rfl⟩
    |false =>
      rw[zab,zqM hr,zaa];dsimp only;rw[pk64 r];cases h64:hdB 64 r with
      |false =>rw[zab,zai];dsimp only;rw[show decide ((-1:Int)<0)=true from rfl,zad,zgM hr,zaa,bne,hr0,yAU,zad,G106,zaH];exact ⟨_,rfl,_,rfl⟩|true =>
        obtain ⟨u,rfl⟩:=zbh h64;have hu:=za4 hr;obtain ⟨i1,i2,i3,i4⟩:=zbg false u;have hru:=i1.trans hu;simp only[yAi] at b1;rw[zad,zbD hs,<-zbt hr,G104 n hu hs false,zaH];dsimp only;rw[zbj (by simp[lim];omega),zaa,zbj (by simp[lim];omega),zaa,zai];dsimp only;cases hie2:(zaf false u).2.2.2 with
        |some e =>rw[zkq s e,zab,zaa,zab];exact ⟨_,rfl,((P s (zaf false u).2.2.1:Nat):Int),by simp[hie2]⟩|none =>
          rw[show decide (zhY s none<0)=true from rfl,zad,zgM hru,zaa];cases hz:((zaf false u).2.2.1==[]) with
          |true =>rw[bne,hz,yA7,zab];exact ⟨_,rfl,((P s (zaf false u).2.2.1:Nat):Int),by simp[hie2,hz]⟩|false =>rw[bne,hz,yAU,zad,show zhY s none= -1 from rfl,G106,zaH];exact ⟨_,rfl,((P s (zaf false u).2.2.1:Nat):Int),by simp[hie2,hz];rfl⟩
end Pe.Tryz
end
section
/- What readPattern returns. -/
set_option maxRecDepth 100000
namespace Pe.Tryz
open Go Go.Proofs Pe Pe.Told
def zdy(k:List UInt8):Int:=if zeV=k then 0 else if zdg=k then 1 else if zeE=k then 2 else if zbF=k then 3 else if zeM=k then 4 else -1
theorem zum(k:List UInt8):c51 k=some (zdy k,()):=by
 by_cases h1:zeV=k;·subst h1;kernel_rfl
 by_cases h2:zdg=k;·subst h2;kernel_rfl
 by_cases h3:zeE=k;·subst h3;kernel_rfl
 by_cases h4:zbF=k;·subst h4;kernel_rfl
 by_cases h5:zeM=k;·subst h5;kernel_rfl
 have hp:zdy k= -1:=by simp[zdy,h1,h2,h3,h4,h5]
 rw[hp];have e1:=zjS h1;have e2:=zjS h2;have e3:=zjS h3;have e4:=zjS h4;have e5:=zjS h5;simp only[zeV,zdg,zeE,zbF,zeM] at e1 e2 e3 e4 e5;simp[c51,c29,ob,itC,ziC,br,at?,IntKind.wrap,IntKind.bits,IntKind.signed,e1,e2,e3,e4,e5,zaJ]
theorem L51(n:Nat)(k:List UInt8):(zal (n+2)).d 51 [.str k] [(.int .i64)]=some (zdy k,()):=zsd n k _ (zum k)
theorem zjt(k:List UInt8):decide (zdy k<0)=(zfX k).isNone:=by
 unfold zdy zfX;split;·rfl
 split;·rfl
 split;·rfl
 split;·rfl
 split<;>rfl
def znk:Gt.Pt_:=⟨[],[],0⟩
def zd7(s:B):Gt.Pt_×Int×Int×Unit :=
 bif decide (3000<len s) then (znk,0,3,()) else match (zio s).2 with
 |some e=>(znk,((P s e:Nat):Int),6,())|none=>bif (bif (zio s).1.kind != [42] then (zfX (zio s).1.kind).isNone else false) then (znk,0,7,()) else bif decide (10<(zio s).1.deep) then (znk,0,3,()) else ((zio s).1,0,0,())
theorem L17(n:Nat)(s:B): @Eq (Option (Gt.Pt_×Int×Int×Unit)) ((zal (n+5)).d 17 [.str s] [(.st 11),(.int .i64),(.int .i64)]) (some (zd7 s)):=by
 refine (q17 (n+4) _).trans ?_;unfold m17 zd7;cases hl:decide (3000<len s) with
 |true=>rfl|false =>
   have hs:s.length<=3000:=(by have:=of_decide_eq_false hl;unfold len at this;omega);obtain ⟨r,h1,a,rfl⟩:=G50 n hs;rw[zab,cond_false,h1,zaH];dsimp only;cases he:(zio s).2 with
   |some e=>rw[zkr s e,zad];rfl|none =>
     rw[show decide (0<=zhY s none)=false from rfl,zab,L51 (n+2),zaa,zav,zaa,zjt];cases (bif (zio s).1.kind != [42] then (zfX (zio s).1.kind).isNone else false) with
     |true=>rfl|false =>rw[zab];cases decide (10<(zio s).1.deep)<;>rfl
theorem zor{ns:List zbq}{r:B}{M:Nat}(h:ns.length+r.length<=M):(zfm ns r).1.length<=M+1:=by
 unfold zfm;cases r==[] with
 |true=>simp;omega|false =>
   cases h64:hdB 64 r with
   |false=>simp;omega|true =>obtain ⟨u,rfl⟩:=zbh h64;have:=(zbg false u).2.2.1;simp at h ⊢;omega
theorem zlg:∀(k:Nat)(ns:List zbq)(d:Nat)(l:B),ns.length+l.length<=3000->(zfg k ns d l).1.length<=3001
 |0,ns,d,l,h=>by unfold zfg;dsimp only;omega
 |k+1,ns,d,l,h=>by
   obtain ⟨g1,g2,g3,g4⟩:=zbg true l;unfold zfg;cases he:(zaf true l).2.2.2 with
   |some e=>dsimp only;omega|none =>
     obtain ⟨g5,g6⟩:=g4 he;obtain ⟨b1,b2⟩:=zfT h he;dsimp only;cases h47:hdB 47 (zaf true l).2.2.1 with
     |false=>exact zor b1|true =>
       obtain ⟨u,hu⟩:=zbh h47;have hlu:(zaf true l).2.2.1.tail.length+1=(zaf true l).2.2.1.length:=by rw[hu];simp
       exact zlg k (zkV ns l) (d+1) _ (by omega)
theorem zlK(n:Nat){s:B}(hs:s.length<=3000):(zas s).2.1 <:+ s:=by obtain ⟨_,_,_,h⟩:=G56t n hs;exact h
theorem zpq(s:B):(zd7 s).1.nodes.length<=1000000:=by
 unfold zd7;cases hl:decide (3000<len s) with
 |true=>simp[znk]|false =>
   have hs:s.length<=3000:=(by have:=of_decide_eq_false hl;unfold len at this;omega);have hp:(zio s).1.nodes.length<=3001:=by
    unfold zio;cases (zas s).2.2 with
    |some e=>simp|none=>exact zlg _ _ _ _ (by have:=(zlK 0 hs).length_le;simp;omega)
   rw[cond_false];cases (zio s).2 with
   |some e=>simp[znk]|none =>
     dsimp only;cases (bif (zio s).1.kind != [42] then (zfX (zio s).1.kind).isNone else false) with
     |true=>simp[znk]|false =>
       cases decide (10<(zio s).1.deep) with
       |true=>simp[znk]|false=>simp only[cond_false];omega
theorem L9(n:Nat)(s:B){p:Gt.Purl}(h:p.qualifiers.length<=1000000000): @Eq (Option (Bool×Int×Unit)) ((zal (n+6)).d 9 [.str s,.st 3 p] [.bool,(.int .i64)]) (some (zjy (zd7 s).1 (zd7 s).2.2.1 p)) :=
 (q9 (n+5) _ _).trans (s9 (n+1) (L17 n s) (λ_=>zpq s) h)
end Pe.Tryz
end
