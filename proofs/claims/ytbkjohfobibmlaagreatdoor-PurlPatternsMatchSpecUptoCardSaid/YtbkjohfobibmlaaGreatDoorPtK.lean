/- PROVED HERE: a part of the seat's proofs; see the text that holds the claim's theorem. -/
import Derived.Test.YtbkjohfobibmlaaGreatDoorNm
import Derived.Test.YtbkjohfobibmlaaGreatDoorPtJ
import Derived.Test.YtbkjohfobibmlaaGreatDoorPtH
section
/- fits: one inner round. -/
set_option maxRecDepth 100000
namespace Pe.Tryz
open Go Go.Proofs Pe Pe.Told
def inI(i:Nat)(a:IM):Bool:=zeS eqi (i:Int) false a
def zcZ(l:zaQ)(s:B)(k i:Nat)(t:IM×IM):IM×IM:=bif inI i t.1 then match l[i]? with
    |none=>t|some a=>bif a.any then (zfd eqi lti ((i+1:Nat):Int) t.1,match s[k]? with
      |some c=>bif !(c==47) then zfd eqi lti (i:Int) t.2 else t.2|none=>t.2)
     else (t.1,match s[k]? with
      |some c=>bif (c.toNat:Int)==a.c then zfd eqi lti ((i+1:Nat):Int) t.2 else t.2|none=>t.2)
 else t
theorem ziE{i:Nat}{a:IM}(ha:IsSet lti a):inI i a=true↔(i:Int)∈zaw a:=zdz zgj _ _ ha.all
theorem zkM{l:zaQ}{s:B}{k i:Nat}{t:IM×IM}(h1:IsSet lti t.1)(h2:IsSet lti t.2):IsSet lti (zcZ l s k i t).1/\IsSet lti (zcZ l s k i t).2:=by
 unfold zcZ;cases inI i t.1 with
 |false=>exact ⟨h1,h2⟩|true =>
   cases l[i]? with
   |none=>exact ⟨h1,h2⟩|some a =>
     dsimp only;cases a.any with
     |true =>
       refine ⟨zco zgj _ h1,?_⟩;cases s[k]? with
       |none=>exact h2|some c=>dsimp only[cond_true];cases (!(c==47))<;>first|exact h2|exact zco zgj _ h2
     |false =>
       refine ⟨h1,?_⟩;cases s[k]? with
       |none=>exact h2|some c=>dsimp only[cond_false];cases ((c.toNat:Int)==a.c)<;>first|exact h2|exact zco zgj _ h2
theorem zqY{l:zaQ}{s:B}{k i:Nat}(hk:k<s.length){t:IM×IM}(h1:IsSet lti t.1)(h2:IsSet lti t.2) :
  (eM l s k t.1 i\/eM l s (k+1) t.2 0)↔(eM l s k (zcZ l s k i t).1 (i+1)\/eM l s (k+1) (zcZ l s k i t).2 0):=by
 unfold zcZ;cases hi:inI i t.1 with
 |false=>rw[cond_false,zqh (λh=>by rw[(ziE h1).2 h] at hi;cases hi)]|true =>
   rw[cond_true,zqi ((ziE h1).1 hi)];by_cases hl:i<l.length
   ·rw[yAh hl,yAh hk];dsimp only;cases ha:l[i].any with
    |true =>
      rw[ztF hl hk ha];simp only[cond_true];cases hc:(!(s[k]==47)) with
      |true=>simp only[cond_true,yB3,yBr];rw[zjI h1,zjI h2];simp;grind|false=>simp only[cond_false,Bool.false_and,yCj];rw[zjI h1];simp<;>grind
    |false =>
      rw[ztD hl hk ha];simp only[cond_false];cases hc:((s[k].toNat:Int)==l[i].c) with
      |true=>simp only[cond_true,yB3];rw[zjI h2];simp<;>grind|false=>simp only[cond_false,Bool.false_and];simp
   ·rw[yA0 (by omega)];dsimp only;have:vM l s i k=false:=by
     have:=ztE (l:=l) hk;unfold vM at *
     rw[yBa (by omega:l.length<=i)];rw[yBz] at this;exact this
    rw[this];simp
end Pe.Tryz
end
section
/- fits: the last byte is past. -/
set_option maxRecDepth 100000
namespace Pe.Tryz
open Go Go.Proofs Pe Pe.Told
theorem zo7{l:zaQ}{s:B}{i:Nat}(hi':i<l.length){t:IM×IM}(h1:IsSet lti t.1):eM l s s.length t.1 i↔eM l s s.length (zcZ l s s.length i t).1 (i+1):=by
 unfold zcZ;cases hi:inI i t.1 with
 |false=>rw[cond_false,zqh (λh=>by rw[(ziE h1).2 h] at hi;cases hi)]|true =>
   rw[cond_true,zqi ((ziE h1).1 hi),yAh hi',zsp hi'];dsimp only;cases ha:l[i].any with
   |true=>simp only[cond_true,yB3];rw[zjI h1];simp|false=>simp only[cond_false,Bool.false_and];simp
def zoT(m:Nat)(a:IM):Prop:=∀x∈zaw a,∃j:Nat,x=(j:Int)/\j<=m
theorem zt9{l:zaQ}{s:B}{k:Nat}{a:IM}(h:zoT l.length a):¬eM l s k a (l.length+1):=by
 rintro ⟨j,h1,h2,_⟩
 obtain ⟨m,hm,hl⟩:=h _ h2;omega
theorem zs6{l:zaQ}{s:B}{a:IM}(h:zoT l.length a):eM l s s.length a l.length↔((l.length:Int)∈zaw a):=by
 constructor
 ·rintro ⟨j,h1,h2,_⟩
  obtain ⟨m,hm,hl⟩:=h _ h2;have:j=l.length:=by omega
  exact this▸h2
 ·intro h2;exact ⟨l.length,yAj _,h2,zsq l s⟩
theorem zhJ{m:Nat}{a:IM}(ha:IsSet lti a)(h:zoT m a){j:Nat}(hj:j<=m):zoT m (zfd eqi lti (j:Int) a):=by
 intro x hx;rcases (zcp zgj _ _ ha).1 hx with e|hx;·exact ⟨j,e,hj⟩
 ·exact h x hx
end Pe.Tryz
end
section
/- fits: the inner rounds. -/
set_option maxRecDepth 100000
namespace Pe.Tryz
open Go Go.Proofs Pe Pe.Told
theorem zjj{l:zaQ}{s:B}{k i:Nat}(hi:i<=l.length){t:IM×IM}(h1:IsSet lti t.1)(h2:IsSet lti t.2)(u1:zoT l.length t.1)(u2:zoT l.length t.2):zoT l.length (zcZ l s k i t).1/\zoT l.length (zcZ l s k i t).2:=by
 unfold zcZ;cases inI i t.1 with
 |false=>exact ⟨u1,u2⟩|true =>
   cases hl:l[i]? with
   |none=>exact ⟨u1,u2⟩|some a =>
     have:i<l.length:=(yAc.1 hl).1;dsimp only;cases a.any with
     |true =>
       refine ⟨zhJ h1 u1 (by omega),?_⟩;cases s[k]? with
       |none=>exact u2|some c=>dsimp only[cond_true];cases (!(c==47))<;>first|exact u2|exact zhJ h2 u2 (by omega)
     |false =>
       refine ⟨u1,?_⟩;cases s[k]? with
       |none=>exact u2|some c=>dsimp only[cond_false];cases ((c.toNat:Int)==a.c)<;>first|exact u2|exact zhJ h2 u2 (by omega)
end Pe.Tryz
end
section
/- fits: all inner rounds from i on. -/
set_option maxRecDepth 100000
namespace Pe.Tryz
open Go Go.Proofs Pe Pe.Told
def zoU(l:zaQ)(s:B)(k:Nat):Nat->Nat->IM×IM->IM×IM|0,_,t=>t|m+1,i,t=>zoU l s k m (i+1) (zcZ l s k i t)
structure OkI (l:zaQ) (t:IM×IM):Prop where
 s1:IsSet lti t.1
 s2:IsSet lti t.2
 u1:zoT l.length t.1
 u2:zoT l.length t.2
theorem OkI.step{l:zaQ}{t:IM×IM}(h:OkI l t)(s:B)(k:Nat){i:Nat}(hi:i<=l.length):OkI l (zcZ l s k i t) :=
 ⟨(zkM h.s1 h.s2).1,(zkM h.s1 h.s2).2,(zjj hi h.s1 h.s2 h.u1 h.u2).1,(zjj hi h.s1 h.s2 h.u1 h.u2).2⟩
theorem zph{l:zaQ}{s:B}{k:Nat}(hk:k<s.length):∀(m i:Nat)(t:IM×IM),i+m=l.length+1->OkI l t->OkI l (zoU l s k m i t)/\((eM l s k t.1 i\/eM l s (k+1) t.2 0)↔eM l s (k+1) (zoU l s k m i t).2 0)
 |0,i,t,hm,h=>⟨h,by
   obtain rfl:i=l.length+1:=by omega
   constructor
   ·rintro (h2|h2)
    ·exact absurd h2 (zt9 h.u1)
    ·exact h2
   ·exact .inr⟩
 |m+1,i,t,hm,h=>by obtain ⟨h1,h2⟩:=zph hk m (i+1) (zcZ l s k i t) (by omega) (h.step s k (by omega));exact ⟨h1,(zqY hk h.s1 h.s2).trans h2⟩
end Pe.Tryz
end
section
/- fits: the inner rounds past the last byte. -/
set_option maxRecDepth 100000
namespace Pe.Tryz
open Go Go.Proofs Pe Pe.Told
theorem zo6{l:zaQ}{s:B}{k:Nat}(t:IM×IM):zcZ l s k l.length t=t:=by unfold zcZ;rw[yA0 (yAj _)];cases inI l.length t.1<;>rfl
theorem znb{l:zaQ}{s:B}:∀(m i:Nat)(t:IM×IM),i+m=l.length->OkI l t->(eM l s s.length t.1 i↔((l.length:Int)∈zaw (zoU l s s.length (m+1) i t).1))
 |0,i,t,hm,h=>by
   obtain rfl:i=l.length:=by omega
   show _↔_∈zaw (zcZ l s s.length l.length t).1;rw[zo6,zs6 h.u1]
 |m+1,i,t,hm,h=>(zo7 (by omega) h.s1).trans (znb m (i+1) (zcZ l s s.length i t) (by omega) (h.step s _ (by omega)))
end Pe.Tryz
end
section
/- fits: the inner loop. -/
set_option maxRecDepth 100000
namespace Pe.Tryz
open Go Go.Proofs Pe Pe.Told
theorem zm8{R:Type}{f:(IM×IM×Int×Unit)->Option ((IM×IM×Int×Unit)⊕R)}{l:zaQ}{s:B}{k:Nat}(out:IM×IM->R)
  (h:∀(i:Nat)(t:IM×IM),i<=l.length->f (t.1,t.2,(i:Int),())=some (.inl ((zcZ l s k i t).1,(zcZ l s k i t).2,((i+1:Nat):Int),())))
  (he:∀t:IM×IM,f (t.1,t.2,((l.length+1:Nat):Int),())=some (.inr (out t))):∀(m i:Nat)(t:IM×IM),i+m=l.length+1->zau f (t.1,t.2,(i:Int),())=some (out (zoU l s k m i t))
 |0,i,t,hm=>by
   obtain rfl:i=l.length+1:=by omega
   exact zao (he t)
 |m+1,i,t,hm=>by rw[zay (h i t (by omega))];exact zm8 out h he m (i+1) (zcZ l s k i t) (by omega)
end Pe.Tryz
end
section
/- fits: the outer loop. -/
set_option maxRecDepth 100000
namespace Pe.Tryz
open Go Go.Proofs Pe Pe.Told
theorem zjW(m:Nat):zoT m ([]:IM):=λ_ h=>by cases h
theorem zjv{l:zaQ}{s:B}{k i:Nat}:¬eM l s k [] i:=by rintro ⟨j,_,h,_⟩;cases h
theorem znK{R:Type}{f:(IM×Int×Unit)->Option ((IM×Int×Unit)⊕R)}{l:zaQ}{s:B}(out:Bool->R)
  (h:∀(k:Nat)(a:IM),k<s.length->f (a,(k:Int),())=some (.inl ((zoU l s k (l.length+1) 0 (a,[])).2,((k+1:Nat):Int),())))
  (he:∀a:IM,f (a,(s.length:Int),())=some (.inr (out (inI l.length (zoU l s s.length (l.length+1) 0 (a,[])).1)))) :
  ∀(m k:Nat)(a:IM),k+m=s.length->IsSet lti a->zoT l.length a->∃b:Bool,zau f (a,(k:Int),())=some (out b)/\(b=true↔eM l s k a 0)
 |0,k,a,hm,ha,hu=>by
   obtain rfl:k=s.length:=by omega
   have ok:OkI l (a,[]):=⟨ha,IsSet.nil,hu,zjW _⟩;refine ⟨_,zao (he a),?_⟩;have hrun:∀(m i:Nat)(t:IM×IM),i+m<=l.length+1->OkI l t->OkI l (zoU l s s.length m i t):=by
    intro m;induction m with
    |zero=>intro i t _ h;exact h
    |succ m ih=>intro i t hi h;exact ih (i+1) _ (by omega) (h.step s _ (by omega))
   rw[ziE (hrun _ 0 (a,[]) (by omega) ok).s1];exact (znb l.length 0 (a,[]) (by omega) ok).symm
 |m+1,k,a,hm,ha,hu=>by
   have ok:OkI l (a,[]):=⟨ha,IsSet.nil,hu,zjW _⟩;obtain ⟨h1,h2⟩:=zph (l:=l) (s:=s) (k:=k) (by omega) (l.length+1) 0 (a,[]) (by omega) ok;obtain ⟨b,h3,h4⟩:=znK out h he m (k+1) _ (by omega) h1.s2 h1.u2;refine ⟨b,(zay (h k a (by omega))).trans h3,h4.trans (h2.symm.trans ?_)⟩;constructor
   ·rintro (h|h)
    ·exact h
    ·exact absurd h zjv
   ·exact .inl
end Pe.Tryz
end
section
/- fits is gM. -/
set_option maxRecDepth 100000
namespace Pe.Tryz
open Go Go.Proofs Pe Pe.Told
noncomputable def fI{R:Type}(l:zaQ)(s:B)(k:Int)(t2:IM×IM×Int×Unit):Option ((IM×IM×Int×Unit)⊕((IM×IM×Unit)⊕R)):=(br (decide (t2.2.2.1<=(len l))) (br (!(zeS eqi t2.2.2.1 false t2.1)) (some (.inl (t2.1,t2.2.1,(IntKind.i64.wrap (t2.2.2.1+1)),()))) (zaJ (σ:=IM×IM×Unit) (R:=_) (ob (br (decide (t2.2.2.1<(len l))) (ob (at? l t2.2.2.1) λy3=>(some (Gt.Ra_.any y3))) (some false)) λb4=>(br b4 (ob (br (decide (k<(len s))) (ob (at? s k) λc5=>(some ((UInt8.toNat c5:Int) != 47))) (some false)) λb6=>(br b6 (some (.inl ((zfd eqi lti (IntKind.i64.wrap (t2.2.2.1+1)) t2.1),(zfd eqi lti t2.2.2.1 t2.2.1),()))) (some (.inl ((zfd eqi lti (IntKind.i64.wrap (t2.2.2.1+1)) t2.1),t2.2.1,()))))) (some (.inl (t2.1,t2.2.1,()))))) λ(t7:IM×IM×Unit)=>(ob (br (decide (t2.2.2.1<(len l))) (ob (at? l t2.2.2.1) λy8=>(some (!(Gt.Ra_.any y8)))) (some false)) λb9=>(ob (br b9 (some (decide (k<(len s)))) (some false)) λb10=>(ob (br b10 (ob (at? s k) λc11=>(ob (at? l t2.2.2.1) λy12=>(some ((UInt8.toNat c11:Int)==(Gt.Ra_.c y12))))) (some false)) λb13=>(br b13 (some (.inl (t7.1,(zfd eqi lti (IntKind.i64.wrap (t2.2.2.1+1)) t7.2.1),(IntKind.i64.wrap (t2.2.2.1+1)),()))) (some (.inl (t7.1,t7.2.1,(IntKind.i64.wrap (t2.2.2.1+1)),()))))))))) (some (.inr (.inl (t2.1,t2.2.1,())))))
noncomputable def fO(l:zaQ)(s:B)(t1:IM×Int×Unit):Option ((IM×Int×Unit)⊕(Unit⊕(Bool×Unit))):=(br (decide (t1.2.1<=(len s))) (zaJ (σ:=IM×Unit) (R:=_) (zaJ (σ:=IM×IM×Unit) (R:=_) (zau (σ:=IM×IM×Int×Unit) (R:=_) (fI l s t1.2.1) (t1.1,[],0,())) λ(t14:IM×IM×Unit)=>(br (t1.2.1==(len s)) (some (.inr (.inr (.inr ((zeS eqi (len l) false t14.1),()))))) (some (.inl (t14.2.1,()))))) λ(t15:IM×Unit)=>(some (.inl (t15.1,(IntKind.i64.wrap (t1.2.1+1)),())))) (some (.inr (.inl (())))))
theorem m69_fO(o:Orc Sx)(l:zaQ)(s:B):m69 o l s=zaJ (zau (fO l s) (zfd eqi lti 0 [],0,())) (λ_=>some (false,())):=rfl
theorem zmX{i:Nat}(h:i<=100000):IntKind.i64.wrap ((i:Int)+1)=((i+1:Nat):Int):=by rw[zbT (by omega) (by omega)];rfl
theorem zs4{R:Type}{l:zaQ}{s:B}{k i:Nat}{t:IM×IM}(hl:l.length<=100000)(hi:i<=l.length) :
  fI (R:=R) l s (k:Int) (t.1,t.2,(i:Int),())=some (.inl ((zcZ l s k i t).1,(zcZ l s k i t).2,((i+1:Nat):Int),())):=by
 unfold fI;dsimp only;rw[decide_eq_true (by unfold len;omega),zad,zmX (by omega)];unfold zcZ inI;cases hm:zeS eqi (i:Int) false t.1 with
 |false=>rfl|true =>
   rw[yA7,zab];by_cases hlt:i<l.length
   ·rw[decide_eq_true (zaW.mpr hlt),zad,zaX hlt,yAh hlt,cond_true];dsimp only;simp only[zaa,zad];by_cases hk:k<s.length
    ·rw[decide_eq_true (zaW.mpr hk),zaX hk,yAh hk];cases l[i].any with
     |true =>
       simp only[zad,zaa,cond_true,yA7,zab];have hc:((s[k].toNat:Int) != 47)= !(s[k]==47):=by
        rw[yBE];simp only[bne_iff_ne,ne_eq,yA9,beq_eq_false_iff_ne];constructor;·intro h e;rw[e] at h;exact h rfl
        ·intro h e;exact h (UInt8.toNat_inj.1 (by have h47:(47:UInt8).toNat=47:=rfl;omega))
       rw[hc];cases (!(s[k]==47))<;>rfl
     |false =>simp only[zab,zaa,cond_false,yAU,zad,zai];cases ((s[k].toNat:Int)==l[i].c)<;>rfl
    ·rw[decide_eq_false (by unfold len;omega),yA0 (by omega)];cases l[i].any<;>rfl
   ·rw[decide_eq_false (by unfold len;omega),yA0 (by omega)];rfl
theorem zt4{R:Type}{l:zaQ}{s:B}{k:Int}{t:IM×IM}:fI (R:=R) l s k (t.1,t.2,((l.length+1:Nat):Int),())=some (.inr (.inl (t.1,t.2,()))):=by unfold fI;dsimp only;rw[decide_eq_false (by unfold len;omega),zab]
theorem zr4{R:Type}{l:zaQ}{s:B}{k:Nat}(hl:l.length<=100000)(a:IM):zau (fI (R:=R) l s (k:Int)) (a,[],0,()) =
  some (.inl ((zoU l s k (l.length+1) 0 (a,[])).1,(zoU l s k (l.length+1) 0 (a,[])).2,())) :=
 zm8 (f:=fI (R:=R) l s (k:Int)) (λt=>.inl (t.1,t.2,())) (λi t h=>zs4 hl h) (λt=>zt4) (l.length+1) 0 (a,[]) (by omega)
theorem s69(o:Orc Sx){l:zaQ}{s:B}(hl:l.length<=100000)(hs:s.length<=100000):m69 o l s=some (gM l s,()):=by
 rw[m69_fO];have hset:IsSet lti (zfd eqi lti (0:Int) []):=zco zgj _ IsSet.nil;have hup:zoT l.length (zfd eqi lti (0:Int) []):=zhJ (j:=0) IsSet.nil (zjW _) (yAD _);have key:∀b:Bool,(b=true↔eM l s 0 (zfd eqi lti (0:Int) []) 0)->b=gM l s:=by
  intro b hb;have hv:eM l s 0 (zfd eqi lti (0:Int) []) 0↔gM l s=true:=by
   have:=zjI (l:=l) (s:=s) (k:=0) (a:=[]) IsSet.nil (i:=0) (m:=0);rw[show ((0:Nat):Int)=0 from rfl] at this;rw[this];constructor
   ·rintro (⟨_,h⟩|h)
    ·exact h
    ·exact absurd h zjv
   ·intro h;exact .inl ⟨yAj _,h⟩
  exact yBE.2 (hb.trans hv)
 have hA:∀(k:Nat)(a:IM),k<s.length->fO l s (a,(k:Int),())=some (.inl ((zoU l s k (l.length+1) 0 (a,[])).2,((k+1:Nat):Int),())):=by intro k a hk;unfold fO;dsimp only;rw[decide_eq_true (by unfold len;omega),zad,zr4 hl,zmX (by omega),zai];dsimp only;rw[show ((k:Int)==len s)=false by rw[beq_eq_false_iff_ne];unfold len;omega,zab];rfl
 have hB:∀a:IM,fO l s (a,(s.length:Int),())=some (.inr (.inr (inI l.length (zoU l s s.length (l.length+1) 0 (a,[])).1,()))):=by intro a;unfold fO;dsimp only;rw[decide_eq_true (by unfold len;omega),zad,zr4 hl,zai];dsimp only;rw[show (((s.length:Nat):Int)==len s)=true by rw[beq_iff_eq];rfl,zad];rfl
 obtain ⟨b,h1,h2⟩:=znK (f:=fO l s) (l:=l) (s:=s) (λb=>.inr (b,())) hA hB s.length 0 (zfd eqi lti (0:Int) []) (by omega) hset hup;rw[<-key b h2];exact (congrArg (λy=>zaJ y _) h1).trans rfl
theorem L69(n:Nat){l:zaQ}{s:B}(hl:l.length<=100000)(hs:s.length<=100000): @Eq (Option (Bool×Unit)) ((zal (n+1)).d 69 [.sl (.st 4) l,.str s] [.bool]) (some (gM l s,())):=(q69 n _ _).trans (s69 _ hl hs)
end Pe.Tryz
end
section
/- spaceFrom is spM. -/
set_option maxRecDepth 100000
namespace Pe.Tryz
open Go Go.Proofs Pe Pe.Told
def spM:List (zaQ×Bool)->List B->Bool|[],l=>l==[]|(_,b)::r,[]=>b&&spM r []|(a,b)::r,x::t=>bif b then spM r (x::t)||spM ((a,b)::r) t else gM a x&&spM r t
termination_by g l=>g.length+l.length
theorem zmh(l:List B):spM [] l=(l==[]):=by unfold spM;rfl
theorem zh5(a:zaQ×Bool)(r:List (zaQ×Bool)):spM (a::r) []=(a.2&&spM r []):=by conv=>lhs;unfold spM
theorem zfP(a:zaQ×Bool)(r:List (zaQ×Bool))(x:B)(t:List B):spM (a::r) (x::t)=bif a.2 then spM r (x::t)||spM (a::r) t else gM a.1 x&&spM r t:=by conv=>lhs;unfold spM
def zhF(g:Seg):zaQ×Bool:=(zmj g,g.2)
def fS(orc:Orc Sx)(p:zqP)(k:Int)(l:List B)(t2:Int×Unit):Option ((Int×Unit)⊕(Unit⊕(Unit⊕(Bool×Unit)))):=(br (decide (t2.1<=(len l))) (ob (zbu l t2.1 (len l)) λs3=>(ob (α:=Bool×Unit) (orc.d 116 [.st 5 p,.int .i64 (IntKind.i64.wrap (k+1)),.sl .str s3] [.bool]) λ(r4:Bool×Unit)=>(br r4.1 (some (.inr (.inr (.inr (true,()))))) (some (.inl ((IntKind.i64.wrap (t2.1+1)),())))))) (some (.inr (.inl (())))))
theorem zqc{orc:Orc Sx}{p:zqP}{k:Int}{l:List B}{a:zaQ×Bool}{r:List (zaQ×Bool)}(ha:a.2=true)(hl:l.length<=100000)
  (h:∀m,m<=l.length-> @Eq (Option (Bool×Unit)) (orc.d 116 [.st 5 p,.int .i64 (IntKind.i64.wrap (k+1)),.sl .str (l.drop m)] [.bool]) (some (spM r (l.drop m),()))) :
  ∀(d m:Nat),m+d=l.length->zau (fS orc p k l) ((m:Int),())=some (bif spM (a::r) (l.drop m) then .inr (.inr (true,())) else .inl ())
 |d,m,hm=>by
   have hp:zbu l (m:Int) (len l)=some (l.drop m):=(by rw[show len l=((l.length:Nat):Int) from rfl,zdQ (by omega) (yAj _),yBo (by simp)]);have e:fS orc p k l ((m:Int),())=br (spM r (l.drop m)) (some (.inr (.inr (.inr (true,()))))) (some (.inl (((m+1:Nat):Int),()))):=(by unfold fS;dsimp only;rw[decide_eq_true (by unfold len;omega),zad,hp,zaa,zmX (by omega)];exact congrArg (λy:Option (Bool×Unit)=>ob y _) (h m (by omega)));cases hv:spM r (l.drop m) with
   |true =>
     rw[hv,zad] at e;have:spM (a::r) (l.drop m)=true:=by
      cases hd:l.drop m with
      |nil=>rw[hd] at hv;rw[zh5,ha,hv];rfl|cons x t=>rw[hd] at hv;rw[zfP,ha,hv];rfl
     rw[this];exact zao e
   |false =>
     rw[hv,zab] at e;rw[zay e]
     match d,hm with
     |0,hm =>
       obtain rfl:m=l.length:=by omega
       have:spM (a::r) (l.drop l.length)=false:=by rw[yBz] at hv ⊢;rw[zh5,hv];simp
       rw[this];refine zao ?_;unfold fS;dsimp only;rw[decide_eq_false (by unfold len;omega)];rfl
     |d+1,hm =>
       have hlt:m<l.length:=(by omega);rw[zqc ha hl h d (m+1) (by omega)];have:spM (a::r) (l.drop m)=spM (a::r) (l.drop (m+1)):=by rw[yAI hlt] at hv ⊢;rw[zfP,ha,hv];rfl
       rw[this]
theorem L116(n:Nat){gs:List Seg}{p:zqP}(hp1:p.segments=gs.map zmj)(hp2:p.deep=gs.map (·.2))(hgl:gs.length<=100000)(hg:∀g∈gs,g.1.length<=100000) :
  ∀(j k:Nat)(l:List B),k+j=gs.length->l.length<=100000->(∀x∈l,x.length<=100000) ->
  @Eq (Option (Bool×Unit)) ((zal (n+j+2)).d 116 [.st 5 p,.int .i64 (k:Int),.sl .str l] [.bool]) (some (spM ((gs.drop k).map zhF) l,()))
 |0,k,l,hk,hl,hx=>by
   refine (q116 (n+1) _ _ _).trans ?_;unfold m116;have:((k:Int)==len p.segments)=true:=by rw[hp1,beq_iff_eq];unfold len;rw[yBs];omega
   rw[this,zad];have:gs.drop k=[]:=by rw[List.drop_eq_nil_iff];omega
   rw[this,yBh,zmh];cases l<;>simp[len]
   all_goals omega
 |j+1,k,l,hk,hl,hx=>by
   refine (q116 (n+(j+1)+1) _ _ _).trans ?_;have hlt:k<gs.length:=by omega
   have ih:=λl h1 h2=>L116 n hp1 hp2 hgl hg j (k+1) l (by omega) h1 h2;unfold m116;have:((k:Int)==len p.segments)=false:=(by rw[hp1,beq_eq_false_iff_ne];unfold len;rw[yBs];omega);rw[this,zab];have hd:at? p.deep (k:Int)=some gs[k].2:=by rw[hp2,zaX (by rw[yBs];exact hlt),List.getElem_map]
   rw[hd,zaa,yAI hlt,yAl];have hw:=zmX (i:=k) (by omega);have hR:n+(j+1)+1=n+j+2:=by omega
   rw[hR];cases hb:gs[k].2 with
   |true =>
     rw[zad];have hf:=zqc (orc:=zal (n+j+2)) (p:=p) (k:=(k:Int)) (l:=l) (a:=zhF gs[k]) (r:=(gs.drop (k+1)).map zhF) hb hl (λm hm=>by rw[hw];exact ih (l.drop m) (by have:= @yAQ _ m l;omega) λx h=>hx x (List.mem_of_mem_drop h)) l.length 0 (by omega);rw[yBB,show ((0:Nat):Int)=0 from rfl] at hf;cases hs:spM (zhF gs[k]::(gs.drop (k+1)).map zhF) l with
     |true =>rw[hs,cond_true] at hf;exact (congrArg (λy:Option (Unit⊕(Unit⊕(Bool×Unit)))=>zaJ (zaJ y _) _) hf).trans rfl|false =>rw[hs,cond_false] at hf;exact (congrArg (λy:Option (Unit⊕(Unit⊕(Bool×Unit)))=>zaJ (zaJ y _) _) hf).trans rfl
   |false =>
     rw[zab,zai];cases l with
     |nil =>
       have:spM (zhF gs[k]::(gs.drop (k+1)).map zhF) []=false:=by rw[zh5];show (gs[k].2&&_)=false;rw[hb];rfl
       rw[this];rfl
     |cons x t =>
       have hs:at? p.segments (k:Int)=some (zmj gs[k]):=(by rw[hp1,zaX (by rw[yBs];exact hlt),List.getElem_map]);have h0:at? (x::t) 0=some x:=rfl;rw[decide_eq_true (by unfold len;rw[yAi];omega),zad,hs,zaa,h0,zaa];have h69:=L69 (n+j+1) (l:=zmj gs[k]) (s:=x) (by unfold zmj;rw[yBs];exact hg _ (yBg hlt)) (hx x (by simp));rw[h69,zaa,zaa,zfP];have hb2:(zhF gs[k]).2=false:=hb;rw[hb2,cond_false];show _=some (gM (zmj gs[k]) x&&_,());cases gM (zmj gs[k]) x with
       |false=>rfl|true =>have hp:zbu (x::t) 1 (len (x::t))=some t:=(by have:=zdQ (l:=x::t) (i:=1) (j:=(x::t).length) (by simp) (yAj _);rw[show len (x::t)=(((x::t).length:Nat):Int) from rfl];refine this.trans ?_;rw[List.drop_one,yBb,yBo (by simp)]);rw[zad,hp,zaa,hw,ih t (by simp at hl;omega) λy h=>hx y (by simp[h])];rfl
theorem L67(n:Nat){gs:List Seg}{p:zqP}(hp1:p.segments=gs.map zmj)(hp2:p.deep=gs.map (·.2))(hgl:gs.length<=100000)(hg:∀g∈gs,g.1.length<=100000){l:List B}(hl:l.length<=100000)(hx:∀x∈l,x.length<=100000) :
  @Eq (Option (Bool×Unit)) ((zal (n+gs.length+3)).d 67 [.st 5 p,.sl .str l] [.bool]) (some (spM (gs.map zhF) l,())):=by
 refine (q67 (n+gs.length+2) _ _).trans ?_;unfold m67;have:=L116 n hp1 hp2 hgl hg gs.length 0 l (by omega) hl hx;rw[show ((0:Nat):Int)=0 from rfl,yBB] at this;rw[this];rfl
end Pe.Tryz
end
section
/- What a pattern accepts from a spot on. -/
set_option maxRecDepth 100000
namespace Pe.Tryz
open Go Go.Proofs Pe Pe.Told
def Ac(p:Gt.Pt_)(x:zbR)(g:List Int):Prop:=∃y,After p g (Reach p (· =x)) y/\znS p y=true
theorem Reach.of{p:Gt.Pt_}{S:zbR->Prop}{y:zbR}:Reach p S y↔∃x,S x/\Reach p (· =x) y:=by
 constructor
 ·intro h;induction h with
  |base h=>exact ⟨_,h,.base rfl⟩|next _ hw ih=>obtain ⟨x,h1,h2⟩:=ih;exact ⟨x,h1,.next h2 hw⟩
 ·rintro ⟨x,hx,h⟩
  induction h with
  |base h=>exact .base (h▸hx)|next _ hw ih=>exact .next ih hw
theorem Reach.first{p:Gt.Pt_}{x y:zbR}:Reach p (· =x) y↔y=x\/(wid p x=true/\Reach p (· =nx x) y):=by
 constructor
 ·intro h;induction h with
  |base h=>exact .inl h|next _ hw ih =>
    rcases ih with rfl|⟨h1,h2⟩;·exact .inr ⟨hw,.base rfl⟩
    ·exact .inr ⟨h1,.next h2 hw⟩
 ·rintro (rfl|⟨hw,h⟩)
  ·exact .base rfl
  ·induction h with
   |base h=>rw[h];exact .next (.base rfl) hw|next _ h2 ih=>exact .next ih h2
theorem Reach.step{p:Gt.Pt_}{x:zbR}{Q:zbR->Prop}:(∃y,Reach p (· =x) y/\Q y)↔(wid p x=true/\∃y,Reach p (· =nx x) y/\Q y)\/Q x:=by
 constructor
 ·rintro ⟨y,h,hq⟩
  rcases Reach.first.1 h with rfl|⟨h1,h2⟩;·exact .inr hq
  ·exact .inl ⟨h1,y,h2,hq⟩
 ·rintro (⟨h1,y,h2,hq⟩|hq)
  ·exact ⟨y,Reach.first.2 (.inr ⟨h1,h2⟩),hq⟩
  ·exact ⟨x,.base rfl,hq⟩
theorem Nxt.of{p:Gt.Pt_}{S:zbR->Prop}{c:Int}{y:zbR}:Nxt p S c y↔∃x,S x/\Nxt p (· =x) c y:=by
 unfold Nxt;constructor;·intro h;obtain ⟨z,⟨x,hx,hs⟩,hr⟩:=Reach.of.1 h;exact ⟨x,hx,Reach.of.2 ⟨z,⟨x,rfl,hs⟩,hr⟩⟩
 ·rintro ⟨x,hx,hr⟩
  obtain ⟨z,⟨w,rfl,hs⟩,hr2⟩:=Reach.of.1 hr;exact Reach.of.2 ⟨z,⟨_,hx,hs⟩,hr2⟩
theorem After.of{p:Gt.Pt_}:∀{g:List Int}{S:zbR->Prop}{y:zbR},After p g S y↔∃x,S x/\After p g (· =x) y
 |[],S,y=>⟨λh=>⟨y,h,rfl⟩,λ⟨x,h,e⟩=>by have e:y=x:=e;rw[e];exact h⟩|c::r,S,y=>by
   unfold After;rw[After.of (S:=Nxt p S c)];constructor
   ·rintro ⟨z,hz,h⟩
    obtain ⟨x,hx,hn⟩:=Nxt.of.1 hz;exact ⟨x,hx,After.of.2 ⟨z,hn,h⟩⟩
   ·rintro ⟨x,hx,h⟩
    obtain ⟨z,hn,h⟩:=After.of.1 h;exact ⟨z,Nxt.of.2 ⟨x,hx,hn⟩,h⟩
def Ac1(p:Gt.Pt_)(x:zbR):List Int->Prop|[]=>znS p x=true|c::r=>∃w,zes p x c=(w,true)/\Ac p w r
theorem Ac.reach{p:Gt.Pt_}{x:zbR}(g:List Int):Ac p x g↔∃y,Reach p (· =x) y/\Ac1 p y g:=by
 cases g with
 |nil=>exact Iff.rfl|cons c r =>
   constructor
   ·rintro ⟨y,h,he⟩
    obtain ⟨z,hn,ha⟩:=After.of.1 (show After p r (Nxt p (Reach p (· =x)) c) y from h);obtain ⟨x',hx',hn⟩:=Nxt.of.1 hn;obtain ⟨w,⟨_,rfl,hw⟩,hr⟩:=Reach.of.1 hn;exact ⟨_,hx',w,hw,y,After.of.2 ⟨z,hr,ha⟩,he⟩
   ·rintro ⟨x',hx',w,hw,y,ha,he⟩
    obtain ⟨z,hr,ha⟩:=After.of.1 ha;refine ⟨y,?_,he⟩;show After p r (Nxt p (Reach p (· =x)) c) y;exact After.of.2 ⟨z,Nxt.of.2 ⟨x',hx',Reach.of.2 ⟨w,⟨x',rfl,hw⟩,hr⟩⟩,ha⟩
theorem Ac.iff{p:Gt.Pt_}{x:zbR}(g:List Int):Ac p x g↔(wid p x=true/\Ac p (nx x) g)\/Ac1 p x g:=by rw[Ac.reach,Reach.step,Ac.reach (x:=nx x)]
theorem zox(p:Gt.Pt_)(g:List Int):zhk p g↔Ac p zgJ g:=Iff.rfl
structure At (p:Gt.Pt_) (k:Nat) (r:List zbq):Prop where
 le:k<=p.nodes.length
 dr:p.nodes.drop k=r
def sp(k:Nat)(i:Bool):zbR:=⟨(k:Int),i⟩
theorem sp_in (k:Nat) (i:Bool):(sp k i).in_=i:=rfl
theorem sp_mk (k:Nat) (i j:Bool):(⟨(sp k i).n,j⟩:zbR)=sp k j:=rfl
theorem zpE(k:Nat)(i:Bool):nx (sp k i)=sp (k+1) false:=by simp[nx,sp]
section
variable{p:Gt.Pt_}{k:Nat}{d:zbq}{r:List zbq}{i:Bool}{g:List Int}
theorem At.lt(h:At p k (d::r)):k<p.nodes.length:=by have:=congrArg List.length h.dr;simp only[yAQ,yAi] at this;omega
theorem At.next(h:At p k (d::r)):At p (k+1) r where
 le:=h.lt
 dr:=by have:=congrArg List.tail h.dr;rwa[List.tail_drop] at this
theorem At.get(h:At p k (d::r)):p.nodes[(sp k i).n.toNat]?=some d:=by have h1:(sp k i).n.toNat=k:=Int.toNat_natCast k;rw[h1];have:=congrArg (λl:List zbq=>l[0]?) h.dr;simpa using this
theorem At.len(h:At p k []):k=p.nodes.length:=by have:=congrArg List.length h.dr;simp only[yAQ,yAZ] at this;have:=h.le;omega
theorem At.wid(h:At p k (d::r)):wid p (sp k i)=(!i&&(d.kind==2||d.kind==4)):=by unfold Tryz.wid;rw[h.get];rfl
theorem At.step(h:At p k (d::r))(c:Int):zes p (sp k i) c=zgI d (sp k i) c:=by unfold zes;rw[h.get]
theorem At.ends(h:At p k (d::r)):znS p (sp k i)=(d.kind==6):=by
 unfold znS;rw[h.get];have h1:((sp k i).n==Pe.len p.nodes)=false:=by rw[beq_eq_false_iff_ne];have:=h.lt;unfold Pe.len sp;dsimp only;omega
 rw[h1];rfl
theorem At.none(h:At p k []):p.nodes[(sp k i).n.toNat]?=none:=by have h1:(sp k i).n.toNat=k:=Int.toNat_natCast k;rw[h1,h.len];simp
theorem zsl(h:At p k []):Ac p (sp k false) g↔g=[]:=by
 have hw:Tryz.wid p (sp k false)=false:=by unfold Tryz.wid;rw[h.none];rfl
 rw[Ac.iff,hw];cases g with
 |nil =>
   have:znS p (sp k false)=true:=by
    unfold znS;have h1:((sp k false).n==Pe.len p.nodes)=true:=by rw[beq_iff_eq,<-show ((p.nodes.length:Nat):Int)=Pe.len p.nodes from rfl,<-h.len];rfl
    rw[h1];rfl
   simp[Ac1,this]
 |cons c t =>
   have:∀w,zes p (sp k false) c≠(w,true):=λw=>by unfold zes;rw[h.none];simp
   simp[Ac1,this]
theorem ztp{b:Int}(h:At p k (⟨1,b⟩::r)):Ac p (sp k false) g↔∃t,g=IntKind.i64.wrap b::t/\Ac p (sp (k+1) false) t:=by
 rw[Ac.iff,h.wid];cases g with
 |nil=>simp[Ac1,h.ends]|cons c t=>simp[Ac1,h.step,zgI,zpE];grind
theorem zqD{b:Int}(h:At p k (⟨2,b⟩::r)):Ac p (sp k false) g↔Ac p (sp (k+1) false) g\/∃c t,g=c::t/\c<256/\c≠47/\Ac p (sp k false) t:=by
 rw[Ac.iff,h.wid,zpE];cases g with
 |nil=>simp[Ac1,h.ends]|cons c t =>
   simp[Ac1,h.step,zgI,sp_in,sp_mk]
   grind
theorem zn2{b:Int}(h:At p k (⟨3,b⟩::r)):Ac p (sp k false) g↔∃t,g=256::t/\Ac p (sp (k+1) false) t:=by
 rw[Ac.iff,h.wid];cases g with
 |nil=>simp[Ac1,h.ends]|cons c t=>simp[Ac1,h.step,zgI,zpE];grind
theorem zuK{b:Int}(h:At p k (⟨5,b⟩::r)):Ac p (sp k false) g↔∃t,g=257::t/\Ac p (sp (k+1) false) t:=by
 rw[Ac.iff,h.wid];cases g with
 |nil=>simp[Ac1,h.ends]|cons c t=>simp[Ac1,h.step,zgI,zpE];grind
theorem zto{b:Int}(h:At p k (⟨4,b⟩::r)):Ac p (sp k false) g↔Ac p (sp (k+1) false) g\/∃c t,g=c::t/\c<256/\Ac p (sp k true) t:=by
 rw[Ac.iff,h.wid,zpE];cases g with
 |nil=>simp[Ac1,h.ends]|cons c t =>
   simp[Ac1,h.step,zgI,sp_in,sp_mk]
   grind
theorem zn5{b:Int}(h:At p k (⟨4,b⟩::r)):Ac p (sp k true) g↔∃c t,g=c::t/\((c=256/\Ac p (sp k false) t)\/(c<256/\Ac p (sp k true) t)):=by
 rw[Ac.iff,h.wid];cases g with
 |nil=>simp[Ac1,h.ends]|cons c t =>
   simp[Ac1,h.step,zgI,sp_in,sp_mk]
   grind
theorem zqE{b:Int}(h:At p k (⟨6,b⟩::r)):Ac p (sp k false) g↔g=[]\/∃t,g=257::t/\Ac p (sp k true) t:=by
 rw[Ac.iff,h.wid];cases g with
 |nil=>simp[Ac1,h.ends]|cons c t =>
   simp[Ac1,h.step,zgI,sp_in,sp_mk]
   grind
theorem zn3{b:Int}(h:At p k (⟨6,b⟩::r)):Ac p (sp k true) g↔g=[]\/∃c t,g=c::t/\c<256/\Ac p (sp k true) t:=by
 rw[Ac.iff,h.wid];cases g with
 |nil=>simp[Ac1,h.ends]|cons c t =>
   simp[Ac1,h.step,zgI,sp_in,sp_mk]
   grind
end
end Pe.Tryz
end
section
/- What a pattern accepts: its parts. -/
set_option maxRecDepth 100000
namespace Pe.Tryz
open Go Go.Proofs Pe Pe.Told
def zgB(v:List Int):Prop:=∀c t,v=c::t->256<=c
theorem zlp:zgB []:=λ_ _ h=>by cases h
theorem zeP{c:Int}(h:256<=c)(t:List Int):zgB (c::t):=λ_ _ e=>by cases e;exact h
theorem zhd(c:UInt8):(c.toNat:Int)<256:=by have:=c.toNat_lt;omega
theorem zc9(c:UInt8)(s:B):zah (c::s)=(c.toNat:Int)::zah s:=rfl
theorem zrQ{a b:UInt8}(h:(a.toNat:Int)=b.toNat):a=b:=UInt8.toNat_inj.1 (by omega)
theorem zc3:∀{s s':B}{v v':List Int},zgB v->zgB v'->zah s++v=zah s'++v'->s=s'/\v=v'
 |[],[],v,v',_,_,h=>⟨rfl,h⟩|[],c::s',v,v',hv,_,h=>by have:=hv _ _ (show v=(c.toNat:Int)::(zah s'++v') from h);have:=zhd c;omega
 |c::s,[],v,v',_,hv,h=>by have:=hv _ _ (show v'=(c.toNat:Int)::(zah s++v) from h.symm);have:=zhd c;omega
 |c::s,c'::s',v,v',hv,hv',h=>by rw[zc9,zc9,yAK,yAK] at h;obtain ⟨h1,h2⟩:=yBL h;obtain ⟨h3,h4⟩:=zc3 hv hv' h2;exact ⟨by rw[zrQ h1,h3],h4⟩
def zgA(g:List Int):Prop:=∀c∈g,(0:Int)<=c
theorem zpZ{x:zbq}(h:zdI x):x=⟨2,0⟩\/∃c:UInt8,x=⟨1,(c.toNat:Int)⟩:=by
 rcases h with ⟨h1,c,h2⟩|h;·exact .inr ⟨c,by obtain ⟨k,b⟩:=x;dsimp only at h1 h2;rw[h1,h2]⟩
 ·exact .inl h
section
variable{p:Gt.Pt_}
theorem zhi:∀(its:List zbq){R:List zbq}{k:Nat}{g:List Int},(∀x∈its,zdI x)->At p k (its++R)->zgA g ->
  (Ac p (sp k false) g↔∃s v,g=zah s++v/\gM (its.map atm) s=true/\Ac p (sp (k+its.length) false) v)
 |[],R,k,g,_,_,_=>by
   constructor;·intro h;exact ⟨[],g,rfl,by rw[yBh,znH];rfl,h⟩
   ·rintro ⟨s,v,rfl,h1,h2⟩
    rw[yBh,znH] at h1;obtain rfl:s=[]:=by simpa using h1
    exact h2
 |x::its,R,k,g,hx,hk,hg=>by
   have ih:=λ{g:List Int} (hg:zgA g)=>zhi its (R:=R) (k:=k+1) (g:=g) (λy hy=>hx y (by simp[hy])) hk.next hg;have hl:k+1+its.length=k+(x::its).length:=(by simp only[yAi];omega);rw[hl] at ih;rcases zpZ (hx x (by simp)) with rfl|⟨c,rfl⟩
   ·have hm:((⟨2,0⟩:zbq)::its).map atm=⟨true,0⟩::its.map atm:=rfl;rw[hm];induction g with
    |nil =>
      rw[zqD hk,ih hg];constructor
      ·rintro (⟨s,v,h1,h2,h3⟩|⟨c,t,h,_⟩)
       ·obtain ⟨rfl,rfl⟩:s=[]/\v=[]:=by
         cases s with
         |nil=>exact ⟨rfl,h1.symm⟩|cons=>cases h1
        exact ⟨[],[],rfl,by rw[zjE,h2];rfl,h3⟩
       ·cases h
      ·rintro ⟨s,v,h1,h2,h3⟩
       obtain ⟨rfl,rfl⟩:s=[]/\v=[]:=by
        cases s with
        |nil=>exact ⟨rfl,h1.symm⟩|cons=>cases h1
       rw[zjE] at h2;exact .inl ⟨[],[],rfl,by simpa using h2,h3⟩
    |cons c t iht =>
      rw[zqD hk,ih hg];have hgt:zgA t:=λz hz=>hg z (by simp[hz]);have iht:=iht hgt;constructor
      ·rintro (⟨s,v,h1,h2,h3⟩|⟨c',t',h,hc,hn,h3⟩)
       ·refine ⟨s,v,h1,?_,h3⟩;cases s with
        |nil=>rw[zjE,h2];rfl|cons d s=>rw[zfE,h2];rfl
       ·obtain ⟨rfl,rfl⟩:=yBL h;obtain ⟨s,v,h4,h5,h6⟩:=iht.1 h3;have h0:=hg c (by simp);refine ⟨UInt8.ofNat c.toNat::s,v,?_,?_,h6⟩;·rw[zc9,yAK,<-h4];congr 1;rw[UInt8.toNat_ofNat_of_lt' (by show c.toNat<256;omega)];omega
        ·rw[zfE,h5];have:(UInt8.ofNat c.toNat==47)=false:=by
          rw[beq_eq_false_iff_ne];intro e;have:=congrArg UInt8.toNat e;rw[UInt8.toNat_ofNat_of_lt' (by show c.toNat<256;omega)] at this;exact hn (by have h47:(47:UInt8).toNat=47:=rfl;omega)
         rw[this];simp
      ·rintro ⟨s,v,h1,h2,h3⟩
       cases s with
       |nil =>rw[zjE] at h2;exact .inl ⟨[],v,h1,by simpa using h2,h3⟩|cons d s =>
         rw[zfE] at h2;simp only[cond_true,yBr,yAd] at h2;rcases h2 with h2|⟨h2,h4⟩;·exact .inl ⟨d::s,v,h1,h2,h3⟩
         ·rw[zc9,yAK] at h1;obtain ⟨rfl,rfl⟩:=yBL h1;refine .inr ⟨_,_,rfl,zhd d,?_,iht.2 ⟨s,v,rfl,h4,h3⟩⟩;intro e;have:d=47:=zrQ (by rw[e];rfl);rw[this] at h2;cases h2
   ·have hm:((⟨1,(c.toNat:Int)⟩:zbq)::its).map atm=⟨false,(c.toNat:Int)⟩::its.map atm:=rfl;rw[hm,ztp hk,zh0];constructor
    ·rintro ⟨t,rfl,h⟩
     obtain ⟨s,v,rfl,h2,h3⟩:=(ih (λz hz=>hg z (by simp[hz]))).1 h;refine ⟨c::s,v,rfl,?_,h3⟩;rw[zfE,h2];simp
    ·rintro ⟨s,v,rfl,h2,h3⟩
     cases s with
     |nil=>rw[zjE] at h2;cases h2|cons d s =>rw[zfE] at h2;simp only[cond_false,yAd,beq_iff_eq] at h2;refine ⟨zah s++v,by rw[zc9,h2.1];rfl,(ih ?_).2 ⟨s,v,rfl,h2.2,h3⟩⟩;intro z hz;exact hg z (by rw[zc9,yAK];exact yA5 _ hz)
def zqJ(vr:Option (List zbq))(v:B):Bool:=match vr with
 |none=>true|some its=>(v != [])&&gM (its.map atm) v
def zdL(v:B):List Int:=bif v != [] then 257::zah v else []
theorem zmc(v:B):zgB (zdL v):=by
 unfold zdL;cases v != [] with
 |false=>exact zlp|true=>exact zeP (by decide) _
theorem zbJ(s:B):zgA (zah s):=by intro c hc;unfold zah at hc;obtain ⟨d,_,rfl⟩:=yAM.1 hc;omega
theorem zjn{k:Nat}{b:Int}{r:List zbq}(h:At p k (⟨6,b⟩::r)):∀s:B,Ac p (sp k true) (zah s)|[]=>(zn3 h).2 (.inl rfl)|c::s=>(zn3 h).2 (.inr ⟨_,_,rfl,zhd c,zjn h s⟩)
theorem zqC{k:Nat}{vr:Option (List zbq)}(hv:∀its,vr=some its->∀x∈its,zdI x)(h:At p k (zqO vr))(v:B):Ac p (sp k false) (zdL v)↔zqJ vr v=true:=by
 cases vr with
 |none =>
   refine iff_of_true ((zqE h).2 ?_) rfl;unfold zdL;cases v != [] with
   |false=>exact .inl rfl|true=>exact .inr ⟨_,rfl,zjn h v⟩
 |some its =>
   have h2:At p (k+1) (its++[]):=(by rw[yAR];exact At.next h);rw[zuK h];unfold zqJ zdL;cases hn:(v != []) with
   |false=>simp|true =>
     simp only[cond_true,yB3];constructor
     ·rintro ⟨t,h3,h4⟩
      obtain ⟨_,rfl⟩:=yBL h3;obtain ⟨s,w,h5,h6,h7⟩:=(zhi its (hv its rfl) h2 (zbJ v)).1 h4;have he:At p (k+1+its.length) []:=by
       refine ⟨?_,?_⟩;·have:=h2.dr;have:=congrArg List.length this;simp only[yAQ,yAR] at this;have:=h2.le;omega
       ·rw[<-yBj,h2.dr,yAR,yBz]
      obtain rfl:=(zsl he).1 h7;obtain ⟨rfl,_⟩:=zc3 (s:=v) (s':=s) (v:=[]) (v':=[]) zlp zlp (by rw[yAR];exact h5);exact h6
     ·intro h4;refine ⟨_,rfl,(zhi its (hv its rfl) h2 (zbJ v)).2 ⟨v,[],by simp,h4,?_⟩⟩;have he:At p (k+1+its.length) []:=by
       refine ⟨?_,?_⟩;·have:=h2.dr;have:=congrArg List.length this;simp only[yAQ,yAR] at this;have:=h2.le;omega
       ·rw[<-yBj,h2.dr,yAR,yBz]
      exact (zsl he).2 rfl
theorem zjT{k:Nat}{vr:Option (List zbq)}(h:At p k (zqO vr)){g:List Int}(ha:Ac p (sp k false) g):g=[]\/∃t,g=257::t:=by
 cases vr with
 |none =>
   rcases (zqE h).1 ha with h|⟨t,h,_⟩;·exact .inl h
   ·exact .inr ⟨t,h⟩
 |some its =>obtain ⟨t,h,_⟩:=(zuK h).1 ha;exact .inr ⟨t,h⟩
theorem At.skip:∀(a:List zbq){k:Nat}{b:List zbq},At p k (a++b)->At p (k+a.length) b|[],k,b,h=>h|x::a,k,b,h=>by have:=At.skip a (At.next h);rw[yAi,show k+(a.length+1)=k+1+a.length by omega];exact this
end
end Pe.Tryz
end
section
/- What a pattern accepts: all of it. -/
set_option maxRecDepth 100000
namespace Pe.Tryz
open Go Go.Proofs Pe Pe.Told
def sgn:List B->B->List Int->List Int|[],n,T=>zah n++T|x::l,n,T=>zah x++256::sgn l n T
theorem zeG{a b:List Int}(h1:zgA a)(h2:zgA b):zgA (a++b):=λc hc=>(yAo.1 hc).elim (h1 c) (h2 c)
theorem ze3{c:Int}{a:List Int}(h1:0<=c)(h2:zgA a):zgA (c::a):=λd hd=>(yAn.1 hd).elim (λe=>e▸h1) (h2 d)
theorem ze2(v:B):zgA (zdL v):=by
 unfold zdL;cases v != [] with
 |false=>intro c h;cases h
 |true=>exact ze3 (by decide) (zbJ v)
theorem zh8:∀(l:List B)(n:B){T:List Int},zgA T->zgA (sgn l n T)|[],n,_,h=>zeG (zbJ n) h|x::l,n,_,h=>zeG (zbJ x) (ze3 (by decide) (zh8 l n h))
section
variable{p:Gt.Pt_}
theorem ztn{k:Nat}{nm:List zbq}{vr:Option (List zbq)}(hi:∀x∈nm,zdI x)(hv:∀its,vr=some its->∀x∈its,zdI x)(h:At p k (nm++zqO vr))(n v:B) :
  Ac p (sp k false) (zah n++zdL v)↔gM (nm.map atm) n=true/\zqJ vr v=true:=by
 rw[zhi nm hi h (zeG (zbJ n) (ze2 v))];have h2:=At.skip nm h;constructor
 ·rintro ⟨s,w,h3,h4,h5⟩
  have hw:zgB w:=by
   rcases zjT h2 h5 with rfl|⟨t,rfl⟩;·exact zlp
   ·exact zeP (by decide) _
  obtain ⟨rfl,rfl⟩:=zc3 (zmc v) hw h3;exact ⟨h4,(zqC hv h2 v).1 h5⟩
 ·rintro ⟨h4,h5⟩
  exact ⟨n,_,rfl,h4,(zqC hv h2 v).2 h5⟩
theorem zoS{k:Nat}{nm:List zbq}{vr:Option (List zbq)}(hi:∀x∈nm,zdI x)(h:At p k (nm++zqO vr))(x:B){t:List Int}(ht:zgA t) :
  ¬Ac p (sp k false) (zah x++256::t):=by
 rw[zhi nm hi h (zeG (zbJ x) (ze3 (by decide) ht))];have h2:=At.skip nm h
 rintro ⟨s,w,h3,h4,h5⟩
 rcases zjT h2 h5 with rfl|⟨t',rfl⟩;·obtain ⟨_,h6⟩:=zc3 (zeP (by decide) t) zlp h3;cases h6
 ·obtain ⟨_,h6⟩:=zc3 (zeP (by decide) t) (zeP (by decide) t') h3;have:=(yBL h6).1;omega
theorem zsk{k:Nat}{its R:List zbq}(hi:∀x∈its,zdI x)(h:At p k (its++⟨3,0⟩::R))(x:B){T:List Int}(hT:zgB T)(hs:zgA T) :
  Ac p (sp k false) (zah x++T)↔gM (its.map atm) x=true/\∃t,T=256::t/\Ac p (sp (k+its.length+1) false) t:=by
 rw[zhi its hi h (zeG (zbJ x) hs)];have h2:=At.skip its h;constructor
 ·rintro ⟨s,w,h3,h4,h5⟩
  obtain ⟨t,rfl,h6⟩:=(zn2 h2).1 h5;obtain ⟨rfl,rfl⟩:=zc3 hT (zeP (by decide) t) h3;exact ⟨h4,t,rfl,h6⟩
 ·rintro ⟨h4,t,rfl,h5⟩
  exact ⟨x,_,rfl,h4,(zn2 h2).2 ⟨t,rfl,h5⟩⟩
theorem zuJ{k:Nat}{b:Int}{R:List zbq}(h:At p k (⟨4,b⟩::R)){T:List Int}(hT:zgB T):∀x:B,Ac p (sp k true) (zah x++T)↔∃t,T=256::t/\Ac p (sp k false) t
 |[]=>by
   rw[zn5 h];constructor
   ·rintro ⟨c,t,h1,⟨rfl,h2⟩|⟨h2,_⟩⟩
    ·exact ⟨t,h1,h2⟩
    ·have:=hT c t h1;omega
   ·rintro ⟨t,h1,h2⟩
    exact ⟨256,t,h1,.inl ⟨rfl,h2⟩⟩
 |c::x=>by
   rw[zn5 h,<-zuJ h hT x];have hc:=zhd c;constructor
   ·rintro ⟨c',t,h1,h2⟩
    obtain ⟨rfl,rfl⟩:=yBL h1;rcases h2 with ⟨h2,_⟩|⟨_,h2⟩
    ·have h2:(c.toNat:Int)=256:=h2;omega
    ·exact h2
   ·intro h2;exact ⟨_,_,rfl,.inr ⟨hc,h2⟩⟩
theorem zn4{k:Nat}{b:Int}{R:List zbq}(h:At p k (⟨4,b⟩::R)){T:List Int}(hT:zgB T){x:B}(hx:x≠[]) :
  Ac p (sp k false) (zah x++T)↔Ac p (sp (k+1) false) (zah x++T)\/∃t,T=256::t/\Ac p (sp k false) t:=by
 rw[zto h];cases x with
 |nil=>exact absurd rfl hx|cons c x =>
   rw[<-zuJ h hT x];have hc:=zhd c;constructor
   ·rintro (h1|⟨c',t,h1,h2,h3⟩)
    ·exact .inl h1
    ·obtain ⟨rfl,rfl⟩:=yBL h1;exact .inr h3
   ·rintro (h1|h1)
    ·exact .inl h1
    ·exact .inr ⟨_,_,rfl,hc,h1⟩
theorem zmU{nm:List zbq}{vr:Option (List zbq)}(hn:∀x∈nm,zdI x)(hv:∀its,vr=some its->∀x∈its,zdI x){n:B}(hne:n≠[])(v:B) :
  ∀(gs:List Seg){k:Nat}(l:List B),(∀g∈gs,∀x∈g.1,zdI x)->At p k (gs.flatMap zoc++nm++zqO vr)->(∀x∈l,x≠[]) ->
  (Ac p (sp k false) (sgn l n (zdL v))↔spM (gs.map zhF) l=true/\gM (nm.map atm) n=true/\zqJ vr v=true)
 |[],k,l,_,h,hl=>by
   rw[List.flatMap_nil,yBf] at h;cases l with
   |nil =>have e:spM (([]:List Seg).map zhF) []=true:=(by rw[yBh,zmh];rfl);rw[e];exact (ztn hn hv h n v).trans (by simp)
   |cons x l =>have e:spM (([]:List Seg).map zhF) (x::l)=false:=(by rw[yBh,zmh];rfl);rw[e];refine iff_of_false (zoS hn h x (zh8 l n (ze2 v))) (by simp)
 |(its,true)::gs,k,l,hg,h,hl=>by
   have h:At p k (⟨4,0⟩::(gs.flatMap zoc++nm++zqO vr)):=(by simpa[zoc] using h);have ih:=λl hl=>zmU hn hv hne v gs (k:=k+1) l (λg h=>hg g (by simp[h])) h.next hl;induction l with
   |nil =>
     have e:spM (((its,true)::gs).map zhF) []=spM (gs.map zhF) []:=(by rw[yAl,zh5];rfl);rw[e,<-ih [] hl];refine (zn4 h (zmc v) hne).trans ⟨?_,.inl⟩
     rintro (h1|⟨t,h1,_⟩)
     ·exact h1
     ·unfold zdL at h1;cases hv:(v != [])<;>rw[hv] at h1<;>simp at h1
   |cons x l ihl =>
     have e:spM (((its,true)::gs).map zhF) (x::l)=(spM (gs.map zhF) (x::l)||spM (((its,true)::gs).map zhF) l):=(by rw[yAl,zfP];rfl);have ihl:=ihl λy hy=>hl y (by simp[hy]);have h1:=zn4 h (T:=256::sgn l n (zdL v)) (zeP (by decide) _) (hl x (by simp));have h2:=ih (x::l) hl;have h2:Ac p (sp (k+1) false) (zah x++256::sgn l n (zdL v))↔_:=h2;refine (show Ac p (sp k false) (sgn (x::l) n (zdL v))↔_ from h1).trans ?_;rw[h2,e];constructor
     ·rintro (⟨h3,h4⟩|⟨t,h3,h4⟩)
      ·exact ⟨by rw[h3];rfl,h4⟩
      ·obtain ⟨_,rfl⟩:=yBL h3;obtain ⟨h5,h6⟩:=ihl.1 h4;exact ⟨by rw[h5];simp,h6⟩
     ·rintro ⟨h3,h4⟩
      rcases (yBr _ _).mp h3 with h3|h3;·exact .inl ⟨h3,h4⟩
      ·exact .inr ⟨_,rfl,ihl.2 ⟨h3,h4⟩⟩
 |(its,false)::gs,k,l,hg,h,hl=>by
   have h:At p k (its++⟨3,0⟩::(gs.flatMap zoc++nm++zqO vr)):=(by simpa[zoc] using h);have hi:∀x∈its,zdI x:=hg (its,false) (by simp);have hk:At p (k+its.length+1) (gs.flatMap zoc++nm++zqO vr):=(At.skip its h).next;have ih:=λl hl=>zmU hn hv hne v gs (k:=k+its.length+1) l (λg h=>hg g (by simp[h])) hk hl;cases l with
   |nil =>
     have e:spM (((its,false)::gs).map zhF) []=false:=(by rw[yAl,zh5];rfl);rw[e];refine (show Ac p (sp k false) (sgn [] n (zdL v))↔_ from zsk hi h n (zmc v) (ze2 v)).trans ?_;refine iff_of_false ?_ (by simp)
     rintro ⟨_,t,h1,_⟩
     unfold zdL at h1;cases hv:(v != [])<;>rw[hv] at h1<;>simp at h1
   |cons x l =>
     have e:spM (((its,false)::gs).map zhF) (x::l)=(gM (its.map atm) x&&spM (gs.map zhF) l):=(by rw[yAl,zfP];rfl);rw[e];refine (show Ac p (sp k false) (sgn (x::l) n (zdL v))↔_ from zsk hi h x (T:=256::sgn l n (zdL v)) (zeP (by decide) _) (ze3 (by decide) (zh8 l n (ze2 v)))).trans ?_;rw[yAd,and_assoc,<-ih l λy hy=>hl y (by simp[hy])];refine and_congr_right λ_=>⟨?_,λh=>⟨_,rfl,h⟩⟩
     rintro ⟨t,h1,h2⟩
     obtain ⟨_,rfl⟩:=yBL h1;exact h2
theorem ztm{k:B}{gs:List Seg}{nm:List zbq}{vr:Option (List zbq)}(hg:∀g∈gs,∀x∈g.1,zdI x)(hn:∀x∈nm,zdI x)(hv:∀its,vr=some its->∀x∈its,zdI x)
  {l:List B} (hl:∀x∈l,x≠[]) {n:B} (hne:n≠[]) (v:B) :
  zhk (zhu k gs nm vr) (sgn l n (zdL v))↔spM (gs.map zhF) l=true/\gM (nm.map atm) n=true/\zqJ vr v=true :=
 (zox _ _).trans (zmU hn hv hne v gs (k:=0) l hg ⟨yAD _,rfl⟩ hl)
end
theorem zpb(T:List Int)(n:B):∀(l:List B)(a:List Int),a≠[]->(l++[n]).foldl sgF a++T=a++256::sgn l n T
 |[],a,ha=>by
   have:zcP a=a++[256]:=by unfold zcP;rw[decide_eq_true (by have:=List.length_pos_iff.2 ha;unfold len;omega)];rfl
   simp[sgF,this,sgn]
 |x::l,a,ha=>by
   have:zcP a=a++[256]:=by unfold zcP;rw[decide_eq_true (by have:=List.length_pos_iff.2 ha;unfold len;omega)];rfl
   rw[yAK,yBt,zpb T n l (sgF a x) (by simp[sgF,this])];simp[sgF,this,sgn]
theorem zo9{p:Gt.Purl}(h:∀x∈zdf p.space,x≠[]):zeH p=sgn (zdf p.space) p.name (zdL p.version):=by
 have key:∀T,(parts p).foldl sgF []++T=sgn (zdf p.space) p.name T:=by
  intro T;unfold parts;cases hs:zdf p.space with
  |nil=>simp[sgF,zcP,sgn,len]|cons x l =>have hx:x≠[]:=h x (by rw[hs];simp);have h0:sgF [] x=zah x:=(by simp[sgF,zcP,len]);rw[yAK,yBt,h0,zpb T p.name l _ (by intro e;have:=congrArg List.length e;rw[zbi] at this;exact hx (yAO.1 this))];rfl
 unfold zeH;rw[<-key,zdL];cases p.version != []<;>simp
end Pe.Tryz
end
section
/- The canonical form of the reference; what both answer. -/
set_option maxRecDepth 100000
namespace Pe.Tryz
open Go Go.Proofs Pe Pe.Told
theorem s115(o:Orc Sx){s:List UInt8}(h:s.length<=1000000000):m115 o s=some (zdv false s,()):=by
 unfold m115;refine zaA (zec (A:=List UInt8) (λk b=>(zah b,(k:Int),())) s.length (λk b=>.inl (zah (b++zdv (zf1 s k) (s.drop k)),())) (λk b=>b.length<=k/\zsQ b=zf1 s k) (λk b hk hb=>?_) 0 [] (yAD _) ⟨by simp,rfl⟩) ?_
 ·by_cases hlt:k<s.length
  ·left;have hl:b.length+1<=lim:=by have:=hb.1;simp[lim];omega
   simp only[zaW,hlt,decide_true,zad,zaX hlt,zaa,zaD hlt (by omega),zav];have hcond:∀{β:Type}(g:Bool->Option β),ob (br ((len (zah b))==0) (some true) (ob (at? (zah b) (IntKind.i64.wrap ((len (zah b)) - 1))) λy5=>(some (y5 != 45)))) g=g (!zf1 s k):=by
    intro β g;rw[<-hb.2];rcases List.eq_nil_or_concat b with rfl|⟨b',x,rfl⟩;·rfl
    ·rw[List.concat_eq_append] at hb hl ⊢;have e1:len (zah (b'++[x]))=((b'.length+1:Nat):Int):=by simp[len,zbi]
     have:(((b'.length+1:Nat):Int)==0)=false:=by simp;omega
     have hb1:=hb.1;rw[yAr,List.length_singleton] at hb1;rw[e1,this,zbT (by omega) (by omega),show ((b'.length+1:Nat):Int) - 1=(b'.length:Int) by omega];have e2:at? (zah (b'++[x])) (b'.length:Int)=some (x.toNat:Int):=(by rw[zhg,zl0,yAz (by simp[zbi]),zbi];simp[zah]);simp only[zab,e2,zaa,ziA];rw[show ((x.toNat:Int) != 45)= !(x==45) from eq8 (f:=λx=>((x.toNat:Int) != 45)) (g:=λx=> !(x==45)) (by decide+kernel) x]
   have hd:(bif (bif ((s[k].toNat:Int)==45) then true else ((s[k].toNat:Int)==95)) then true else ((s[k].toNat:Int)==46))=zcg s[k] :=
    eq8 (f:=λc=>bif (bif ((c.toNat:Int)==45) then true else ((c.toNat:Int)==95)) then true else ((c.toNat:Int)==46)) (g:=zcg) (by decide+kernel) _
   rw[hd];cases hc:zcg s[k] with
   |false =>
     refine ⟨b++[s[k]],trivial,?_,⟨by simp;exact hb.1,by rw[ziA,zdO hlt,hc,zub _ hc]⟩,?_⟩;·simp only[zab,cat1 hl,zaa]
     ·rw[zdZ hlt,hc];simp
   |true =>
     cases hp:zf1 s k with
     |false =>
       refine ⟨b++[45],trivial,?_,⟨by simp;exact hb.1,by rw[ziA,zdO hlt,hc];rfl⟩,?_⟩;·simp only[zad];refine (hcond _).trans ?_;simp only[hp,yAU,zad,zuf hl,zaa]
       ·rw[<-hp,zdZ hlt,hc,hp];simp
     |true =>
       refine ⟨b,trivial,?_,⟨by have:=hb.1;omega,by rw[hb.2,hp,zdO hlt,hc]⟩,?_⟩;·simp only[zad];refine (hcond _).trans ?_;simp only[hp,yA7,zab]
       ·rw[<-hp,zdZ hlt,hc,hp];simp
  ·right;obtain rfl:k=s.length:=by omega
   simp[zaW,zab,zdv]
 ·simp[zai,zfq,zf1]
theorem L115(n:Nat){s:List UInt8}(h:s.length<=1000000000): @Eq (Option (List UInt8×Unit)) ((zal (n+1)).d 115 [.str s] [.str]) (some (zdv false s,())):=(q115 n _).trans (s115 _ h)
theorem s66(n:Nat){p:Gt.Purl}(T:Tiny p):m66 (zal (n+3)) p=some (za7 p,()):=by
 have t1:=T.space;have t2:=T.name;have t4:=T.quals;unfold m66 za7;rw[L33 n,L108 (n+2) (show p.space.length<=1000000000 by omega),L108 (n+2) (show p.name.length<=1000000000 by omega)];simp only[zaa];cases (zbk p.kind).1.small<;>cases (zbk p.kind).1.dashes;·simp only[zab,cond_false,zai];rw[zcm _ (by simp[lim];omega)];rfl
 ·simp only[zad,zab,cond_false,cond_true,zai];rw[L115 (n+2) (by omega)];simp only[zaa,zai];rw[zcm _ (by simp[lim];omega)];rfl
 ·simp only[zad,zab,cond_false,cond_true,zai];rw[zcm _ (by simp[lim];omega)];rfl
 ·simp only[zad,cond_true,zai];rw[L115 (n+2) (by rw[zfQ];omega)];simp only[zaa,zai];rw[zcm _ (by simp[lim];omega)];rfl
theorem L66(n:Nat){p:Gt.Purl}(T:Tiny p): @Eq (Option (Gt.Purl×Unit)) ((zal (n+4)).d 66 [.st 3 p] [(.st 3)]) (some (za7 p,())):=(q66 (n+3) _).trans (s66 n T)
end Pe.Tryz
end
section
/- PROVED in plain: CheckPattern and Matches answer as the reference does. -/
set_option maxRecDepth 100000
namespace Pe.Tryz
open Go Go.Proofs Pe Pe.Told
theorem zkK:∀(k:Nat)(gs:List Seg)(l:B),(∀g∈gs,g.1.length<=3000)->l.length<=3000->(∀g∈(zcq k gs l).1,g.1.length<=3000)/\(zcq k gs l).2.1.length<=3000/\(zcq k gs l).2.2.1.length<=3000
 |0,gs,l,h,hl=>⟨h,yAD _,hl⟩|k+1,gs,l,h,hl=>by
   obtain ⟨g1,g2,g3,g4⟩:=zbg true l;unfold zcq;cases he:(zaf true l).2.2.2 with
   |some e=>exact ⟨h,by show (zaf true l).1.length<=_;omega,by have:=(g2 e he).length_le;show e.length<=_;omega⟩|none =>
     obtain ⟨g5,g6⟩:=g4 he;dsimp only;cases hdB 47 (zaf true l).2.2.1 with
     |false=>exact ⟨h,by show (zaf true l).1.length<=_;omega,by show (zaf true l).2.2.1.length<=_;omega⟩|true =>
       refine zkK k _ _ (λg hg=>?_) (by have:= @yCw _ (zaf true l).2.2.1;omega);rcases yAo.1 hg with hg|hg;·exact h g hg
       ·obtain rfl:g=((zaf true l).1,(zaf true l).2.1):=by simpa using hg
        show (zaf true l).1.length<=_;omega
def refM(k:B)(gs:List Seg)(nm:List zbq)(vr:Option (List zbq))(x:Gt.Purl):Bool :=
 bif (bif k != [42] then k != x.kind else false) then false else spM (gs.map zhF) (zdf x.space)&&(gM (nm.map atm) x.name&&zqJ vr x.version)
theorem s25(n:Nat){k:B}{gs:List Seg}{nm:List zbq}{vr:Option (List zbq)}(hk:(k==[])=false)(hgs:gs.length<=10)(hg:∀g∈gs,g.1.length<=3000)(hn:nm.length<=3000)(hv:∀its,vr=some its->its.length<=3000){p:Gt.Purl}(T:Tiny p) :
  m25 (zal (n+13)) (zfu k gs nm vr) p=some (refM k gs nm vr (za7 p),()):=by
 have Tc:=zgG T;have c1:=Tc.space;have c2:=Tc.name;have c3:=Tc.version;have hs:=ze4 (za7 p).space;unfold m25 refM;rw[L66 (n+9) T,zaa];dsimp only;generalize za7 p=x at *
 have h67:=L67 (n+(10 - gs.length)) (gs:=gs) (p:=zfu k gs nm vr) rfl rfl (by omega) (λg h=>by have:=hg g h;omega) (l:=zdf x.space) (by omega) (λy hy=>by have:=zm5 hy;omega);rw[show n+(10 - gs.length)+gs.length+3=n+13 by omega] at h67;have h68:=L68 (n+11) (s:=x.space) (by omega);have h69:=L69 (n+12) (l:=nm.map atm) (s:=x.name) (by rw[yBs];omega) (by omega);have e1:((zfu k gs nm vr).kind != [])=(k != [42]):=by
  show (zds k != [])=_;unfold zds;cases h:(k==[42]) with
  |true=>rw[show (k != [42])=false by rw[bne,h];rfl];rfl|false=>rw[show (k != [42])=true by rw[bne,h];rfl,cond_false,bne,hk];rfl
 have e2:(k != [42])=true->(zfu k gs nm vr).kind=k:=by intro h;show zds k=k;unfold zds;rw[show (k==[42])=false by rw[bne] at h;simpa using h];rfl
 rw[e1];have hlast:(ob (br (!(Gt.Rp_.versioned (zfu k gs nm vr))) (some true) (ob (br ((Gt.Purl.version x) != []) (ob (α:=Bool×Unit) ((zal (n+13)).d 69 [.sl (.st 4) (Gt.Rp_.version (zfu k gs nm vr)),.str (Gt.Purl.version x)] [.bool]) λ(r8:Bool×Unit)=>(some r8.1)) (some false)) λb9=>(some b9))) λb10=>(some (b10,())))=some (zqJ vr x.version,()):=by
  cases hvr:vr with
  |none=>rfl|some its =>
    show (ob (ob (br (x.version != []) _ _) _) _)=_;unfold zqJ;cases x.version != [] with
    |false=>rfl|true =>have h:=L69 (n+12) (l:=its.map atm) (s:=x.version) (by rw[yBs];have:=hv its hvr;omega) (by omega);rw[zad];refine (congrArg (λy:Option (Bool×Unit)=>ob (ob (ob y _) _) _) h).trans ?_;rfl
 have hrest:(ob (ob (α:=List (List UInt8)×Unit) ((zal (n+13)).d 68 [.str (Gt.Purl.space x)] [(.sl .str)]) λ(r3:List (List UInt8)×Unit)=>(ob (α:=Bool×Unit) ((zal (n+13)).d 67 [.st 5 (zfu k gs nm vr),.sl .str r3.1] [.bool]) λ(r4:Bool×Unit)=>(some (!r4.1)))) λb5=>(ob (br b5 (some true) (ob (α:=Bool×Unit) ((zal (n+13)).d 69 [.sl (.st 4) (Gt.Rp_.name (zfu k gs nm vr)),.str (Gt.Purl.name x)] [.bool]) λ(r6:Bool×Unit)=>(some (!r6.1)))) λb7=>(br b7 (some (false,())) (ob (br (!(Gt.Rp_.versioned (zfu k gs nm vr))) (some true) (ob (br ((Gt.Purl.version x) != []) (ob (α:=Bool×Unit) ((zal (n+13)).d 69 [.sl (.st 4) (Gt.Rp_.version (zfu k gs nm vr)),.str (Gt.Purl.version x)] [.bool]) λ(r8:Bool×Unit)=>(some r8.1)) (some false)) λb9=>(some b9))) λb10=>(some (b10,()))))))=some (spM (gs.map zhF) (zdf x.space)&&(gM (nm.map atm) x.name&&zqJ vr x.version),()):=by
  rw[hlast];refine (congrArg (λy:Option (List (List UInt8)×Unit)=>ob (ob y _) _) h68).trans ?_;rw[zaa];refine (congrArg (λy:Option (Bool×Unit)=>ob (ob y _) _) h67).trans ?_;rw[zaa,zaa];cases spM (gs.map zhF) (zdf x.space) with
  |false=>rfl|true =>show (ob (ob _ _) _)=_;refine (congrArg (λy:Option (Bool×Unit)=>ob (ob y _) _) h69).trans ?_;rw[zaa,zaa];cases gM (nm.map atm) x.name<;>rfl
 cases hkk:(k != [42]) with
 |false=>exact hrest|true =>
   rw[zad,e2 hkk];rw[zaa];cases (k != x.kind) with
   |true=>rfl|false=>exact hrest
noncomputable def zti(s:B)(p:Gt.Purl):Bool×Int×Unit:=zjy (zd7 s).1 (zd7 s).2.2.1 p
theorem zsL{p:Gt.Purl}(h:zcr p=0):p.name≠[]/\∀x∈zdf p.space,x≠[]:=by
 obtain ⟨h1,h2,h3,h4,h5,h6,h7,h8,h9⟩:=zjL.1 h;constructor;·intro e;unfold zdC at h5;rw[e] at h5;cases h5
 ·intro x hx e;unfold zbc at h4;have:(zdf p.space).any (zfU false)=true:=yBc.2 ⟨x,hx,by rw[e];rfl⟩;rw[this] at h4;cases h4
theorem L10(n:Nat)(s:B){p:Gt.Purl}(h:p.qualifiers.length<=1000000000): @Eq (Option (Bool×Int×Unit)) ((zal (n+15)).d 10 [.str s,.st 3 p] [.bool,(.int .i64)]) (some (zti s p)):=by
 refine (q10 (n+14) _ _).trans ?_;unfold m10 zti zjy;rw[L18 (n+10) s,zaa];rcases zk8 s with ⟨a,e,he,h1,h2⟩|⟨hs,hd,hb,hl,h1,h2⟩
 ·rw[h1,h2];dsimp only;rw[show (e != 0)=true by simpa using he];rfl
 ·rw[h1,h2];dsimp only;rw[show ((0:Int) != 0)=false from rfl,zab,cond_false,L24 (n+10) h,zaa];dsimp only;cases hc:(zcr p != 0) with
  |true=>rfl|false =>
    have hc0:zcr p=0:=(by simpa using hc);have T:=zhc hc0;rw[zab,cond_false];have hsl:(zas s).2.1.length<=3000:=(by have:=(zlK 0 hs).length_le;omega);obtain ⟨l1,l2,l3⟩:=zkK ((zas s).2.1.length+1) [] (zas s).2.1 (by simp) hsl;obtain ⟨n1,n2⟩:=zh3 ((zas s).2.1.length+1) [] (zas s).2.1 (by simp);have hvl:∀its,zqS (zhn s).2.2.1=some its->its.length<=3000/\∀x∈its,zdI x:=by
     intro its hv;unfold zqS at hv;cases h64:hdB 64 (zhn s).2.2.1 with
     |false=>rw[h64] at hv;cases hv|true =>rw[h64] at hv;obtain rfl:=yAp hv;refine ⟨?_,zeh false _⟩;have:=(zbg false (zhn s).2.2.1.tail).2.2.1;have h3:= @yCw _ (zhn s).2.2.1;have:(zhn s).2.2.1.length<=3000:=l3;omega
    have h25:=(q25 (n+13) (zfu (zas s).1 (zhn s).1 (zhn s).2.1 (zqS (zhn s).2.2.1)) p).trans (s25 n (zp5 hd) hl l1 l2 (λits h=>(hvl its h).1) T);refine (congrArg (λy:Option (Bool×Unit)=>ob y _) h25).trans ?_;rw[zaa];have hz:=zmO hc0;obtain ⟨z1,z2⟩:=zsL hz;have hm:=ztm (k:=(zas s).1) (gs:=(zhn s).1) (nm:=(zhn s).2.1) (vr:=zqS (zhn s).2.2.1) n1 n2 (λits h=>(hvl its h).2) z2 z1 (za7 p).version;rw[<-zo9 z2] at hm;have hd:decide (zhk (zhu (zas s).1 (zhn s).1 (zhn s).2.1 (zqS (zhn s).2.2.1)) (zeH (za7 p)))=(spM ((zhn s).1.map zhF) (zdf (za7 p).space)&&(gM ((zhn s).2.1.map atm) (za7 p).name&&zqJ (zqS (zhn s).2.2.1) (za7 p).version)):=(by rw[yBE,decide_eq_true_iff,hm,yAd,yAd]);unfold refM;rw[hd];rfl
theorem L3(n:Nat)(s:B){p:Gt.Purl}(h:p.qualifiers.length<=1000000000):m3 (zal (n+15)) s p=some (true,()):=by unfold m3;rw[L7 (n+9),zaa,L8 (n+10),zaa,L9 (n+9) s h,zaa,L10 n s h,zaa,told (n+8)];have hc:=zoJ s;have c1:(zd7 s).2.1=(zpo s).2.1:=congrArg (·.1) hc;have c2:(zd7 s).2.2.1=(zpo s).2.2.1:=congrArg (·.2.1) hc;dsimp only;rw[show zjy (zd7 s).1 (zd7 s).2.2.1 p=zti s p from rfl,c1,c2];simp[zad,zaa]
end Pe.Tryz
end
