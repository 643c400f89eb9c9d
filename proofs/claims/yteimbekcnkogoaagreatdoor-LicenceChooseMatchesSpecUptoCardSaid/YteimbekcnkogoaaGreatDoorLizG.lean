/- PROVED HERE: a part of the seat's proofs; see the text that holds the claim's theorem. -/
import Derived.Test.YteimbekcnkogoaaGreatDoorNm
import Derived.Test.YteimbekcnkogoaaGreatDoorLizF
section
/- Rows of rows in order, zbh repeats; the zsN ones; two rows as one: over no program. -/
set_option linter.unusedVariables false
namespace Pe
open Go
def zg3 {α:Type} (c:α→α→Int) (x:α):List α→List α
 | []=>[x]
 | y::r=>if c y x<0 then y::zg3 c x r else if c x y<0 then x::y::r else y::r
def zqR {α:Type} (c:α→α→Int) (l:List α):List α:=l.foldl (fun a x=>zg3 c x a) []
section
variable {α:Type} {c:α→α→Int} (h:OrdAll c)
include h
theorem zeO (x:α):∀(l:List α) (z:α),z∈zg3 c x l↔z=x∨z∈l
 | [],z=>by simp [zg3]
 | y::r,z=>by
   unfold zg3
   split
   ·simp only [yAj,zeO x r z]
    exact ⟨fun h=>h.elim (fun h=> .inr (.inl h)) fun h=>h.elim .inl fun h=> .inr (.inr h),fun h=>h.elim (fun h=> .inr (.inl h)) fun h=>h.elim .inl fun h=> .inr (.inr h)⟩
   ·rename_i h1
    split
    ·simp
    ·rename_i h2
     have:=h.eq _ _ h1 h2
     subst this
     simp
theorem zfB (x:α):∀(l:List α),zcg c l→zcg c (zg3 c x l)
 | [],_=>yAT _ _
 | y::r,hs=>by
   obtain ⟨h1,h2⟩:=yAE.1 hs
   unfold zg3
   split
   ·rename_i h3
    refine yAE.2 ⟨fun z hz=> ?_,zfB x r h2⟩
    rcases (zeO h x r z).1 hz with rfl | hz
    ·exact h3
    ·exact h1 z hz
   ·split
    ·rename_i h4
     refine yAE.2 ⟨fun z hz=> ?_,hs⟩
     rcases yAj.1 hz with rfl | hz
     ·exact h4
     ·exact h.trans _ _ _ h4 (h1 z hz)
    ·exact hs
theorem zlZ:∀(l a:List α),zcg c a→zcg c (l.foldl (fun a x=>zg3 c x a) a)∧∀z,z∈l.foldl (fun a x=>zg3 c x a) a↔z∈a∨z∈l
 | [],a,ha=>⟨ha,fun z=>by simp⟩
 | x::l,a,ha=>by
   obtain ⟨h1,h2⟩:=zlZ l (zg3 c x a) (zfB h x a ha)
   refine ⟨h1,fun z=> ?_⟩
   rw [yAW,h2,zeO h,yAj]
   exact ⟨fun h=>h.elim (fun h=>h.elim (fun h=> .inr (.inl h)) .inl) fun h=> .inr (.inr h),fun h=>h.elim (fun h=> .inl (.inr h)) fun h=>h.elim (fun h=> .inl (.inl h)) .inr⟩
theorem zfA (l:List α):zcg c (zqR c l):=(zlZ h l [] List.Pairwise.nil).1
theorem zfR (l:List α) (z:α):z∈zqR c l↔z∈l:=by
 unfold zqR;rw [(zlZ h l [] List.Pairwise.nil).2];simp
theorem zrQ {l r:List α} (hr:zcg c r) (hm:∀z,z∈r↔z∈l):r=zqR c l :=
 zeI h hr (zfA h l) fun z=>by rw [hm,zfR h]
theorem zhz {l:List α} (hr:zcg c l):zqR c l=l:=(zrQ h hr fun _=>Iff.rfl).symm
theorem ziS {t:α→α→Bool} (ht:∀x y,t x y=true↔x=y) (l:List α):zid t (zdi c l) (zdi c l).length=zqR c l :=
 zlb h ht (zfA h l) fun x=>zfR h l x
theorem zmN {a b:List α} (ha:zcg c a) (hb:zcg c b) (hab:∀x∈a,x∈b):a.Sublist b:=by
 induction b generalizing a with
 | nil =>
   cases a with
   | nil=>exact .slnil
   | cons x r=>exact absurd (hab x (by simp)) (by simp)
 | cons y b ih =>
   obtain ⟨b1,b2⟩:=yAE.1 hb
   cases a with
   | nil=>exact List.nil_sublist _
   | cons x r =>
     obtain ⟨a1,a2⟩:=yAE.1 ha
     by_cases he:x=y
     ·subst he
      refine .cons_cons _ (ih a2 b2 fun z hz=> ?_)
      rcases yAj.1 (hab z (by simp [hz])) with rfl | hz'
      ·exact absurd (a1 _ hz) (h.irr _)
      ·exact hz'
     ·refine .cons _ (ih ha b2 fun z hz=> ?_)
      rcases yAj.1 (hab z hz) with rfl | hz'
      ·exfalso
       rcases yAj.1 hz with rfl | hz2
       ·exact he rfl
       ·have hx:x∈b:=(yAj.1 (hab x (by simp))).resolve_left he
        exact h.irr _ (h.trans _ _ _ (a1 _ hz2) (b1 _ hx))
      ·exact hz'
theorem zo5 {p r:List α} {w v:α} (hs:zcg c (p++w::r)) (hv:v∈p++w::r) (hlt:c v w<0):v∈p:=by
 rcases yAv.1 hv with h1 | h1
 ·exact h1
 ·exfalso
  obtain ⟨_,h2,_⟩:=yAX.1 hs
  rcases yAj.1 h1 with rfl | h1
  ·exact h.irr _ hlt
  ·exact h.irr _ (h.trans _ _ _ hlt ((yAE.1 h2).1 _ h1))
end
def zbC {α:Type} (c:α→α→Int):List α→List α→List α
 | [],b=>b
 | a,[]=>a
 | x::a,y::b=>if c x y<0 then x::zbC c a (y::b) else if c y x<0 then y::zbC c (x::a) b else x::zbC c a b
termination_by a b=>a.length+b.length
theorem zdI {α:Type} (c:α→α→Int) (a:List α):zbC c a []=a:=by cases a<;>simp [zbC]
theorem zdG {α:Type} (c:α→α→Int) (a:List α):zbC c [] a=a:=by simp [zbC]
theorem zos {α:Type} {c:α→α→Int} (h:OrdAll c):∀(n:Nat) (a b:List α),a.length+b.length≤n→zcg c a→zcg c b→zcg c (zbC c a b)∧∀z,z∈zbC c a b↔z∈a∨z∈b:=by
 intro n
 induction n with
 | zero =>
   intro a b hn _ _
   have h1:a=[]:=yAJ.1 (by omega)
   have h2:b=[]:=yAJ.1 (by omega)
   subst h1;subst h2
   exact ⟨by rw [zdI];exact List.Pairwise.nil,fun z=>by rw [zdI];simp⟩
 | succ n ih =>
   intro a b hn ha hb
   match a,b with
   | [],b=>exact ⟨by rw [zdG];exact hb,fun z=>by rw [zdG];simp⟩
   | x::a,[]=>exact ⟨by rw [zdI];exact ha,fun z=>by rw [zdI];simp⟩
   | x::a,y::b =>
     obtain ⟨a1,a2⟩:=yAE.1 ha
     obtain ⟨b1,b2⟩:=yAE.1 hb
     simp only [yAt] at hn
     rw [zbC]
     split
     ·rename_i h1
      obtain ⟨i1,i2⟩:=ih a (y::b) (by simp only [yAt];omega) a2 hb
      refine ⟨yAE.2 ⟨fun z hz=> ?_,i1⟩,fun z=> ?_⟩
      ·rcases (i2 z).1 hz with hz | hz
       ·exact a1 z hz
       ·rcases yAj.1 hz with rfl | hz
        ·exact h1
        ·exact h.trans _ _ _ h1 (b1 z hz)
      ·simp only [yAj,i2]
       exact or_assoc.symm
     ·rename_i h1
      split
      ·rename_i h2
       obtain ⟨i1,i2⟩:=ih (x::a) b (by simp only [yAt];omega) ha b2
       refine ⟨yAE.2 ⟨fun z hz=> ?_,i1⟩,fun z=> ?_⟩
       ·rcases (i2 z).1 hz with hz | hz
        ·rcases yAj.1 hz with rfl | hz
         ·exact h2
         ·exact h.trans _ _ _ h2 (a1 z hz)
        ·exact b1 z hz
       ·simp only [yAj,i2]
        exact or_left_comm
      ·rename_i h2
       have:=h.eq _ _ h1 h2
       subst this
       obtain ⟨i1,i2⟩:=ih a b (by omega) a2 b2
       refine ⟨yAE.2 ⟨fun z hz=>((i2 z).1 hz).elim (a1 z) (b1 z),i1⟩,fun z=> ?_⟩
       simp only [yAj,i2]
       exact ⟨fun h=>h.elim (fun h=> .inl (.inl h)) fun h=>h.elim (fun h=> .inl (.inr h)) fun h=> .inr (.inr h),fun h=>h.elim (fun h=>h.elim .inl fun h=> .inr (.inl h)) fun h=>h.elim .inl fun h=> .inr (.inr h)⟩
theorem zlc {α:Type} {c:α→α→Int} (h:OrdAll c) {a b:List α} (ha:zcg c a) (hb:zcg c b):zbC c a b=zqR c (a++b):=by
 obtain ⟨h1,h2⟩:=zos h _ a b (yAi _) ha hb
 exact zrQ h h1 fun z=>by rw [h2,yAv]
def zlO {α:Type} (c:α→α→Int):List α→List α→Int
 | x::a,y::b=>if c x y=0 then zlO c a b else c x y
 | [],_=>0
 | _::_,[]=>0
def cR {α:Type} (c:α→α→Int) (a b:List α):Int:=if a.length<b.length then -1 else if b.length<a.length then 1 else zlO c a b
theorem zjZ {α:Type} {c:α→α→Int} (h0:∀x y,c x y=0↔x=y):∀{a b:List α},a.length=b.length→(zlO c a b=0↔a=b)
 | [],[],_=>by simp [zlO]
 | [],_::_,hl=>by simp at hl
 | _::_,[],hl=>by simp at hl
 | x::a,y::b,hl=>by
   simp only [zlO]
   by_cases h1:c x y=0
   ·rw [if_pos h1,zjZ h0 (by simpa using hl),(h0 _ _).1 h1];simp
   ·rw [if_neg h1]
    exact ⟨fun h2=>absurd h2 h1,fun h2=>by cases h2;exact absurd ((h0 x x).2 rfl) h1⟩
section
variable {α:Type} {c:α→α→Int} (h:OrdAll c) (h0:∀x y,c x y=0↔x=y)
include h h0
theorem zli:∀{a b d:List α},a.length=b.length→b.length=d.length→zlO c a b<0→zlO c b d<0→zlO c a d<0
 | [],[],[],_,_,h1,_=>by simp [zlO] at h1
 | x::a,y::b,z::d,l1,l2,h1,h2=>by
   simp only [zlO] at h1 h2 ⊢
   by_cases e1:c x y=0
   ·have:=(h0 _ _).1 e1;subst this
    rw [if_pos e1] at h1
    by_cases e2:c x z=0
    ·rw [if_pos e2] at h2 ⊢
     exact zli (by simpa using l1) (by simpa using l2) h1 h2
    ·rw [if_neg e2] at h2 ⊢;exact h2
   ·rw [if_neg e1] at h1
    by_cases e2:c y z=0
    ·have:=(h0 _ _).1 e2;subst this
     rw [if_neg e1];exact h1
    ·rw [if_neg e2] at h2
     have h3:=h.trans _ _ _ h1 h2
     rw [if_neg (by omega)];exact h3
theorem zrZ:∀{a b:List α},a.length=b.length→¬zlO c a b<0→¬zlO c b a<0→a=b
 | [],[],_,_,_=>rfl
 | x::a,y::b,hl,h1,h2=>by
   simp only [zlO] at h1 h2
   by_cases e1:c x y=0
   ·have:=(h0 _ _).1 e1;subst this
    rw [if_pos e1] at h1 h2
    rw [zrZ (by simpa using hl) h1 h2]
   ·rw [if_neg e1] at h1
    have e2:¬c y x=0:=fun hc=>e1 ((h0 _ _).2 ((h0 _ _).1 hc).symm)
    rw [if_neg e2] at h2
    exact absurd ((h0 _ _).2 (h.eq _ _ h1 h2)) e1
theorem zgZ:OrdAll (cR c) where
 irr:=fun a=>by
  unfold cR
  rw [if_neg (by omega),if_neg (by omega),(zjZ h0 rfl).2 rfl];omega
 trans:=fun a b d h1 h2=>by
  unfold cR at h1 h2 ⊢
  by_cases l1:a.length<b.length
  ·by_cases l2:b.length<d.length
   ·rw [if_pos (by omega)];omega
   ·rw [if_neg l2] at h2
    by_cases l3:d.length<b.length
    ·rw [if_pos l3] at h2;omega
    ·rw [if_pos (by omega)];omega
  ·rw [if_neg l1] at h1
   by_cases l3:b.length<a.length
   ·rw [if_pos l3] at h1;omega
   ·rw [if_neg l3] at h1
    by_cases l2:b.length<d.length
    ·rw [if_pos (by omega)];omega
    ·rw [if_neg l2] at h2
     by_cases l4:d.length<b.length
     ·rw [if_pos l4] at h2;omega
     ·rw [if_neg l4] at h2
      rw [if_neg (by omega),if_neg (by omega)]
      exact zli h h0 (by omega) (by omega) h1 h2
 eq:=fun a b h1 h2=>by
  unfold cR at h1 h2
  by_cases l1:a.length<b.length
  ·rw [if_pos l1] at h1;omega
  ·rw [if_neg l1] at h1
   by_cases l3:b.length<a.length
   ·rw [if_pos l3] at h2;omega
   ·rw [if_neg l3] at h1 h2
    rw [if_neg l1] at h2
    exact zrZ h h0 (by omega) h1 h2
end
theorem ztd {α:Type} {c:α→α→Int} (h0:∀x y,c x y=0↔x=y) (a b:List α):cR c a b=0↔a=b:=by
 unfold cR
 by_cases l1:a.length<b.length
 ·rw [if_pos l1];exact ⟨fun h=>by omega,fun h=>by subst h;omega⟩
 ·rw [if_neg l1]
  by_cases l3:b.length<a.length
  ·rw [if_pos l3];exact ⟨fun h=>by omega,fun h=>by subst h;omega⟩
  ·rw [if_neg l3];exact zjZ h0 (by omega)
theorem ztZ {α:Type} {c:α→α→Int} {a b:List α} (h:cR c a b<0):a.length≤b.length:=by
 unfold cR at h
 by_cases l1:a.length<b.length
 ·omega
 ·rw [if_neg l1] at h
  by_cases l3:b.length<a.length
  ·rw [if_pos l3] at h;omega
  ·omega
def zdR {α:Type} [BEq α] (a b:List α):Bool:=a.all fun x=>b.any fun y=>y==x
def zbs {α:Type} [BEq α] (c:α→α→Int) (l:List (List α)):List (List α):=l.filter fun w=> !(l.any fun v=>decide (cR c v w<0)&&zdR v w)
theorem zet {α:Type} [BEq α] {c:α→α→Int} {l:List (List α)} {w:List α} (hw:w∈zbs c l):w∈l:=(yBr.1 hw).1
section
variable {α:Type} [BEq α] [LawfulBEq α]
theorem zeH {a b:List α}:zdR a b=true↔∀x∈a,x∈b:=by
 unfold zdR
 rw [yAQ]
 refine forall_congr' fun x=>forall_congr' fun hx=> ?_
 rw [yA5]
 exact ⟨fun ⟨y,h1,h2⟩=>(eq_of_beq h2)▸h1,fun h=>⟨x,h,beq_self_eq_true x⟩⟩
theorem zkC (a:List α):zdR a a=true:=zeH.2 fun _ h=>h
theorem ziD {a b d:List α} (h1:zdR a b=true) (h2:zdR b d=true):zdR a d=true :=
 zeH.2 fun x hx=>zeH.1 h2 x (zeH.1 h1 x hx)
variable {c:α→α→Int} (h:OrdAll c) (h0:∀x y,c x y=0↔x=y)
include h in
theorem zkB {v w:List α} (hv:zcg c v) (hw:zcg c w) (hs:zdR v w=true) (hne:v≠w):v.length<w.length∧cR c v w<0:=by
 have h1:=zmN h hv hw (zeH.1 hs)
 have h2:=h1.length_le
 have h3:v.length≠w.length:=fun he=>hne (h1.eq_of_length he)
 refine ⟨by omega,?_⟩
 unfold cR
 rw [if_pos (by omega)];omega
include h h0
theorem zmm {l:List (List α)} (hs:∀w∈l,zcg c w):∀(n:Nat) (w:List α),w.length≤n→w∈l→∃v∈zbs c l,zdR v w=true:=by
 intro n
 induction n with
 | zero =>
   intro w hn hw
   refine ⟨w,yBr.2 ⟨hw,?_⟩,zkC w⟩
   cases ha:l.any fun v=>decide (cR c v w<0)&&zdR v w with
   | false=>rfl
   | true =>
     exfalso
     obtain ⟨v,hv,h1⟩:=yA5.1 ha
     simp only [yAd,decide_eq_true_eq] at h1
     have hne:v≠w:=fun he=>by subst he;exact (zgZ h h0).irr _ h1.1
     have:=zkB h (hs v hv) (hs w hw) h1.2 hne
     omega
 | succ n ih =>
   intro w hn hw
   cases ha:l.any fun v=>decide (cR c v w<0)&&zdR v w with
   | false=>exact ⟨w,yBr.2 ⟨hw,by rw [ha];rfl⟩,zkC w⟩
   | true =>
     obtain ⟨v,hv,h1⟩:=yA5.1 ha
     simp only [yAd,decide_eq_true_eq] at h1
     have hne:v≠w:=fun he=>by subst he;exact (zgZ h h0).irr _ h1.1
     have h2:=zkB h (hs v hv) (hs w hw) h1.2 hne
     obtain ⟨v',h3,h4⟩:=ih v (by omega) hv
     exact ⟨v',h3,ziD h4 h1.2⟩
theorem zov {l:List (List α)} (hl:zcg (cR c) l) (hs:∀w∈l,zcg c w):l.foldl (fun out w=>if out.any (fun v=>zdR v w)=true then out else out++[w]) []=zbs c l:=by
 have key:∀(r p:List (List α)),l=p++r→r.foldl (fun out w=>if out.any (fun v=>zdR v w)=true then out else out++[w]) (p.filter fun w=> !(l.any fun v=>decide (cR c v w<0)&&zdR v w))=zbs c l:=by
  intro r
  induction r with
  | nil=>intro p hp;rw [yAO] at hp;subst hp;rfl
  | cons w r ih =>
    intro p hp
    have hw:w∈l:=by rw [hp];simp
    rw [yAW]
    have hiff:(p.filter fun w=> !(l.any fun v=>decide (cR c v w<0)&&zdR v w)).any (fun v=>zdR v w)=(l.any fun v=>decide (cR c v w<0)&&zdR v w):=by
     rw [yCb,yA5,yA5]
     constructor
     ·rintro ⟨v,h1,h2⟩
      have hv:=(yBr.1 h1).1
      refine ⟨v,by rw [hp];simp [hv],?_⟩
      rw [h2,yB6]
      rw [hp] at hl
      exact decide_eq_true ((yAX.1 hl).2.2 v hv w (by simp))
     ·rintro ⟨v,h1,h2⟩
      simp only [yAd,decide_eq_true_eq] at h2
      have hne:v≠w:=fun he=>by subst he;exact (zgZ h h0).irr _ h2.1
      have h3:=zkB h (hs v h1) (hs w hw) h2.2 hne
      obtain ⟨v',h4,h5⟩:=zmm h h0 hs _ v (yAi _) h1
      have h6:=(zmN h (hs v' (zet h4)) (hs v h1) (zeH.1 h5)).length_le
      have h7:cR c v' w<0:=by unfold cR;rw [if_pos (by omega)];omega
      have h8:v'∈p:=zo5 (zgZ h h0) (hp▸hl) (hp▸zet h4) h7
      exact ⟨v',yBr.2 ⟨h8,(yBr.1 h4).2⟩,ziD h5 h2.2⟩
    rw [hiff]
    have:=ih (p++[w]) (by rw [hp];simp)
    rw [List.filter_append] at this
    cases hb:(l.any fun v=>decide (cR c v w<0)&&zdR v w) with
    | true =>
      rw [if_pos rfl]
      simpa [hb] using this
    | false =>
      rw [if_neg (by simp)]
      simpa [hb] using this
 exact key l [] rfl
theorem zml {l:List (List α)} (hl:zcg (cR c) l) (hs:∀w∈l,zcg c w) {i:Nat} (hi:i<l.length) :
  (List.range l.length).any (fun k=>decide (k≠i)&&zdR (l[k]?.getD []) l[i])=l.any fun v=>decide (cR c v l[i]<0)&&zdR v l[i]:=by
 rw [yCb,yA5,yA5]
 constructor
 ·rintro ⟨k,h1,h2⟩
  have hk:k<l.length:=by simpa using h1
  simp only [yAd,decide_eq_true_eq] at h2
  rw [yAe hk] at h2
  have h3:zdR l[k] l[i]=true:=h2.2
  refine ⟨l[k],yAl hk,?_⟩
  rw [h3,yB6]
  have hne:l[k]≠l[i]:=fun he=>by
   have asc:=yAH.1 hl
   rcases Nat.lt_or_gt_of_ne h2.1 with h4 | h4
   ·have:=asc k i hk hi h4;rw [he] at this;exact (zgZ h h0).irr _ this
   ·have:=asc i k hi hk h4;rw [he] at this;exact (zgZ h h0).irr _ this
  exact decide_eq_true (zkB h (hs _ (yAl hk)) (hs _ (yAl hi)) h3 hne).2
 ·rintro ⟨v,h1,h2⟩
  obtain ⟨k,hk,rfl⟩:=yBs h1
  simp only [yAd,decide_eq_true_eq] at h2
  refine ⟨k,by simpa using hk,?_⟩
  simp only [yAd,decide_eq_true_eq]
  refine ⟨fun he=> ?_,by rw [yAe hk];exact h2.2⟩
  subst he
  exact (zgZ h h0).irr _ h2.1
end
end Pe
namespace Pe
open Go
theorem zq7 {α β γ:Type} (x:Option α) (f:α→Option β) (g:β→Option γ):ob (ob x f) g=ob x fun a=>ob (f a) g:=by cases x<;>rfl
theorem zjS {α R:Type} {f:Int×Unit→Option ((Int×Unit)⊕(Unit⊕R))} (l:List α) (p:α→Bool) (no:R)
  (h:∀k (hk:k<l.length),f ((k:Int),())=if p l[k]=true then some (.inl (((k+1:Nat):Int),())) else some (.inr (.inr no)))
  (he:f ((l.length:Int),())=some (.inr (.inl ()))):zan f ((0:Int),())=some (if l.all p=true then .inl () else .inr no):=by
 rw [zaO l (fun x=> !p x) (fun _=> .inr no) (.inl ()) (fun k hk=>by rw [h k hk];cases p l[k]<;>rfl) he]
 cases hf:l.findIdx? (fun x=> !p x) with
 | some k =>
   obtain ⟨h1,h2,_⟩:=yAZ.1 hf
   have:¬l.all p=true:=fun hc=>by
    have:=yAQ.1 hc l[k] (yAl h1)
    simp [this] at h2
   rw [if_neg this]
 | none =>
   rw [yBy] at hf
   have:l.all p=true:=yAQ.2 fun x hx=>by have:=hf x hx;simpa using this
   rw [if_pos this]
noncomputable def zke {α:Type} (z:α) (g:α→α→Option (Bool×Unit)) (s:List α):Option ((List α×Unit)⊕Unit):=(br (decide ((len s)<2)) (some (.inl (s,()))) (zaz (σ:=List α×Unit) (R:=_) (zan (σ:=List α×Int×Unit) (R:=_) (fun (t1:List α×Int×Unit)=>(br (decide (t1.2.1<(len t1.1))) (zaz (σ:=List α×Int×Unit) (R:=_) (ob (zeb t1.1 t1.2.1) fun j2=>(ob (zez t1.1 j2) fun y3=>(ob (zeb t1.1 (IntKind.i64.wrap (t1.2.1 - 1))) fun j4=>(ob (zez t1.1 j4) fun y5=>(ob (α:=Bool×Unit) (g y3 y5) fun (r6:Bool×Unit)=>(br r6.1 (ob (zge t1.1 t1.2.1) fun i7=>(zaz (σ:=List α×Int×Unit) (R:=_) (zan (σ:=List α×Int×Int×Int×Unit) (R:=_) (fun (t8:List α×Int×Int×Int×Unit)=>(br (decide (t8.2.2.1<(len (List.drop (Int.toNat t8.2.2.2.1) t8.1)))) (ob (zeb (List.drop (Int.toNat t8.2.2.2.1) t8.1) t8.2.2.1) fun k9=>(ob (zez t8.1 ((Int.toNat t8.2.2.2.1)+k9)) fun y10=>(ob (zeb (List.drop (Int.toNat t8.2.2.2.1) t8.1) (IntKind.i64.wrap (t8.2.2.1 - 1))) fun k11=>(ob (zez t8.1 ((Int.toNat t8.2.2.2.1)+k11)) fun y12=>(ob (α:=Bool×Unit) (g y10 y12) fun (r13:Bool×Unit)=>(br (!r13.1) (ob (zeb (List.drop (Int.toNat t8.2.2.2.1) t8.1) t8.2.2.1) fun k14=>(ob (zez t8.1 ((Int.toNat t8.2.2.2.1)+k14)) fun y15=>(ob (zeb t8.1 t8.2.1) fun j16=>(ob (zez t8.1 j16) fun y17=>(some (.inl ((t8.1.set j16 y15),(IntKind.i64.wrap (t8.2.1+1)),(IntKind.i64.wrap (t8.2.2.1+1)),(((Int.toNat t8.2.2.2.1):Nat):Int),()))))))) (some (.inl (t8.1,t8.2.1,(IntKind.i64.wrap (t8.2.2.1+1)),(((Int.toNat t8.2.2.2.1):Nat):Int),()))))))))) (some (.inr (.inl (t8.1,t8.2.1,())))))) (t1.1,t1.2.1,1,((i7:Nat):Int),())) fun (t18:List α×Int×Unit)=>(ob (zge t18.1 t18.2.1) fun i19=>(bif (Nat.ble i19 (List.length t18.1)) then (ob (za8 ((List.take i19 t18.1)++(List.replicate ((List.length t18.1) - i19) z)) 0 t18.2.1) fun s20=>(some (.inr (.inr (.inr (.inl (s20,()))))))) else none)))) (some (.inl (t1.1,t1.2.1,()))))))))) fun (t21:List α×Int×Unit)=>(some (.inl (t21.1,(IntKind.i64.wrap (t21.2.1+1)),())))) (some (.inr (.inl (t1.1,())))))) (s,1,())) fun (t22:List α×Unit)=>(some (.inl (t22.1,())))))
theorem zmx {α:Type} (z:α) (g:α→α→Option (Bool×Unit)) (s:List α):zke z g s=zeS (R:=Unit) z (fun a b=>ob (g a b) fun r=>some r.1) s:=by
 unfold zeS zrW inB zke
 simp only [zq7,zaa]
end Pe
end
section
/- Ways of expressions in plain: what is specified, and what permits what. Over no program's models but for catalogues. -/
set_option maxRecDepth 100000
namespace Pe.Tryz
open Go Go.Proofs Pe LicSpec
theorem zdx (x y:List UInt8):cS x y=0↔x=y:=by
 constructor
 ·intro h
  refine zgX.eq x y (by omega) fun h1=> ?_
  rw [zgY] at h1
  unfold cS at h
  by_cases h2:x<y
  ·rw [if_pos h2] at h;omega
  ·rw [if_neg h2,if_pos h1] at h;omega
 ·rintro rfl
  unfold cS
  rw [if_neg (yBd x),if_neg (yBd x)]
def cU (a b:Gt.Use):Int:=if cS a.name b.name=0 then cS a.with_ b.with_ else cS a.name b.name
theorem zik (a b:Gt.Use):cU a b=0↔a=b:=by
 unfold cU
 by_cases h:cS a.name b.name=0
 ·rw [if_pos h,zdx]
  have:=(zdx _ _).1 h
  constructor
  ·intro h2
   cases a;cases b
   simp only at this h2
   subst this;subst h2;rfl
  ·rintro rfl;rfl
 ·rw [if_neg h]
  exact ⟨fun h2=>absurd h2 h,fun h2=>by subst h2;exact absurd ((zdx _ _).2 rfl) h⟩
theorem zeC:OrdAll cU where
 irr:=fun a=>by rw [(zik a a).2 rfl];omega
 trans:=fun a b d h1 h2=>by
  unfold cU at h1 h2 ⊢
  by_cases e1:cS a.name b.name=0
  ·rw [if_pos e1] at h1
   rw [(zdx _ _).1 e1]
   by_cases e2:cS b.name d.name=0
   ·rw [if_pos e2] at h2 ⊢;exact zgX.trans _ _ _ h1 h2
   ·rw [if_neg e2] at h2 ⊢;exact h2
  ·rw [if_neg e1] at h1
   by_cases e2:cS b.name d.name=0
   ·rw [←(zdx _ _).1 e2,if_neg e1];exact h1
   ·rw [if_neg e2] at h2
    have h3:=zgX.trans _ _ _ h1 h2
    rw [if_neg (by omega)];exact h3
 eq:=fun a b h1 h2=>by
  unfold cU at h1 h2
  by_cases e1:cS a.name b.name=0
  ·have e2:=(zdx _ _).1 e1
   have e3:cS b.name a.name=0:=(zdx _ _).2 e2.symm
   rw [if_pos e1] at h1
   rw [if_pos e3] at h2
   have:=zgX.eq _ _ h1 h2
   cases a;cases b
   simp only at e2 this
   subst e2;subst this;rfl
  ·have e3:¬cS b.name a.name=0:=fun hc=>e1 ((zdx _ _).2 ((zdx _ _).1 hc).symm)
   rw [if_neg e1] at h1
   rw [if_neg e3] at h2
   exact absurd ((zdx _ _).2 (zgX.eq _ _ h1 h2)) e1
instance:BEq Gt.Use:=⟨fun a b=>a.name==b.name&&a.with_==b.with_⟩
theorem zoW (a b:Gt.Use):(a==b)=(a.name==b.name&&a.with_==b.with_):=rfl
instance:LawfulBEq Gt.Use where
 eq_of_beq:=fun {a b} h=>by
  rw [zoW,yAd] at h
  cases a;cases b
  have h1:=eq_of_beq h.1
  have h2:=eq_of_beq h.2
  simp only at h1 h2
  subst h1;subst h2;rfl
 rfl:=fun {a}=>by rw [zoW];simp
abbrev Way:=List Gt.Use
theorem zbY:OrdAll (cR cU):=zgZ zeC zik
theorem zp8 (a b:Way):cR cU a b=0↔a=b:=ztd zik a b
def zoe (l:Way):Way:=zqR cU l
def zb0 (l:List Way):List Way:=zqR (cR cU) l
def big (l:List Way):Bool:=decide (300<l.length)||l.any fun w=>decide (40<w.length)
def zg6 (l:List Way):Option (List Way):=if big (zb0 l)=true then none else some (zb0 l)
def zbN (a b:List Way):List Way:=a.flatMap fun v=>b.map fun w=>zoe (v++w)
mutual
def zdh (c:Cat):Ex→Option (List Way)
 | .mk kind name later wth kids =>
   if kind=1 then (zg6 ((zkk c (.mk kind name later wth kids)).map fun u=>[u])).map (zbs cU)
   else if kind=3 then (zbo c kids).bind fun l=>(zg6 l).map (zbs cU)
   else (zaT c kids [[]]).bind fun l=>(zg6 l).map (zbs cU)
def zbo (c:Cat):List Ex→Option (List Way)
 | []=>some []
 | k::r=>(zdh c k).bind fun m=>(zbo c r).map fun l=>m++l
def zaT (c:Cat):List Ex→List Way→Option (List Way)
 | [],l=>some l
 | k::r,l=>(zdh c k).bind fun m=>(zg6 (zbN l m)).bind fun l'=>zaT c r l'
end
theorem zmE (c:Cat) (e:Ex):zdh c e=if e.kind=1 then (zg6 ((zkk c e).map fun u=>[u])).map (zbs cU) else if e.kind=3 then (zbo c e.kids).bind fun l=>(zg6 l).map (zbs cU) else (zaT c e.kids [[]]).bind fun l=>(zg6 l).map (zbs cU):=by
 cases e;simp only [zdh]
structure GoodW (l:List Way):Prop where
 str:zcg (cR cU) l
 each:∀w∈l,zcg cU w
 num:l.length≤300
 len:∀w∈l,w.length≤40
theorem zqg {l:List Way} (h:¬big l=true):l.length≤300∧∀w∈l,w.length≤40:=by
 have h1:big l=false:=by simpa using h
 unfold big at h1
 rw [yBc] at h1
 refine ⟨by have:=of_decide_eq_false h1.1;omega,fun w hw=> ?_⟩
 have:=yBB.1 h1.2 w hw
 have:=of_decide_eq_false (by simpa using this:decide (40<w.length)=false)
 omega
theorem zcd {l s:List Way} (hl:∀w∈l,zcg cU w) (h:zg6 l=some s):GoodW s∧∀w,w∈s↔w∈l:=by
 unfold zg6 at h
 split at h
 ·cases h
 ·rename_i hb
  cases h
  obtain ⟨b1,b2⟩:=zqg hb
  have hm:=zfR zbY l
  exact ⟨⟨zfA zbY l,fun w hw=>hl w ((hm w).1 hw),b1,b2⟩,hm⟩
theorem znN {l:List Way} (h:GoodW l):zg6 l=some l:=by
 have h1:zb0 l=l:=zhz zbY h.str
 unfold zg6
 rw [h1,if_neg]
 unfold big
 have h2:decide (300<l.length)=false:=decide_eq_false (by have:=h.num;omega)
 have h3:(l.any fun w=>decide (40<w.length))=false:=yBB.2 fun w hw=>by have:=h.len w hw;simp;omega
 rw [h2,h3];simp
theorem zgw {l:List Way} (h:GoodW l):GoodW (zbs cU l) :=
 ⟨h.str.sublist List.filter_sublist,fun w hw=>h.each w (zet hw),yAk (yBZ _ _) h.num,fun w hw=>h.len w (zet hw)⟩
theorem zfK {a b:List Way}:∀w∈zbN a b,zcg cU w:=by
 intro w hw
 obtain ⟨v,_,h1⟩:=List.mem_flatMap.1 hw
 obtain ⟨x,_,rfl⟩:=yA1.1 h1
 exact zfA zeC _
def perm (W:List Way) (x:Way):Bool:=W.any fun w=>zdR w x
mutual
theorem zbP (c:Cat):∀(e:Ex) (W:List Way),zdh c e=some W→GoodW W
 | .mk kind name later wth kids,W,h=>by
   simp only [zdh] at h
   split at h
   ·obtain ⟨s,h1,rfl⟩:=yAM.1 h
    refine zgw (zcd (fun w hw=> ?_) h1).1
    obtain ⟨u,_,rfl⟩:=yA1.1 hw
    exact yAT _ _
   ·split at h
    ·obtain ⟨l,h1,h2⟩:=yAK.1 h
     obtain ⟨s,h3,rfl⟩:=yAM.1 h2
     exact zgw (zcd (zcZ c kids l h1) h3).1
    ·obtain ⟨l,h1,h2⟩:=yAK.1 h
     obtain ⟨s,h3,rfl⟩:=yAM.1 h2
     refine zgw (zcd (zgM c kids [[]] l (fun w hw=> ?_) h1) h3).1
     rw [yA3] at hw;subst hw;exact List.Pairwise.nil
theorem zcZ (c:Cat):∀(l:List Ex) (W:List Way),zbo c l=some W→∀w∈W,zcg cU w
 | [],W,h=>by simp only [zbo] at h;cases h;simp
 | k::r,W,h=>by
   simp only [zbo] at h
   obtain ⟨m,h1,h2⟩:=yAK.1 h
   obtain ⟨l,h3,rfl⟩:=yAM.1 h2
   intro w hw
   rcases yAv.1 hw with hw | hw
   ·exact (zbP c k m h1).each w hw
   ·exact zcZ c r l h3 w hw
theorem zgM (c:Cat):∀(l:List Ex) (a W:List Way),(∀w∈a,zcg cU w)→zaT c l a=some W→∀w∈W,zcg cU w
 | [],a,W,ha,h=>by simp only [zaT] at h;cases h;exact ha
 | k::r,a,W,ha,h=>by
   simp only [zaT] at h
   obtain ⟨m,h1,h2⟩:=yAK.1 h
   obtain ⟨l',h3,h4⟩:=yAK.1 h2
   exact zgM c r l' W (zcd zfK h3).1.each h4
end
end Pe.Tryz
end
