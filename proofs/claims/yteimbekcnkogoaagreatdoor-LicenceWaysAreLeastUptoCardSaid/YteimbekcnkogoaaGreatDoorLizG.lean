/- PROVED HERE: a part of the seat's proofs; see the text that holds the claim's theorem. -/
import Derived.Test.YteimbekcnkogoaaGreatDoorLizF
section
/- Rows of rows in order, without repeats; the least ones; two rows as one: over no program. -/
set_option linter.unusedVariables false
namespace Pe
open Go
def putC {α:Type} (c:α→α→Int) (x:α):List α→List α
 | []=>[x]
 | y::r=>if c y x<0 then y::putC c x r else if c x y<0 then x::y::r else y::r
def setC {α:Type} (c:α→α→Int) (l:List α):List α:=l.foldl (fun a x=>putC c x a) []
section
variable {α:Type} {c:α→α→Int} (h:OrdAll c)
include h
theorem mem_putC (x:α):∀(l:List α) (z:α),z∈putC c x l↔z=x∨z∈l
 | [],z=>by simp [putC]
 | y::r,z=>by
   unfold putC
   split
   ·simp only [List.mem_cons,mem_putC x r z]
    exact ⟨fun h=>h.elim (fun h=> .inr (.inl h)) fun h=>h.elim .inl fun h=> .inr (.inr h),fun h=>h.elim (fun h=> .inr (.inl h)) fun h=>h.elim .inl fun h=> .inr (.inr h)⟩
   ·rename_i h1
    split
    ·simp
    ·rename_i h2
     have:=h.eq _ _ h1 h2
     subst this
     simp
theorem str_putC (x:α):∀(l:List α),StrC c l→StrC c (putC c x l)
 | [],_=>List.pairwise_singleton _ _
 | y::r,hs=>by
   obtain ⟨h1,h2⟩:=List.pairwise_cons.1 hs
   unfold putC
   split
   ·rename_i h3
    refine List.pairwise_cons.2 ⟨fun z hz=> ?_,str_putC x r h2⟩
    rcases (mem_putC h x r z).1 hz with rfl | hz
    ·exact h3
    ·exact h1 z hz
   ·split
    ·rename_i h4
     refine List.pairwise_cons.2 ⟨fun z hz=> ?_,hs⟩
     rcases List.mem_cons.1 hz with rfl | hz
     ·exact h4
     ·exact h.trans _ _ _ h4 (h1 z hz)
    ·exact hs
theorem set_gen:∀(l a:List α),StrC c a→StrC c (l.foldl (fun a x=>putC c x a) a)∧∀z,z∈l.foldl (fun a x=>putC c x a) a↔z∈a∨z∈l
 | [],a,ha=>⟨ha,fun z=>by simp⟩
 | x::l,a,ha=>by
   obtain ⟨h1,h2⟩:=set_gen l (putC c x a) (str_putC h x a ha)
   refine ⟨h1,fun z=> ?_⟩
   rw [List.foldl_cons,h2,mem_putC h,List.mem_cons]
   exact ⟨fun h=>h.elim (fun h=>h.elim (fun h=> .inr (.inl h)) .inl) fun h=> .inr (.inr h),fun h=>h.elim (fun h=> .inl (.inr h)) fun h=>h.elim (fun h=> .inl (.inl h)) .inr⟩
theorem str_setC (l:List α):StrC c (setC c l):=(set_gen h l [] List.Pairwise.nil).1
theorem mem_setC (l:List α) (z:α):z∈setC c l↔z∈l:=by
 unfold setC;rw [(set_gen h l [] List.Pairwise.nil).2];simp
theorem merged_set {t:α→α→Bool} (ht:∀x y,t x y=true↔x=y) (l:List α):cmp? t (sortC c l) (sortC c l).length=setC c l :=
 merged_eq h ht (str_setC h l) fun x=>mem_setC h l x
theorem sub_strC {a b:List α} (ha:StrC c a) (hb:StrC c b) (hab:∀x∈a,x∈b):a.Sublist b:=by
 induction b generalizing a with
 | nil =>
   cases a with
   | nil=>exact .slnil
   | cons x r=>exact absurd (hab x (by simp)) (by simp)
 | cons y b ih =>
   obtain ⟨b1,b2⟩:=List.pairwise_cons.1 hb
   cases a with
   | nil=>exact List.nil_sublist _
   | cons x r =>
     obtain ⟨a1,a2⟩:=List.pairwise_cons.1 ha
     by_cases he:x=y
     ·subst he
      refine .cons_cons _ (ih a2 b2 fun z hz=> ?_)
      rcases List.mem_cons.1 (hab z (by simp [hz])) with rfl | hz'
      ·exact absurd (a1 _ hz) (h.irr _)
      ·exact hz'
     ·refine .cons _ (ih ha b2 fun z hz=> ?_)
      rcases List.mem_cons.1 (hab z hz) with rfl | hz'
      ·exfalso
       rcases List.mem_cons.1 hz with rfl | hz2
       ·exact he rfl
       ·have hx:x∈b:=(List.mem_cons.1 (hab x (by simp))).resolve_left he
        exact h.irr _ (h.trans _ _ _ (a1 _ hz2) (b1 _ hx))
      ·exact hz'
theorem str_split {p r:List α} {w v:α} (hs:StrC c (p++w::r)) (hv:v∈p++w::r) (hlt:c v w<0):v∈p:=by
 rcases List.mem_append.1 hv with h1 | h1
 ·exact h1
 ·exfalso
  obtain ⟨_,h2,_⟩:=List.pairwise_append.1 hs
  rcases List.mem_cons.1 h1 with rfl | h1
  ·exact h.irr _ hlt
  ·exact h.irr _ (h.trans _ _ _ hlt ((List.pairwise_cons.1 h2).1 _ h1))
end
def lexC {α:Type} (c:α→α→Int):List α→List α→Int
 | x::a,y::b=>if c x y=0 then lexC c a b else c x y
 | [],_=>0
 | _::_,[]=>0
def cR {α:Type} (c:α→α→Int) (a b:List α):Int:=if a.length<b.length then -1 else if b.length<a.length then 1 else lexC c a b
theorem lex_zero {α:Type} {c:α→α→Int} (h0:∀x y,c x y=0↔x=y):∀{a b:List α},a.length=b.length→(lexC c a b=0↔a=b)
 | [],[],_=>by simp [lexC]
 | [],_::_,hl=>by simp at hl
 | _::_,[],hl=>by simp at hl
 | x::a,y::b,hl=>by
   simp only [lexC]
   by_cases h1:c x y=0
   ·rw [if_pos h1,lex_zero h0 (by simpa using hl),(h0 _ _).1 h1];simp
   ·rw [if_neg h1]
    exact ⟨fun h2=>absurd h2 h1,fun h2=>by cases h2;exact absurd ((h0 x x).2 rfl) h1⟩
section
variable {α:Type} {c:α→α→Int} (h:OrdAll c) (h0:∀x y,c x y=0↔x=y)
include h h0
theorem lex_trans:∀{a b d:List α},a.length=b.length→b.length=d.length→lexC c a b<0→lexC c b d<0→lexC c a d<0
 | [],[],[],_,_,h1,_=>by simp [lexC] at h1
 | x::a,y::b,z::d,l1,l2,h1,h2=>by
   simp only [lexC] at h1 h2 ⊢
   by_cases e1:c x y=0
   ·have:=(h0 _ _).1 e1;subst this
    rw [if_pos e1] at h1
    by_cases e2:c x z=0
    ·rw [if_pos e2] at h2 ⊢
     exact lex_trans (by simpa using l1) (by simpa using l2) h1 h2
    ·rw [if_neg e2] at h2 ⊢;exact h2
   ·rw [if_neg e1] at h1
    by_cases e2:c y z=0
    ·have:=(h0 _ _).1 e2;subst this
     rw [if_neg e1];exact h1
    ·rw [if_neg e2] at h2
     have h3:=h.trans _ _ _ h1 h2
     rw [if_neg (by omega)];exact h3
theorem lex_eq:∀{a b:List α},a.length=b.length→¬lexC c a b<0→¬lexC c b a<0→a=b
 | [],[],_,_,_=>rfl
 | x::a,y::b,hl,h1,h2=>by
   simp only [lexC] at h1 h2
   by_cases e1:c x y=0
   ·have:=(h0 _ _).1 e1;subst this
    rw [if_pos e1] at h1 h2
    rw [lex_eq (by simpa using hl) h1 h2]
   ·rw [if_neg e1] at h1
    have e2:¬c y x=0:=fun hc=>e1 ((h0 _ _).2 ((h0 _ _).1 hc).symm)
    rw [if_neg e2] at h2
    exact absurd ((h0 _ _).2 (h.eq _ _ h1 h2)) e1
theorem cR_ord:OrdAll (cR c) where
 irr:=fun a=>by
  unfold cR
  rw [if_neg (by omega),if_neg (by omega),(lex_zero h0 rfl).2 rfl];omega
 trans:=fun a b d h1 h2=>by
  unfold cR at h1 h2 ⊢
  by_cases l1:a.length<b.length
  ·by_cases l2:b.length<d.length
   ·rw [if_pos (by omega)];omega
   ·rw [if_neg l2] at h2
    by_cases l3:d.length<b.length
    ·rw [if_pos l3] at h2;omega
    ·rw [if_pos (by omega)];omega
  ·rw [if_neg l1] at h1
   by_cases l3:b.length<a.length
   ·rw [if_pos l3] at h1;omega
   ·rw [if_neg l3] at h1
    by_cases l2:b.length<d.length
    ·rw [if_pos (by omega)];omega
    ·rw [if_neg l2] at h2
     by_cases l4:d.length<b.length
     ·rw [if_pos l4] at h2;omega
     ·rw [if_neg l4] at h2
      rw [if_neg (by omega),if_neg (by omega)]
      exact lex_trans h h0 (by omega) (by omega) h1 h2
 eq:=fun a b h1 h2=>by
  unfold cR at h1 h2
  by_cases l1:a.length<b.length
  ·rw [if_pos l1] at h1;omega
  ·rw [if_neg l1] at h1
   by_cases l3:b.length<a.length
   ·rw [if_pos l3] at h2;omega
   ·rw [if_neg l3] at h1 h2
    rw [if_neg l1] at h2
    exact lex_eq h h0 (by omega) h1 h2
end
theorem cR_len {α:Type} {c:α→α→Int} {a b:List α} (h:cR c a b<0):a.length≤b.length:=by
 unfold cR at h
 by_cases l1:a.length<b.length
 ·omega
 ·rw [if_neg l1] at h
  by_cases l3:b.length<a.length
  ·rw [if_pos l3] at h;omega
  ·omega
def subL {α:Type} [BEq α] (a b:List α):Bool:=a.all fun x=>b.any fun y=>y==x
def leastC {α:Type} [BEq α] (c:α→α→Int) (l:List (List α)):List (List α):=l.filter fun w=> !(l.any fun v=>decide (cR c v w<0)&&subL v w)
theorem least_mem {α:Type} [BEq α] {c:α→α→Int} {l:List (List α)} {w:List α} (hw:w∈leastC c l):w∈l:=(List.mem_filter.1 hw).1
section
variable {α:Type} [BEq α] [LawfulBEq α]
theorem subL_iff {a b:List α}:subL a b=true↔∀x∈a,x∈b:=by
 unfold subL
 rw [List.all_eq_true]
 refine forall_congr' fun x=>forall_congr' fun hx=> ?_
 rw [List.any_eq_true]
 exact ⟨fun ⟨y,h1,h2⟩=>(eq_of_beq h2)▸h1,fun h=>⟨x,h,beq_self_eq_true x⟩⟩
theorem subL_refl (a:List α):subL a a=true:=subL_iff.2 fun _ h=>h
theorem subL_trans {a b d:List α} (h1:subL a b=true) (h2:subL b d=true):subL a d=true :=
 subL_iff.2 fun x hx=>subL_iff.1 h2 x (subL_iff.1 h1 x hx)
variable {c:α→α→Int} (h:OrdAll c) (h0:∀x y,c x y=0↔x=y)
include h in
theorem sub_lt {v w:List α} (hv:StrC c v) (hw:StrC c w) (hs:subL v w=true) (hne:v≠w):v.length<w.length∧cR c v w<0:=by
 have h1:=sub_strC h hv hw (subL_iff.1 hs)
 have h2:=h1.length_le
 have h3:v.length≠w.length:=fun he=>hne (h1.eq_of_length he)
 refine ⟨by omega,?_⟩
 unfold cR
 rw [if_pos (by omega)];omega
include h h0
theorem least_below {l:List (List α)} (hs:∀w∈l,StrC c w):∀(n:Nat) (w:List α),w.length≤n→w∈l→∃v∈leastC c l,subL v w=true:=by
 intro n
 induction n with
 | zero =>
   intro w hn hw
   refine ⟨w,List.mem_filter.2 ⟨hw,?_⟩,subL_refl w⟩
   cases ha:l.any fun v=>decide (cR c v w<0)&&subL v w with
   | false=>rfl
   | true =>
     exfalso
     obtain ⟨v,hv,h1⟩:=List.any_eq_true.1 ha
     simp only [Bool.and_eq_true,decide_eq_true_eq] at h1
     have hne:v≠w:=fun he=>by subst he;exact (cR_ord h h0).irr _ h1.1
     have:=sub_lt h (hs v hv) (hs w hw) h1.2 hne
     omega
 | succ n ih =>
   intro w hn hw
   cases ha:l.any fun v=>decide (cR c v w<0)&&subL v w with
   | false=>exact ⟨w,List.mem_filter.2 ⟨hw,by rw [ha];rfl⟩,subL_refl w⟩
   | true =>
     obtain ⟨v,hv,h1⟩:=List.any_eq_true.1 ha
     simp only [Bool.and_eq_true,decide_eq_true_eq] at h1
     have hne:v≠w:=fun he=>by subst he;exact (cR_ord h h0).irr _ h1.1
     have h2:=sub_lt h (hs v hv) (hs w hw) h1.2 hne
     obtain ⟨v',h3,h4⟩:=ih v (by omega) hv
     exact ⟨v',h3,subL_trans h4 h1.2⟩
theorem least_any {l:List (List α)} (hs:∀w∈l,StrC c w) (x:List α):(leastC c l).any (fun w=>subL w x)=l.any fun w=>subL w x:=by
 rw [Bool.eq_iff_iff,List.any_eq_true,List.any_eq_true]
 constructor
 ·rintro ⟨w,h1,h2⟩
  exact ⟨w,least_mem h1,h2⟩
 ·rintro ⟨w,h1,h2⟩
  obtain ⟨v,h3,h4⟩:=least_below h h0 hs _ w (Nat.le_refl _) h1
  exact ⟨v,h3,subL_trans h4 h2⟩
theorem least_fold {l:List (List α)} (hl:StrC (cR c) l) (hs:∀w∈l,StrC c w):l.foldl (fun out w=>if out.any (fun v=>subL v w)=true then out else out++[w]) []=leastC c l:=by
 have key:∀(r p:List (List α)),l=p++r→r.foldl (fun out w=>if out.any (fun v=>subL v w)=true then out else out++[w]) (p.filter fun w=> !(l.any fun v=>decide (cR c v w<0)&&subL v w))=leastC c l:=by
  intro r
  induction r with
  | nil=>intro p hp;rw [List.append_nil] at hp;subst hp;rfl
  | cons w r ih =>
    intro p hp
    have hw:w∈l:=by rw [hp];simp
    rw [List.foldl_cons]
    have hiff:(p.filter fun w=> !(l.any fun v=>decide (cR c v w<0)&&subL v w)).any (fun v=>subL v w)=(l.any fun v=>decide (cR c v w<0)&&subL v w):=by
     rw [Bool.eq_iff_iff,List.any_eq_true,List.any_eq_true]
     constructor
     ·rintro ⟨v,h1,h2⟩
      have hv:=(List.mem_filter.1 h1).1
      refine ⟨v,by rw [hp];simp [hv],?_⟩
      rw [h2,Bool.and_true]
      rw [hp] at hl
      exact decide_eq_true ((List.pairwise_append.1 hl).2.2 v hv w (by simp))
     ·rintro ⟨v,h1,h2⟩
      simp only [Bool.and_eq_true,decide_eq_true_eq] at h2
      have hne:v≠w:=fun he=>by subst he;exact (cR_ord h h0).irr _ h2.1
      have h3:=sub_lt h (hs v h1) (hs w hw) h2.2 hne
      obtain ⟨v',h4,h5⟩:=least_below h h0 hs _ v (Nat.le_refl _) h1
      have h6:=(sub_strC h (hs v' (least_mem h4)) (hs v h1) (subL_iff.1 h5)).length_le
      have h7:cR c v' w<0:=by unfold cR;rw [if_pos (by omega)];omega
      have h8:v'∈p:=str_split (cR_ord h h0) (hp▸hl) (hp▸least_mem h4) h7
      exact ⟨v',List.mem_filter.2 ⟨h8,(List.mem_filter.1 h4).2⟩,subL_trans h5 h2.2⟩
    rw [hiff]
    have:=ih (p++[w]) (by rw [hp];simp)
    rw [List.filter_append] at this
    cases hb:(l.any fun v=>decide (cR c v w<0)&&subL v w) with
    | true =>
      rw [if_pos rfl]
      simpa [hb] using this
    | false =>
      rw [if_neg (by simp)]
      simpa [hb] using this
 exact key l [] rfl
end
end Pe
namespace Pe
open Go
theorem ob_assoc {α β γ:Type} (x:Option α) (f:α→Option β) (g:β→Option γ):ob (ob x f) g=ob x fun a=>ob (f a) g:=by cases x<;>rfl
theorem loop_all {α R:Type} {f:Int×Unit→Option ((Int×Unit)⊕(Unit⊕R))} (l:List α) (p:α→Bool) (no:R)
  (h:∀k (hk:k<l.length),f ((k:Int),())=if p l[k]=true then some (.inl (((k+1:Nat):Int),())) else some (.inr (.inr no)))
  (he:f ((l.length:Int),())=some (.inr (.inl ()))):loopM f ((0:Int),())=some (if l.all p=true then .inl () else .inr no):=by
 rw [loop_find l (fun x=> !p x) (fun _=> .inr no) (.inl ()) (fun k hk=>by rw [h k hk];cases p l[k]<;>rfl) he]
 cases hf:l.findIdx? (fun x=> !p x) with
 | some k =>
   obtain ⟨h1,h2,_⟩:=List.findIdx?_eq_some_iff_getElem.1 hf
   have:¬l.all p=true:=fun hc=>by
    have:=List.all_eq_true.1 hc l[k] (List.getElem_mem h1)
    simp [this] at h2
   rw [if_neg this]
 | none =>
   rw [List.findIdx?_eq_none_iff] at hf
   have:l.all p=true:=List.all_eq_true.2 fun x hx=>by have:=hf x hx;simpa using this
   rw [if_pos this]
noncomputable def compactG {α:Type} (z:α) (g:α→α→Option (Bool×Unit)) (s:List α):Option ((List α×Unit)⊕Unit):=(br (decide ((len s)<2)) (some (.inl (s,()))) (cutM (σ:=List α×Unit) (R:=_) (loopM (σ:=List α×Int×Unit) (R:=_) (fun (t1:List α×Int×Unit)=>(br (decide (t1.2.1<(len t1.1))) (cutM (σ:=List α×Int×Unit) (R:=_) (ob (idx? t1.1 t1.2.1) fun j2=>(ob (get? t1.1 j2) fun y3=>(ob (idx? t1.1 (IntKind.i64.wrap (t1.2.1 - 1))) fun j4=>(ob (get? t1.1 j4) fun y5=>(ob (α:=Bool×Unit) (g y3 y5) fun (r6:Bool×Unit)=>(br r6.1 (ob (tail? t1.1 t1.2.1) fun i7=>(cutM (σ:=List α×Int×Unit) (R:=_) (loopM (σ:=List α×Int×Int×Int×Unit) (R:=_) (fun (t8:List α×Int×Int×Int×Unit)=>(br (decide (t8.2.2.1<(len (List.drop (Int.toNat t8.2.2.2.1) t8.1)))) (ob (idx? (List.drop (Int.toNat t8.2.2.2.1) t8.1) t8.2.2.1) fun k9=>(ob (get? t8.1 ((Int.toNat t8.2.2.2.1)+k9)) fun y10=>(ob (idx? (List.drop (Int.toNat t8.2.2.2.1) t8.1) (IntKind.i64.wrap (t8.2.2.1 - 1))) fun k11=>(ob (get? t8.1 ((Int.toNat t8.2.2.2.1)+k11)) fun y12=>(ob (α:=Bool×Unit) (g y10 y12) fun (r13:Bool×Unit)=>(br (!r13.1) (ob (idx? (List.drop (Int.toNat t8.2.2.2.1) t8.1) t8.2.2.1) fun k14=>(ob (get? t8.1 ((Int.toNat t8.2.2.2.1)+k14)) fun y15=>(ob (idx? t8.1 t8.2.1) fun j16=>(ob (get? t8.1 j16) fun y17=>(some (.inl ((t8.1.set j16 y15),(IntKind.i64.wrap (t8.2.1+1)),(IntKind.i64.wrap (t8.2.2.1+1)),(((Int.toNat t8.2.2.2.1):Nat):Int),()))))))) (some (.inl (t8.1,t8.2.1,(IntKind.i64.wrap (t8.2.2.1+1)),(((Int.toNat t8.2.2.2.1):Nat):Int),()))))))))) (some (.inr (.inl (t8.1,t8.2.1,())))))) (t1.1,t1.2.1,1,((i7:Nat):Int),())) fun (t18:List α×Int×Unit)=>(ob (tail? t18.1 t18.2.1) fun i19=>(bif (Nat.ble i19 (List.length t18.1)) then (ob (part? ((List.take i19 t18.1)++(List.replicate ((List.length t18.1) - i19) z)) 0 t18.2.1) fun s20=>(some (.inr (.inr (.inr (.inl (s20,()))))))) else none)))) (some (.inl (t1.1,t1.2.1,()))))))))) fun (t21:List α×Int×Unit)=>(some (.inl (t21.1,(IntKind.i64.wrap (t21.2.1+1)),())))) (some (.inr (.inl (t1.1,())))))) (s,1,())) fun (t22:List α×Unit)=>(some (.inl (t22.1,())))))
theorem compactG_eq {α:Type} (z:α) (g:α→α→Option (Bool×Unit)) (s:List α):compactG z g s=compactM (R:=Unit) z (fun a b=>ob (g a b) fun r=>some r.1) s:=by
 unfold compactM outB inB compactG
 simp only [ob_assoc,ob_some_eq]
end Pe
end
section
/- Ways of expressions in plain: what is specified, and what permits what. Over no program's models but for catalogues. -/
set_option maxRecDepth 100000
namespace Pe.Tryz
open Go Go.Proofs Pe LicSpec
theorem cS_zero (x y:List UInt8):cS x y=0↔x=y:=by
 constructor
 ·intro h
  refine cS_ord.eq x y (by omega) fun h1=> ?_
  rw [cS_neg] at h1
  unfold cS at h
  by_cases h2:x<y
  ·rw [if_pos h2] at h;omega
  ·rw [if_neg h2,if_pos h1] at h;omega
 ·rintro rfl
  unfold cS
  rw [if_neg (List.lt_irrefl x),if_neg (List.lt_irrefl x)]
def cU (a b:Gt.Use):Int:=if cS a.name b.name=0 then cS a.with_ b.with_ else cS a.name b.name
theorem cU_zero (a b:Gt.Use):cU a b=0↔a=b:=by
 unfold cU
 by_cases h:cS a.name b.name=0
 ·rw [if_pos h,cS_zero]
  have:=(cS_zero _ _).1 h
  constructor
  ·intro h2
   cases a;cases b
   simp only at this h2
   subst this;subst h2;rfl
  ·rintro rfl;rfl
 ·rw [if_neg h]
  exact ⟨fun h2=>absurd h2 h,fun h2=>by subst h2;exact absurd ((cS_zero _ _).2 rfl) h⟩
theorem cU_ord:OrdAll cU where
 irr:=fun a=>by rw [(cU_zero a a).2 rfl];omega
 trans:=fun a b d h1 h2=>by
  unfold cU at h1 h2 ⊢
  by_cases e1:cS a.name b.name=0
  ·rw [if_pos e1] at h1
   rw [(cS_zero _ _).1 e1]
   by_cases e2:cS b.name d.name=0
   ·rw [if_pos e2] at h2 ⊢;exact cS_ord.trans _ _ _ h1 h2
   ·rw [if_neg e2] at h2 ⊢;exact h2
  ·rw [if_neg e1] at h1
   by_cases e2:cS b.name d.name=0
   ·rw [←(cS_zero _ _).1 e2,if_neg e1];exact h1
   ·rw [if_neg e2] at h2
    have h3:=cS_ord.trans _ _ _ h1 h2
    rw [if_neg (by omega)];exact h3
 eq:=fun a b h1 h2=>by
  unfold cU at h1 h2
  by_cases e1:cS a.name b.name=0
  ·have e2:=(cS_zero _ _).1 e1
   have e3:cS b.name a.name=0:=(cS_zero _ _).2 e2.symm
   rw [if_pos e1] at h1
   rw [if_pos e3] at h2
   have:=cS_ord.eq _ _ h1 h2
   cases a;cases b
   simp only at e2 this
   subst e2;subst this;rfl
  ·have e3:¬cS b.name a.name=0:=fun hc=>e1 ((cS_zero _ _).2 ((cS_zero _ _).1 hc).symm)
   rw [if_neg e1] at h1
   rw [if_neg e3] at h2
   exact absurd ((cS_zero _ _).2 (cS_ord.eq _ _ h1 h2)) e1
instance:BEq Gt.Use:=⟨fun a b=>a.name==b.name&&a.with_==b.with_⟩
theorem use_beq (a b:Gt.Use):(a==b)=(a.name==b.name&&a.with_==b.with_):=rfl
instance:LawfulBEq Gt.Use where
 eq_of_beq:=fun {a b} h=>by
  rw [use_beq,Bool.and_eq_true] at h
  cases a;cases b
  have h1:=eq_of_beq h.1
  have h2:=eq_of_beq h.2
  simp only at h1 h2
  subst h1;subst h2;rfl
 rfl:=fun {a}=>by rw [use_beq];simp
abbrev Way:=List Gt.Use
theorem cW_ord:OrdAll (cR cU):=cR_ord cU_ord cU_zero
def setU (l:Way):Way:=setC cU l
def setWs (l:List Way):List Way:=setC (cR cU) l
def big (l:List Way):Bool:=decide (300<l.length)||l.any fun w=>decide (40<w.length)
def bndS (l:List Way):Option (List Way):=if big (setWs l)=true then none else some (setWs l)
def prodS (a b:List Way):List Way:=a.flatMap fun v=>b.map fun w=>setU (v++w)
mutual
def waysS (c:Cat):Ex→Option (List Way)
 | .mk kind name later wth kids =>
   if kind=1 then (bndS ((canS c (.mk kind name later wth kids)).map fun u=>[u])).map (leastC cU)
   else if kind=3 then (waysOr c kids).bind fun l=>(bndS l).map (leastC cU)
   else (waysAnd c kids [[]]).bind fun l=>(bndS l).map (leastC cU)
def waysOr (c:Cat):List Ex→Option (List Way)
 | []=>some []
 | k::r=>(waysS c k).bind fun m=>(waysOr c r).map fun l=>m++l
def waysAnd (c:Cat):List Ex→List Way→Option (List Way)
 | [],l=>some l
 | k::r,l=>(waysS c k).bind fun m=>(bndS (prodS l m)).bind fun l'=>waysAnd c r l'
end
theorem waysS_eq (c:Cat) (e:Ex):waysS c e=if e.kind=1 then (bndS ((canS c e).map fun u=>[u])).map (leastC cU) else if e.kind=3 then (waysOr c e.kids).bind fun l=>(bndS l).map (leastC cU) else (waysAnd c e.kids [[]]).bind fun l=>(bndS l).map (leastC cU):=by
 cases e;simp only [waysS]
structure GoodW (l:List Way):Prop where
 str:StrC (cR cU) l
 each:∀w∈l,StrC cU w
 num:l.length≤300
 len:∀w∈l,w.length≤40
theorem big_false {l:List Way} (h:¬big l=true):l.length≤300∧∀w∈l,w.length≤40:=by
 have h1:big l=false:=by simpa using h
 unfold big at h1
 rw [Bool.or_eq_false_iff] at h1
 refine ⟨by have:=of_decide_eq_false h1.1;omega,fun w hw=> ?_⟩
 have:=List.any_eq_false.1 h1.2 w hw
 have:=of_decide_eq_false (by simpa using this:decide (40<w.length)=false)
 omega
theorem bnd_good {l s:List Way} (hl:∀w∈l,StrC cU w) (h:bndS l=some s):GoodW s∧∀w,w∈s↔w∈l:=by
 unfold bndS at h
 split at h
 ·cases h
 ·rename_i hb
  cases h
  obtain ⟨b1,b2⟩:=big_false hb
  have hm:=mem_setC cW_ord l
  exact ⟨⟨str_setC cW_ord l,fun w hw=>hl w ((hm w).1 hw),b1,b2⟩,hm⟩
theorem least_good {l:List Way} (h:GoodW l):GoodW (leastC cU l) :=
 ⟨h.str.sublist List.filter_sublist,fun w hw=>h.each w (least_mem hw),Nat.le_trans (List.length_filter_le _ _) h.num,fun w hw=>h.len w (least_mem hw)⟩
theorem prod_str {a b:List Way}:∀w∈prodS a b,StrC cU w:=by
 intro w hw
 obtain ⟨v,_,h1⟩:=List.mem_flatMap.1 hw
 obtain ⟨x,_,rfl⟩:=List.mem_map.1 h1
 exact str_setC cU_ord _
def perm (W:List Way) (x:Way):Bool:=W.any fun w=>subL w x
theorem perm_congr {a b:List Way} (h:∀w,w∈a↔w∈b) (x:Way):perm a x=perm b x:=by
 unfold perm
 rw [Bool.eq_iff_iff,List.any_eq_true,List.any_eq_true]
 exact ⟨fun ⟨w,h1,h2⟩=>⟨w,(h w).1 h1,h2⟩,fun ⟨w,h1,h2⟩=>⟨w,(h w).2 h1,h2⟩⟩
theorem perm_least {l:List Way} (h:GoodW l) (x:Way):perm (leastC cU l) x=perm l x:=least_any cU_ord cU_zero h.each x
mutual
theorem waysS_good (c:Cat):∀(e:Ex) (W:List Way),waysS c e=some W→GoodW W
 | .mk kind name later wth kids,W,h=>by
   simp only [waysS] at h
   split at h
   ·obtain ⟨s,h1,rfl⟩:=Option.map_eq_some_iff.1 h
    refine least_good (bnd_good (fun w hw=> ?_) h1).1
    obtain ⟨u,_,rfl⟩:=List.mem_map.1 hw
    exact List.pairwise_singleton _ _
   ·split at h
    ·obtain ⟨l,h1,h2⟩:=Option.bind_eq_some_iff.1 h
     obtain ⟨s,h3,rfl⟩:=Option.map_eq_some_iff.1 h2
     exact least_good (bnd_good (waysOr_good c kids l h1) h3).1
    ·obtain ⟨l,h1,h2⟩:=Option.bind_eq_some_iff.1 h
     obtain ⟨s,h3,rfl⟩:=Option.map_eq_some_iff.1 h2
     refine least_good (bnd_good (waysAnd_good c kids [[]] l (fun w hw=> ?_) h1) h3).1
     rw [List.mem_singleton] at hw;subst hw;exact List.Pairwise.nil
theorem waysOr_good (c:Cat):∀(l:List Ex) (W:List Way),waysOr c l=some W→∀w∈W,StrC cU w
 | [],W,h=>by simp only [waysOr] at h;cases h;simp
 | k::r,W,h=>by
   simp only [waysOr] at h
   obtain ⟨m,h1,h2⟩:=Option.bind_eq_some_iff.1 h
   obtain ⟨l,h3,rfl⟩:=Option.map_eq_some_iff.1 h2
   intro w hw
   rcases List.mem_append.1 hw with hw | hw
   ·exact (waysS_good c k m h1).each w hw
   ·exact waysOr_good c r l h3 w hw
theorem waysAnd_good (c:Cat):∀(l:List Ex) (a W:List Way),(∀w∈a,StrC cU w)→waysAnd c l a=some W→∀w∈W,StrC cU w
 | [],a,W,ha,h=>by simp only [waysAnd] at h;cases h;exact ha
 | k::r,a,W,ha,h=>by
   simp only [waysAnd] at h
   obtain ⟨m,h1,h2⟩:=Option.bind_eq_some_iff.1 h
   obtain ⟨l',h3,h4⟩:=Option.bind_eq_some_iff.1 h2
   exact waysAnd_good c r l' W (bnd_good prod_str h3).1.each h4
end
theorem bnd_map_perm {l:List Way} (hl:∀w∈l,StrC cU w) {W:List Way} (h:(bndS l).map (leastC cU)=some W) (x:Way):perm W x=perm l x:=by
 obtain ⟨s,h1,rfl⟩:=Option.map_eq_some_iff.1 h
 obtain ⟨g,hm⟩:=bnd_good hl h1
 rw [perm_least g,perm_congr hm]
end Pe.Tryz
end
