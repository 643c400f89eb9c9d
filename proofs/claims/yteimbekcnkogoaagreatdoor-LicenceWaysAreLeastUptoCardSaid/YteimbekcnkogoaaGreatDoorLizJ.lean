/- PROVED HERE: a part of the seat's proofs; see the text that holds the claim's theorem. -/
import Derived.Test.YteimbekcnkogoaaGreatDoorLizD
import Derived.Test.YteimbekcnkogoaaGreatDoorLizF
import Derived.Test.YteimbekcnkogoaaGreatDoorLizG
section
/- Simple expressions in plain: texts are different where expressions are; what is sorted by text and without repeats; simple expressions, and that they stay as they are. Over no program's models. -/
set_option maxRecDepth 100000
namespace LicSpec
open Go Pe
theorem txt_inj {a b:Ex} (ha:fault a=0) (hb:fault b=0) (h:txt a=txt b):a=b:=by
 obtain ⟨c,t,et,hcb⟩:=txt_head a ha
 have h0:Nx (txt a) ⟨0,0,0⟩ (txt a++[]):=nx_of' rfl (by simp) (by rw [et];simp [skipB,hcb])
 have h1:Nx (txt a) ⟨0,0,0⟩ (txt b++[]):=by rw [←h];exact h0
 obtain ⟨q,e1,_⟩:=or_rt (S:=txt a) (d:=a.lev+b.lev) (single_rt (txt a) _) ha (by omega) h0 end3.1
 obtain ⟨q',e2,_⟩:=or_rt (S:=txt a) (d:=a.lev+b.lev) (single_rt (txt a) _) hb (by omega) h1 end3.1
 rw [e1] at e2
 exact (Prod.mk.inj e2).1
theorem map_txt_inj:∀{a b:List Ex},(∀e∈a,fault e=0)→(∀e∈b,fault e=0)→a.map txt=b.map txt→a=b
 | [],[],_,_,_=>rfl
 | [],_::_,_,_,h=>by simp at h
 | _::_,[],_,_,h=>by simp at h
 | x::a,y::b,ha,hb,h=>by
   simp only [List.map_cons,List.cons.injEq] at h
   rw [txt_inj (ha x (by simp)) (hb y (by simp)) h.1,map_txt_inj (fun e he=>ha e (by simp [he])) (fun e he=>hb e (by simp [he])) h.2]
theorem faultL_of:∀{l:List Ex},(∀k∈l,fault k=0)→faultL l=0
 | [],_=>by simp [faultL]
 | k::r,h=>by
   have h1:=h k (by simp)
   simp only [faultL]
   rw [if_neg (by simp [h1])]
   exact faultL_of fun x hx=>h x (by simp [hx])
theorem fault_row {kind:Int} {l:List Ex} (hk:kind=2∨kind=3) (hl:2≤l.length) (h:∀k∈l,fault k=0):fault (.mk kind [] false [] l)=0:=by
 rw [fault_eq']
 have h1:LicSpec.one (.mk kind [] false [] l)=0:=by
  show (if kind<1∨3<kind then 7 else if kind≠1 then (if ([]:Str)≠[]∨false=true∨([]:Str)≠[]∨l.length<2 then 2 else 0) else _)=(0:Int)
  rw [if_neg (by omega),if_pos (by omega),if_neg]
  rintro (h | h | h | h)
  ·exact h rfl
  ·cases h
  ·exact h rfl
  ·omega
 rw [if_neg (by simp [h1])]
 exact faultL_of h
def pickT (l:List Ex) (s:Str):Option Ex:=l.find? fun e=>txt e==s
def texts (l:List Ex):List Str:=putAll [] (l.map txt)
def uniq (l:List Ex):List Ex:=(texts l).filterMap (pickT l)
theorem str_texts (l:List Ex):StrC cS (texts l):=str_putAll _ _ List.Pairwise.nil
theorem mem_texts {l:List Ex} {s:Str}:s∈texts l↔s∈l.map txt:=by
 unfold texts;rw [mem_putAll];simp
theorem pickT_some {l:List Ex} {s:Str} (h:s∈l.map txt):∃e,pickT l s=some e∧e∈l∧txt e=s:=by
 unfold pickT
 cases hf:l.find? (fun e=>txt e==s) with
 | some e =>
   refine ⟨e,rfl,List.mem_of_find?_eq_some hf,?_⟩
   have:=List.find?_some hf
   simpa using this
 | none =>
   exfalso
   obtain ⟨e,he,hs⟩:=List.mem_map.1 h
   have:=List.find?_eq_none.1 hf e he
   exact this (by simp [hs])
theorem pick_txt (l:List Ex):∀T:List Str,(∀s∈T,s∈l.map txt)→(T.filterMap (pickT l)).map txt=T
 | [],_=>rfl
 | s::T,h=>by
   obtain ⟨e,h1,_,h2⟩:=pickT_some (h s (by simp))
   rw [List.filterMap_cons,h1]
   simp only [List.map_cons,h2,pick_txt l T fun x hx=>h x (by simp [hx])]
theorem uniq_txt (l:List Ex):(uniq l).map txt=texts l:=pick_txt l _ fun _ hs=>mem_texts.1 hs
theorem uniq_mem {l:List Ex} {e:Ex} (h:e∈uniq l):e∈l:=by
 obtain ⟨s,_,h2⟩:=List.mem_filterMap.1 h
 exact List.mem_of_find?_eq_some h2
theorem uniq_str (l:List Ex):StrC cS ((uniq l).map txt):=by rw [uniq_txt];exact str_texts l
theorem uniq_ne {l:List Ex} (h:l≠[]):uniq l≠[]:=by
 intro h0
 have h1:=uniq_txt l
 rw [h0] at h1
 cases l with
 | nil=>exact h rfl
 | cons x r =>
   have:txt x∈texts (x::r):=mem_texts.2 (by simp)
   rw [←h1] at this
   simp at this
def inT (l:List Str) (s:Str):Bool:=l.any (· ==s)
theorem inT_iff {l:List Str} {s:Str}:inT l s=true↔s∈l:=by
 unfold inT;simp
def partsS (kind:Int) (e:Ex):List Str:=if e.kind=kind then e.kids.map txt else [txt e]
def absd (kind:Int) (k o:Ex):Bool:=(k.kind==5 - kind)&&(partsS (5 - kind) o).all (inT (partsS (5 - kind) k))
def gone (kind:Int) (u:List Ex) (k:Ex):Bool:=u.any fun o=>(txt o != txt k)&&absd kind k o
def keptS (kind:Int) (u:List Ex):List Ex:=u.filter fun k=> !gone kind u k
def finS (kind:Int) (l:List Ex):Ex:=match keptS kind (uniq l) with | [x]=>x | l=> .mk kind [] false [] l
def flatS (kind:Int) (k:Ex):List Ex:=if k.kind=kind then k.kids else [k]
mutual
def simpS:Ex→Ex
 | .mk kind name later wth kids=>if kind=1 then .mk kind name later wth kids else finS kind (simpL kind kids)
def simpL:Int→List Ex→List Ex
 | _,[]=>[]
 | kind,k::r=>flatS kind (simpS k)++simpL kind r
end
inductive Sm:Ex→Prop
 | name (e:Ex) (hk:e.kind=1) (hf:fault e=0):Sm e
 | row (kind:Int) (l:List Ex) (hk:kind=2∨kind=3) (hl:2≤l.length) (hs:∀k,k∈l→Sm k) (hn:∀k,k∈l→k.kind≠kind) (ho:StrC cS (l.map txt)) (hg:keptS kind l=l):Sm (.mk kind [] false [] l)
theorem Sm.fault {e:Ex} (h:Sm e):LicSpec.fault e=0:=by
 induction h with
 | name e hk hf=>exact hf
 | row kind l hk hl hs hn ho hg ih=>exact fault_row hk hl ih
theorem sub_str {a b:List Str} (ha:StrC cS a) (hb:StrC cS b) (h:∀x∈a,x∈b):a.Sublist b:=by
 induction b generalizing a with
 | nil =>
   cases a with
   | nil=>exact .slnil
   | cons x r=>exact absurd (h x (by simp)) (by simp)
 | cons y b ih =>
   obtain ⟨b1,b2⟩:=List.pairwise_cons.1 hb
   cases a with
   | nil=>exact List.nil_sublist _
   | cons x r =>
     obtain ⟨a1,a2⟩:=List.pairwise_cons.1 ha
     by_cases he:x=y
     ·subst he
      refine .cons_cons _ (ih a2 b2 fun z hz=> ?_)
      rcases List.mem_cons.1 (h z (by simp [hz])) with rfl | hz'
      ·exact absurd (a1 _ hz) (cS_ord.irr _)
      ·exact hz'
     ·refine .cons _ (ih ha b2 fun z hz=> ?_)
      rcases List.mem_cons.1 (h z hz) with rfl | hz'
      ·exfalso
       rcases List.mem_cons.1 hz with rfl | hz2
       ·exact he rfl
       ·have hx:x∈b:=(List.mem_cons.1 (h x (by simp))).resolve_left he
        exact cS_ord.irr _ (cS_ord.trans _ _ _ (a1 _ hz2) (b1 _ hx))
      ·exact hz'
theorem kept_ne {kind:Int} (hk:kind=2∨kind=3) {u:List Ex} (hs:∀k∈u,Sm k) (hu:u≠[]):keptS kind u≠[]:=by
 intro h0
 have hall:∀k∈u,gone kind u k=true:=by
  intro k hk
  have:=List.filter_eq_nil_iff.1 h0 k hk
  simpa using this
 have key:∀n:Nat,∀k∈u,k.kids.length≤n→False:=by
  intro n
  induction n with
  | zero =>
    intro k hku hn
    obtain ⟨o,ho,h1⟩:=List.any_eq_true.1 (hall k hku)
    simp only [absd,Bool.and_eq_true,bne_iff_ne,beq_iff_eq] at h1
    obtain ⟨_,h2,_⟩:=h1
    have:=hs k hku
    cases this with
    | name _ h3 _=>omega
    | row kind' l hk' hl _ _ _ _=>simp only at hn;omega
  | succ n ih =>
    intro k hku hn
    obtain ⟨o,ho,h1⟩:=List.any_eq_true.1 (hall k hku)
    simp only [absd,Bool.and_eq_true,bne_iff_ne,beq_iff_eq] at h1
    obtain ⟨hne,h2,h3⟩:=h1
    obtain ⟨o',ho',h4⟩:=List.any_eq_true.1 (hall o ho)
    simp only [absd,Bool.and_eq_true,bne_iff_ne,beq_iff_eq] at h4
    obtain ⟨_,h5,_⟩:=h4
    have sk:=hs k hku
    have so:=hs o ho
    cases sk with
    | name _ q _=>omega
    | row kk lk hkk hlk hsk hnk hok hgk =>
      cases so with
      | name _ q _=>omega
      | row ko lo hko hlo hso hno hoo hgo =>
        simp only at h2 h5
        subst h2;subst h5
        simp only [partsS,if_true,List.all_eq_true] at h3
        have hsub:=sub_str hoo hok fun x hx=>inT_iff.1 (h3 x hx)
        have hlen:=hsub.length_le
        simp only [List.length_map] at hlen
        by_cases he:lo.length=lk.length
        ·have:=hsub.eq_of_length (by simpa using he)
         have:=map_txt_inj (fun e he=>(hso e he).fault) (fun e he=>(hsk e he).fault) this
         subst this
         exact hne rfl
        ·exact ih _ ho (by simp only at hn ⊢;omega)
 cases u with
 | nil=>exact hu rfl
 | cons x r=>exact key _ x (by simp) (Nat.le_refl _)
theorem kept_kept (kind:Int) (u:List Ex):keptS kind (keptS kind u)=keptS kind u:=by
 refine List.filter_eq_self.2 fun k hk=> ?_
 have h1:=(List.mem_filter.1 hk).2
 cases hg:gone kind (keptS kind u) k with
 | false=>rfl
 | true =>
   exfalso
   obtain ⟨o,ho,h2⟩:=List.any_eq_true.1 hg
   have:gone kind u k=true:=List.any_eq_true.2 ⟨o,(List.mem_filter.1 ho).1,h2⟩
   simp [this] at h1
theorem kept_mem {kind:Int} {u:List Ex} {k:Ex} (h:k∈keptS kind u):k∈u:=(List.mem_filter.1 h).1
theorem fin_cases (kind:Int) (l:List Ex):(∃x,keptS kind (uniq l)=[x]∧finS kind l=x)∨(keptS kind (uniq l)).length≠1∧finS kind l= .mk kind [] false [] (keptS kind (uniq l)):=by
 unfold finS
 match h:keptS kind (uniq l) with
 | []=>right;exact ⟨by simp,rfl⟩
 | [x]=>left;exact ⟨x,rfl,rfl⟩
 | x::y::r=>right;exact ⟨by simp,rfl⟩
theorem fin_sm {kind:Int} (hk:kind=2∨kind=3) {l:List Ex} (hs:∀k∈l,Sm k) (hn:∀k∈l,k.kind≠kind) (hl:l≠[]):Sm (finS kind l):=by
 have hu:∀k∈uniq l,Sm k:=fun k hk=>hs k (uniq_mem hk)
 rcases fin_cases kind l with ⟨x,h1,h2⟩ | ⟨h1,h2⟩
 ·rw [h2]
  exact hu x (kept_mem (kind:=kind) (by rw [h1];simp))
 ·rw [h2]
  have hne:=kept_ne hk hu (uniq_ne hl)
  refine .row kind _ hk ?_ (fun k hk=>hu k (kept_mem hk)) (fun k hk=>hn k (uniq_mem (kept_mem hk))) ?_ (kept_kept _ _)
  ·have:(keptS kind (uniq l)).length≠0:=fun h=>hne (List.length_eq_zero_iff.1 h)
   omega
  ·exact List.Pairwise.sublist (List.Sublist.map txt List.filter_sublist) (uniq_str l)
theorem flat_sm {kind:Int} (hk2:kind=2∨kind=3) {k:Ex} (h:Sm k):(∀x∈flatS kind k,Sm x∧x.kind≠kind)∧flatS kind k≠[]:=by
 unfold flatS
 by_cases hk:k.kind=kind
 ·rw [if_pos hk]
  cases h with
  | name _ h1 h2=>omega
  | row kk lk hkk hlk hsk hnk hok hgk =>
    simp only at hk
    subst hk
    exact ⟨fun x hx=>⟨hsk x hx,hnk x hx⟩,fun h0=>by simp only at h0;rw [h0] at hlk;simp at hlk⟩
 ·rw [if_neg hk]
  exact ⟨fun x hx=>by rw [List.mem_singleton] at hx;subst hx;exact ⟨h,hk⟩,by simp⟩
theorem cntL_app:∀a b:List Ex,cntL (a++b)=cntL a+cntL b
 | [],b=>by simp [cntL]
 | x::a,b=>by simp only [List.cons_append,cntL,cntL_app a b];omega
theorem levL_app:∀a b:List Ex,levL (a++b)=max (levL a) (levL b)
 | [],b=>by simp [levL]
 | x::a,b=>by simp only [List.cons_append,levL,levL_app a b];omega
theorem cntL_sub {a b:List Ex} (h:a.Sublist b):cntL a≤cntL b:=by
 induction h with
 | slnil=>exact Nat.le_refl _
 | cons x _ ih=>simp only [cntL];omega
 | cons_cons x _ ih=>simp only [cntL];omega
theorem cntL_nodup:∀{a b:List Ex},a.Nodup→(∀x∈a,x∈b)→cntL a≤cntL b
 | [],b,_,_=>by simp [cntL]
 | x::a,b,hn,h=>by
   obtain ⟨s,t,rfl⟩:=List.append_of_mem (h x (by simp))
   obtain ⟨n1,n2⟩:=List.nodup_cons.1 hn
   have:=cntL_nodup n2 (b:=s++t) fun y hy=>by
    have hy2:=h y (by simp [hy])
    have hne:y≠x:=fun he=>n1 (he▸hy)
    simp only [List.mem_append,List.mem_cons] at hy2 ⊢
    rcases hy2 with h1 | h1 | h1
    ·exact .inl h1
    ·exact absurd h1 hne
    ·exact .inr h1
   rw [cntL_app] at this ⊢
   simp only [cntL];omega
theorem levL_mem {l:List Ex} {k:Ex} (h:k∈l):k.lev≤levL l:=by
 induction l with
 | nil=>simp at h
 | cons x r ih =>
   simp only [levL]
   rcases List.mem_cons.1 h with rfl | h
   ·omega
   ·have:=ih h;omega
theorem levL_le2 {l:List Ex} {n:Nat} (h:∀k∈l,k.lev≤n):levL l≤n:=by
 induction l with
 | nil=>simp [levL]
 | cons x r ih =>
   have h1:=h x (by simp)
   have h2:=ih fun k hk=>h k (by simp [hk])
   simp only [levL];omega
theorem uniq_nodup (l:List Ex):(uniq l).Nodup:=by
 have h:=uniq_str l
 have h2:(uniq l).Pairwise fun x y=>cS (txt x) (txt y)<0:=List.pairwise_map.1 h
 exact List.Pairwise.imp (fun {x y} hxy he=>by subst he;exact cS_ord.irr _ hxy) h2
theorem uniq_cnt (l:List Ex):cntL (uniq l)≤cntL l:=cntL_nodup (uniq_nodup l) fun _=>uniq_mem
theorem kept_cnt (kind:Int) (l:List Ex):cntL (keptS kind (uniq l))≤cntL l:=Nat.le_trans (cntL_sub List.filter_sublist) (uniq_cnt l)
theorem fin_cnt (kind:Int) (l:List Ex):(finS kind l).cnt≤1+cntL l∧(finS kind l).lev≤levL l+1:=by
 have h0:=kept_cnt kind l
 rcases fin_cases kind l with ⟨x,h1,h2⟩ | ⟨_,h2⟩
 ·rw [h1] at h0
  simp only [cntL] at h0
  rw [h2]
  have hx:x∈l:=uniq_mem (kept_mem (kind:=kind) (by rw [h1];simp))
  have:=levL_mem hx
  exact ⟨by omega,by omega⟩
 ·rw [h2]
  simp only [Ex.cnt,Ex.lev]
  have:levL (keptS kind (uniq l))≤levL l:=levL_le2 fun k hk=>levL_mem (uniq_mem (kept_mem hk))
  exact ⟨by omega,by omega⟩
theorem flat_cnt (kind:Int) (k:Ex):cntL (flatS kind k)≤k.cnt∧levL (flatS kind k)≤k.lev:=by
 unfold flatS
 split
 ·cases k with | mk a b c d l=>simp only [Ex.cnt,Ex.lev];omega
 ·simp [cntL,levL]
mutual
theorem simp_sm:∀e:Ex,fault e=0→Sm (simpS e)∧(simpS e).cnt≤e.cnt∧(simpS e).lev≤e.lev
 | .mk kind name later wth kids,hf=>by
   obtain ⟨h1,h2⟩:=fault_zero hf
   obtain ⟨k1,k3,o1,o2⟩:=one_zero h1
   simp only at h2 k1 k3 o1 o2
   simp only [simpS]
   by_cases hk:kind=1
   ·rw [if_pos hk]
    exact ⟨.name _ hk hf,Nat.le_refl _,Nat.le_refl _⟩
   ·rw [if_neg hk]
    have hk2:kind=2∨kind=3:=by omega
    obtain ⟨a,b,c,d⟩:=simpL_sm kind kids hk2 h2
    have hne:kids≠[]:=fun h0=>by have:=(o2 hk).2.2.2;rw [h0] at this;simp at this
    have hc:=fin_cnt kind (simpL kind kids)
    refine ⟨fin_sm hk2 (fun k hk=>(a k hk).1) (fun k hk=>(a k hk).2) (b hne),?_,?_⟩
    ·simp only [Ex.cnt];omega
    ·simp only [Ex.lev];omega
theorem simpL_sm:∀(kind:Int) (l:List Ex),(kind=2∨kind=3)→faultL l=0→(∀k∈simpL kind l,Sm k∧k.kind≠kind)∧(l≠[]→simpL kind l≠[])∧cntL (simpL kind l)≤cntL l∧levL (simpL kind l)≤levL l
 | kind,[],_,_=>by simp [simpL,cntL,levL]
 | kind,k::r,hk,hf=>by
   obtain ⟨s1,s2,s3⟩:=simp_sm k (faultL_mem hf (by simp))
   have hr:faultL r=0:=by
    simp only [faultL] at hf
    split at hf
    ·rename_i hx;exact absurd hf hx
    ·exact hf
   obtain ⟨a,_,c,d⟩:=simpL_sm kind r hk hr
   obtain ⟨f1,f2⟩:=flat_sm hk s1
   obtain ⟨g1,g2⟩:=flat_cnt kind (simpS k)
   simp only [simpL]
   refine ⟨fun x hx=>(List.mem_append.1 hx).elim (f1 x) (a x),fun _ h0=>f2 (List.append_eq_nil_iff.1 h0).1,?_,?_⟩
   ·rw [cntL_app];simp only [cntL];omega
   ·rw [levL_app];simp only [levL];omega
end
end LicSpec
end
section
/- The law of expressions in plain, first part: the reference's text, Print of both sides, what is sorted by text. -/
set_option maxRecDepth 100000
namespace Pe.Tryz
open Go Go.Proofs Pe LicSpec
structure Fx (e:Ex):Prop where
 right:fault e=0
 cnt:e.cnt≤200
 lev:e.lev≤30
theorem Fx.of {e:Ex} (h:chk e=0):Fx e:=by obtain ⟨a,b,c⟩:=chk_zero h;exact ⟨c,a,b⟩
theorem Fx.kid {e k:Ex} (h:Fx e) (hk:k∈e.kids):Fx k :=
 ⟨faultL_mem (fault_zero h.right).2 hk,by have:=cnt_kids hk;have:=h.cnt;omega,by have:=lev_kid hk;have:=h.lev;omega⟩
theorem Fx.len {e:Ex} (h:Fx e):(txt e).length≤28000:=by
 have h1:=txt_len e h.right
 have h2:140*e.cnt≤140*200:=Nat.mul_le_mul_left _ h.cnt
 omega
theorem Fx.simp {e:Ex} (h:Fx e):Fx (simpS e):=by
 obtain ⟨a,b,c⟩:=simp_sm e h.right
 exact ⟨a.fault,by have:=h.cnt;omega,by have:=h.lev;omega⟩
end Pe.Tryz
end
section
/- The law of expressions in plain, second part: the program's simple expression. -/
set_option maxRecDepth 100000
namespace Pe.Tryz
open Go Go.Proofs Pe LicSpec
end Pe.Tryz
end
section
/- The law of expressions in plain, third part: the reference's simple expression. -/
set_option maxRecDepth 100000
namespace Pe.Tryz
open Go Go.Proofs Pe LicSpec
end Pe.Tryz
end
section
/- The law of expressions in plain, last part: Simple and Names of both sides; the law. -/
set_option maxRecDepth 100000
namespace Pe.Tryz
open Go Go.Proofs Pe LicSpec
end Pe.Tryz
end
