/- PROVED HERE: a part of the seat's proofs; see the text that holds the claim's theorem. -/
import Derived.Test.YteimbekcnkogoaaGreatDoorLizD
import Derived.Test.YteimbekcnkogoaaGreatDoorLizF
import Derived.Test.YteimbekcnkogoaaGreatDoorLizG
section
/- Simple expressions in plain: texts are different where expressions are; what is sorted by text and without repeats; simple expressions, and that they stay as they are. Over no program's models. -/
set_option maxRecDepth 100000
namespace LicSpec
open Go Pe
theorem txt_inj {a b:Ex} (ha:fault a=0) (hb:fault b=0) (h:txt a=txt b):a=b:=by
 obtain ⟨c,t,et,hcb⟩:=txt_head a ha
 have h0:Nx (txt a) ⟨0,0,0⟩ (txt a++[]):=nx_of' rfl (by simp) (by rw [et];simp [skipB,hcb])
 have h1:Nx (txt a) ⟨0,0,0⟩ (txt b++[]):=by rw [←h];exact h0
 obtain ⟨q,e1,_⟩:=or_rt (S:=txt a) (d:=a.lev+b.lev) (single_rt (txt a) _) ha (by omega) h0 end3.1
 obtain ⟨q',e2,_⟩:=or_rt (S:=txt a) (d:=a.lev+b.lev) (single_rt (txt a) _) hb (by omega) h1 end3.1
 rw [e1] at e2
 exact (Prod.mk.inj e2).1
theorem map_txt_inj:∀{a b:List Ex},(∀e∈a,fault e=0)→(∀e∈b,fault e=0)→a.map txt=b.map txt→a=b
 | [],[],_,_,_=>rfl
 | [],_::_,_,_,h=>by simp at h
 | _::_,[],_,_,h=>by simp at h
 | x::a,y::b,ha,hb,h=>by
   simp only [List.map_cons,List.cons.injEq] at h
   rw [txt_inj (ha x (by simp)) (hb y (by simp)) h.1,map_txt_inj (fun e he=>ha e (by simp [he])) (fun e he=>hb e (by simp [he])) h.2]
theorem faultL_of:∀{l:List Ex},(∀k∈l,fault k=0)→faultL l=0
 | [],_=>by simp [faultL]
 | k::r,h=>by
   have h1:=h k (by simp)
   simp only [faultL]
   rw [if_neg (by simp [h1])]
   exact faultL_of fun x hx=>h x (by simp [hx])
theorem fault_row {kind:Int} {l:List Ex} (hk:kind=2∨kind=3) (hl:2≤l.length) (h:∀k∈l,fault k=0):fault (.mk kind [] false [] l)=0:=by
 rw [fault_eq']
 have h1:LicSpec.one (.mk kind [] false [] l)=0:=by
  show (if kind<1∨3<kind then 7 else if kind≠1 then (if ([]:Str)≠[]∨false=true∨([]:Str)≠[]∨l.length<2 then 2 else 0) else _)=(0:Int)
  rw [if_neg (by omega),if_pos (by omega),if_neg]
  rintro (h | h | h | h)
  ·exact h rfl
  ·cases h
  ·exact h rfl
  ·omega
 rw [if_neg (by simp [h1])]
 exact faultL_of h
def pickT (l:List Ex) (s:Str):Option Ex:=l.find? fun e=>txt e==s
def texts (l:List Ex):List Str:=putAll [] (l.map txt)
def uniq (l:List Ex):List Ex:=(texts l).filterMap (pickT l)
theorem str_texts (l:List Ex):StrC cS (texts l):=str_putAll _ _ List.Pairwise.nil
theorem mem_texts {l:List Ex} {s:Str}:s∈texts l↔s∈l.map txt:=by
 unfold texts;rw [mem_putAll];simp
theorem pickT_some {l:List Ex} {s:Str} (h:s∈l.map txt):∃e,pickT l s=some e∧e∈l∧txt e=s:=by
 unfold pickT
 cases hf:l.find? (fun e=>txt e==s) with
 | some e =>
   refine ⟨e,rfl,List.mem_of_find?_eq_some hf,?_⟩
   have:=List.find?_some hf
   simpa using this
 | none =>
   exfalso
   obtain ⟨e,he,hs⟩:=List.mem_map.1 h
   have:=List.find?_eq_none.1 hf e he
   exact this (by simp [hs])
theorem pick_txt (l:List Ex):∀T:List Str,(∀s∈T,s∈l.map txt)→(T.filterMap (pickT l)).map txt=T
 | [],_=>rfl
 | s::T,h=>by
   obtain ⟨e,h1,_,h2⟩:=pickT_some (h s (by simp))
   rw [List.filterMap_cons,h1]
   simp only [List.map_cons,h2,pick_txt l T fun x hx=>h x (by simp [hx])]
theorem uniq_txt (l:List Ex):(uniq l).map txt=texts l:=pick_txt l _ fun _ hs=>mem_texts.1 hs
theorem uniq_mem {l:List Ex} {e:Ex} (h:e∈uniq l):e∈l:=by
 obtain ⟨s,_,h2⟩:=List.mem_filterMap.1 h
 exact List.mem_of_find?_eq_some h2
theorem uniq_str (l:List Ex):StrC cS ((uniq l).map txt):=by rw [uniq_txt];exact str_texts l
theorem uniq_self {l:List Ex} (hf:∀e∈l,fault e=0) (h:StrC cS (l.map txt)):uniq l=l:=by
 refine map_txt_inj (fun e he=>hf e (uniq_mem he)) hf ?_
 rw [uniq_txt]
 exact str_unique cS_ord (str_texts l) h fun x=>mem_texts
theorem uniq_of {l r:List Ex} (hf:∀e∈l,fault e=0) (hr:∀e∈r,e∈l) (h:StrC cS (r.map txt)) (hm:∀s,s∈l.map txt→s∈r.map txt):r=uniq l:=by
 refine map_txt_inj (fun e he=>hf e (hr e he)) (fun e he=>hf e (uniq_mem he)) ?_
 rw [uniq_txt]
 refine str_unique cS_ord h (str_texts l) fun x=>⟨fun hx=>mem_texts.2 ?_,fun hx=>hm x (mem_texts.1 hx)⟩
 obtain ⟨e,he,rfl⟩:=List.mem_map.1 hx
 exact List.mem_map.2 ⟨e,hr e he,rfl⟩
theorem uniq_ne {l:List Ex} (h:l≠[]):uniq l≠[]:=by
 intro h0
 have h1:=uniq_txt l
 rw [h0] at h1
 cases l with
 | nil=>exact h rfl
 | cons x r =>
   have:txt x∈texts (x::r):=mem_texts.2 (by simp)
   rw [←h1] at this
   simp at this
def inT (l:List Str) (s:Str):Bool:=l.any (· ==s)
theorem inT_iff {l:List Str} {s:Str}:inT l s=true↔s∈l:=by
 unfold inT;simp
def partsS (kind:Int) (e:Ex):List Str:=if e.kind=kind then e.kids.map txt else [txt e]
def absd (kind:Int) (k o:Ex):Bool:=(k.kind==5 - kind)&&(partsS (5 - kind) o).all (inT (partsS (5 - kind) k))
def gone (kind:Int) (u:List Ex) (k:Ex):Bool:=u.any fun o=>(txt o != txt k)&&absd kind k o
def keptS (kind:Int) (u:List Ex):List Ex:=u.filter fun k=> !gone kind u k
def finS (kind:Int) (l:List Ex):Ex:=match keptS kind (uniq l) with | [x]=>x | l=> .mk kind [] false [] l
def flatS (kind:Int) (k:Ex):List Ex:=if k.kind=kind then k.kids else [k]
mutual
def simpS:Ex→Ex
 | .mk kind name later wth kids=>if kind=1 then .mk kind name later wth kids else finS kind (simpL kind kids)
def simpL:Int→List Ex→List Ex
 | _,[]=>[]
 | kind,k::r=>flatS kind (simpS k)++simpL kind r
end
theorem simpS_eq (e:Ex):simpS e=if e.kind=1 then e else finS e.kind (simpL e.kind e.kids):=by cases e;simp only [simpS]
theorem simpL_eq (kind:Int):∀l:List Ex,simpL kind l=l.flatMap fun k=>flatS kind (simpS k)
 | []=>by simp [simpL]
 | k::r=>by simp only [simpL,List.flatMap_cons,simpL_eq kind r]
inductive Sm:Ex→Prop
 | name (e:Ex) (hk:e.kind=1) (hf:fault e=0):Sm e
 | row (kind:Int) (l:List Ex) (hk:kind=2∨kind=3) (hl:2≤l.length) (hs:∀k,k∈l→Sm k) (hn:∀k,k∈l→k.kind≠kind) (ho:StrC cS (l.map txt)) (hg:keptS kind l=l):Sm (.mk kind [] false [] l)
theorem Sm.fault {e:Ex} (h:Sm e):LicSpec.fault e=0:=by
 induction h with
 | name e hk hf=>exact hf
 | row kind l hk hl hs hn ho hg ih=>exact fault_row hk hl ih
theorem sub_str {a b:List Str} (ha:StrC cS a) (hb:StrC cS b) (h:∀x∈a,x∈b):a.Sublist b:=by
 induction b generalizing a with
 | nil =>
   cases a with
   | nil=>exact .slnil
   | cons x r=>exact absurd (h x (by simp)) (by simp)
 | cons y b ih =>
   obtain ⟨b1,b2⟩:=List.pairwise_cons.1 hb
   cases a with
   | nil=>exact List.nil_sublist _
   | cons x r =>
     obtain ⟨a1,a2⟩:=List.pairwise_cons.1 ha
     by_cases he:x=y
     ·subst he
      refine .cons_cons _ (ih a2 b2 fun z hz=> ?_)
      rcases List.mem_cons.1 (h z (by simp [hz])) with rfl | hz'
      ·exact absurd (a1 _ hz) (cS_ord.irr _)
      ·exact hz'
     ·refine .cons _ (ih ha b2 fun z hz=> ?_)
      rcases List.mem_cons.1 (h z hz) with rfl | hz'
      ·exfalso
       rcases List.mem_cons.1 hz with rfl | hz2
       ·exact he rfl
       ·have hx:x∈b:=(List.mem_cons.1 (h x (by simp))).resolve_left he
        exact cS_ord.irr _ (cS_ord.trans _ _ _ (a1 _ hz2) (b1 _ hx))
      ·exact hz'
theorem kept_ne {kind:Int} (hk:kind=2∨kind=3) {u:List Ex} (hs:∀k∈u,Sm k) (hu:u≠[]):keptS kind u≠[]:=by
 intro h0
 have hall:∀k∈u,gone kind u k=true:=by
  intro k hk
  have:=List.filter_eq_nil_iff.1 h0 k hk
  simpa using this
 have key:∀n:Nat,∀k∈u,k.kids.length≤n→False:=by
  intro n
  induction n with
  | zero =>
    intro k hku hn
    obtain ⟨o,ho,h1⟩:=List.any_eq_true.1 (hall k hku)
    simp only [absd,Bool.and_eq_true,bne_iff_ne,beq_iff_eq] at h1
    obtain ⟨_,h2,_⟩:=h1
    have:=hs k hku
    cases this with
    | name _ h3 _=>omega
    | row kind' l hk' hl _ _ _ _=>simp only at hn;omega
  | succ n ih =>
    intro k hku hn
    obtain ⟨o,ho,h1⟩:=List.any_eq_true.1 (hall k hku)
    simp only [absd,Bool.and_eq_true,bne_iff_ne,beq_iff_eq] at h1
    obtain ⟨hne,h2,h3⟩:=h1
    obtain ⟨o',ho',h4⟩:=List.any_eq_true.1 (hall o ho)
    simp only [absd,Bool.and_eq_true,bne_iff_ne,beq_iff_eq] at h4
    obtain ⟨_,h5,_⟩:=h4
    have sk:=hs k hku
    have so:=hs o ho
    cases sk with
    | name _ q _=>omega
    | row kk lk hkk hlk hsk hnk hok hgk =>
      cases so with
      | name _ q _=>omega
      | row ko lo hko hlo hso hno hoo hgo =>
        simp only at h2 h5
        subst h2;subst h5
        simp only [partsS,if_true,List.all_eq_true] at h3
        have hsub:=sub_str hoo hok fun x hx=>inT_iff.1 (h3 x hx)
        have hlen:=hsub.length_le
        simp only [List.length_map] at hlen
        by_cases he:lo.length=lk.length
        ·have:=hsub.eq_of_length (by simpa using he)
         have:=map_txt_inj (fun e he=>(hso e he).fault) (fun e he=>(hsk e he).fault) this
         subst this
         exact hne rfl
        ·exact ih _ ho (by simp only at hn ⊢;omega)
 cases u with
 | nil=>exact hu rfl
 | cons x r=>exact key _ x (by simp) (Nat.le_refl _)
theorem kept_kept (kind:Int) (u:List Ex):keptS kind (keptS kind u)=keptS kind u:=by
 refine List.filter_eq_self.2 fun k hk=> ?_
 have h1:=(List.mem_filter.1 hk).2
 cases hg:gone kind (keptS kind u) k with
 | false=>rfl
 | true =>
   exfalso
   obtain ⟨o,ho,h2⟩:=List.any_eq_true.1 hg
   have:gone kind u k=true:=List.any_eq_true.2 ⟨o,(List.mem_filter.1 ho).1,h2⟩
   simp [this] at h1
theorem kept_mem {kind:Int} {u:List Ex} {k:Ex} (h:k∈keptS kind u):k∈u:=(List.mem_filter.1 h).1
theorem fin_cases (kind:Int) (l:List Ex):(∃x,keptS kind (uniq l)=[x]∧finS kind l=x)∨(keptS kind (uniq l)).length≠1∧finS kind l= .mk kind [] false [] (keptS kind (uniq l)):=by
 unfold finS
 match h:keptS kind (uniq l) with
 | []=>right;exact ⟨by simp,rfl⟩
 | [x]=>left;exact ⟨x,rfl,rfl⟩
 | x::y::r=>right;exact ⟨by simp,rfl⟩
theorem fin_sm {kind:Int} (hk:kind=2∨kind=3) {l:List Ex} (hs:∀k∈l,Sm k) (hn:∀k∈l,k.kind≠kind) (hl:l≠[]):Sm (finS kind l):=by
 have hu:∀k∈uniq l,Sm k:=fun k hk=>hs k (uniq_mem hk)
 rcases fin_cases kind l with ⟨x,h1,h2⟩ | ⟨h1,h2⟩
 ·rw [h2]
  exact hu x (kept_mem (kind:=kind) (by rw [h1];simp))
 ·rw [h2]
  have hne:=kept_ne hk hu (uniq_ne hl)
  refine .row kind _ hk ?_ (fun k hk=>hu k (kept_mem hk)) (fun k hk=>hn k (uniq_mem (kept_mem hk))) ?_ (kept_kept _ _)
  ·have:(keptS kind (uniq l)).length≠0:=fun h=>hne (List.length_eq_zero_iff.1 h)
   omega
  ·exact List.Pairwise.sublist (List.Sublist.map txt List.filter_sublist) (uniq_str l)
theorem flat_sm {kind:Int} (hk2:kind=2∨kind=3) {k:Ex} (h:Sm k):(∀x∈flatS kind k,Sm x∧x.kind≠kind)∧flatS kind k≠[]:=by
 unfold flatS
 by_cases hk:k.kind=kind
 ·rw [if_pos hk]
  cases h with
  | name _ h1 h2=>omega
  | row kk lk hkk hlk hsk hnk hok hgk =>
    simp only at hk
    subst hk
    exact ⟨fun x hx=>⟨hsk x hx,hnk x hx⟩,fun h0=>by simp only at h0;rw [h0] at hlk;simp at hlk⟩
 ·rw [if_neg hk]
  exact ⟨fun x hx=>by rw [List.mem_singleton] at hx;subst hx;exact ⟨h,hk⟩,by simp⟩
theorem cntL_app:∀a b:List Ex,cntL (a++b)=cntL a+cntL b
 | [],b=>by simp [cntL]
 | x::a,b=>by simp only [List.cons_append,cntL,cntL_app a b];omega
theorem levL_app:∀a b:List Ex,levL (a++b)=max (levL a) (levL b)
 | [],b=>by simp [levL]
 | x::a,b=>by simp only [List.cons_append,levL,levL_app a b];omega
theorem cntL_sub {a b:List Ex} (h:a.Sublist b):cntL a≤cntL b:=by
 induction h with
 | slnil=>exact Nat.le_refl _
 | cons x _ ih=>simp only [cntL];omega
 | cons_cons x _ ih=>simp only [cntL];omega
theorem cntL_nodup:∀{a b:List Ex},a.Nodup→(∀x∈a,x∈b)→cntL a≤cntL b
 | [],b,_,_=>by simp [cntL]
 | x::a,b,hn,h=>by
   obtain ⟨s,t,rfl⟩:=List.append_of_mem (h x (by simp))
   obtain ⟨n1,n2⟩:=List.nodup_cons.1 hn
   have:=cntL_nodup n2 (b:=s++t) fun y hy=>by
    have hy2:=h y (by simp [hy])
    have hne:y≠x:=fun he=>n1 (he▸hy)
    simp only [List.mem_append,List.mem_cons] at hy2 ⊢
    rcases hy2 with h1 | h1 | h1
    ·exact .inl h1
    ·exact absurd h1 hne
    ·exact .inr h1
   rw [cntL_app] at this ⊢
   simp only [cntL];omega
theorem levL_mem {l:List Ex} {k:Ex} (h:k∈l):k.lev≤levL l:=by
 induction l with
 | nil=>simp at h
 | cons x r ih =>
   simp only [levL]
   rcases List.mem_cons.1 h with rfl | h
   ·omega
   ·have:=ih h;omega
theorem levL_le2 {l:List Ex} {n:Nat} (h:∀k∈l,k.lev≤n):levL l≤n:=by
 induction l with
 | nil=>simp [levL]
 | cons x r ih =>
   have h1:=h x (by simp)
   have h2:=ih fun k hk=>h k (by simp [hk])
   simp only [levL];omega
theorem uniq_nodup (l:List Ex):(uniq l).Nodup:=by
 have h:=uniq_str l
 have h2:(uniq l).Pairwise fun x y=>cS (txt x) (txt y)<0:=List.pairwise_map.1 h
 exact List.Pairwise.imp (fun {x y} hxy he=>by subst he;exact cS_ord.irr _ hxy) h2
theorem uniq_cnt (l:List Ex):cntL (uniq l)≤cntL l:=cntL_nodup (uniq_nodup l) fun _=>uniq_mem
theorem kept_cnt (kind:Int) (l:List Ex):cntL (keptS kind (uniq l))≤cntL l:=Nat.le_trans (cntL_sub List.filter_sublist) (uniq_cnt l)
theorem fin_cnt (kind:Int) (l:List Ex):(finS kind l).cnt≤1+cntL l∧(finS kind l).lev≤levL l+1:=by
 have h0:=kept_cnt kind l
 rcases fin_cases kind l with ⟨x,h1,h2⟩ | ⟨_,h2⟩
 ·rw [h1] at h0
  simp only [cntL] at h0
  rw [h2]
  have hx:x∈l:=uniq_mem (kept_mem (kind:=kind) (by rw [h1];simp))
  have:=levL_mem hx
  exact ⟨by omega,by omega⟩
 ·rw [h2]
  simp only [Ex.cnt,Ex.lev]
  have:levL (keptS kind (uniq l))≤levL l:=levL_le2 fun k hk=>levL_mem (uniq_mem (kept_mem hk))
  exact ⟨by omega,by omega⟩
theorem flat_cnt (kind:Int) (k:Ex):cntL (flatS kind k)≤k.cnt∧levL (flatS kind k)≤k.lev:=by
 unfold flatS
 split
 ·cases k with | mk a b c d l=>simp only [Ex.cnt,Ex.lev];omega
 ·simp [cntL,levL]
mutual
theorem simp_sm:∀e:Ex,fault e=0→Sm (simpS e)∧(simpS e).cnt≤e.cnt∧(simpS e).lev≤e.lev
 | .mk kind name later wth kids,hf=>by
   obtain ⟨h1,h2⟩:=fault_zero hf
   obtain ⟨k1,k3,o1,o2⟩:=one_zero h1
   simp only at h2 k1 k3 o1 o2
   simp only [simpS]
   by_cases hk:kind=1
   ·rw [if_pos hk]
    exact ⟨.name _ hk hf,Nat.le_refl _,Nat.le_refl _⟩
   ·rw [if_neg hk]
    have hk2:kind=2∨kind=3:=by omega
    obtain ⟨a,b,c,d⟩:=simpL_sm kind kids hk2 h2
    have hne:kids≠[]:=fun h0=>by have:=(o2 hk).2.2.2;rw [h0] at this;simp at this
    have hc:=fin_cnt kind (simpL kind kids)
    refine ⟨fin_sm hk2 (fun k hk=>(a k hk).1) (fun k hk=>(a k hk).2) (b hne),?_,?_⟩
    ·simp only [Ex.cnt];omega
    ·simp only [Ex.lev];omega
theorem simpL_sm:∀(kind:Int) (l:List Ex),(kind=2∨kind=3)→faultL l=0→(∀k∈simpL kind l,Sm k∧k.kind≠kind)∧(l≠[]→simpL kind l≠[])∧cntL (simpL kind l)≤cntL l∧levL (simpL kind l)≤levL l
 | kind,[],_,_=>by simp [simpL,cntL,levL]
 | kind,k::r,hk,hf=>by
   obtain ⟨s1,s2,s3⟩:=simp_sm k (faultL_mem hf (by simp))
   have hr:faultL r=0:=by
    simp only [faultL] at hf
    split at hf
    ·rename_i hx;exact absurd hf hx
    ·exact hf
   obtain ⟨a,_,c,d⟩:=simpL_sm kind r hk hr
   obtain ⟨f1,f2⟩:=flat_sm hk s1
   obtain ⟨g1,g2⟩:=flat_cnt kind (simpS k)
   simp only [simpL]
   refine ⟨fun x hx=>(List.mem_append.1 hx).elim (f1 x) (a x),fun _ h0=>f2 (List.append_eq_nil_iff.1 h0).1,?_,?_⟩
   ·rw [cntL_app];simp only [cntL];omega
   ·rw [levL_app];simp only [levL];omega
end
theorem sm_idem {e:Ex} (h:Sm e):simpS e=e:=by
 induction h with
 | name e hk hf=>rw [simpS_eq,if_pos hk]
 | row kind l hk hl hs hn ho hg ih =>
   rw [simpS_eq]
   simp only
   rw [if_neg (by omega)]
   have h1:simpL kind l=l:=by
    clear ho hg hl
    induction l with
    | nil=>simp [simpL]
    | cons x r ihl =>
      simp only [simpL]
      rw [ih x (by simp),ihl (fun k hk=>hs k (by simp [hk])) (fun k hk=>hn k (by simp [hk])) (fun k hk=>ih k (by simp [hk]))]
      unfold flatS
      rw [if_neg (hn x (by simp))]
      rfl
   rw [h1]
   have h2:uniq l=l:=uniq_self (fun e he=>(hs e he).fault) ho
   rcases fin_cases kind l with ⟨x,q1,_⟩ | ⟨_,q2⟩
   ·rw [h2,hg] at q1;rw [q1] at hl;simp at hl
   ·rw [q2,h2,hg]
theorem simp_simp {e:Ex} (h:fault e=0):simpS (simpS e)=simpS e:=sm_idem (simp_sm e h).1
end LicSpec
end
section
/- The law of expressions in plain, first part: the reference's text, Print of both sides, what is sorted by text. -/
set_option maxRecDepth 100000
namespace Pe.Tryz
open Go Go.Proofs Pe LicSpec
structure Fx (e:Ex):Prop where
 right:fault e=0
 cnt:e.cnt≤200
 lev:e.lev≤30
theorem Fx.of {e:Ex} (h:chk e=0):Fx e:=by obtain ⟨a,b,c⟩:=chk_zero h;exact ⟨c,a,b⟩
theorem Fx.kid {e k:Ex} (h:Fx e) (hk:k∈e.kids):Fx k :=
 ⟨faultL_mem (fault_zero h.right).2 hk,by have:=cnt_kids hk;have:=h.cnt;omega,by have:=lev_kid hk;have:=h.lev;omega⟩
theorem Fx.len {e:Ex} (h:Fx e):(txt e).length≤28000:=by
 have h1:=txt_len e h.right
 have h2:140*e.cnt≤140*200:=Nat.mul_le_mul_left _ h.cnt
 omega
theorem Fx.small {e:Ex} (h:Fx e):Small e:=small_fine e h.right h.cnt
theorem Fx.simp {e:Ex} (h:Fx e):Fx (simpS e):=by
 obtain ⟨a,b,c⟩:=simp_sm e h.right
 exact ⟨a.fault,by have:=h.cnt;omega,by have:=h.lev;omega⟩
theorem G47 {n:Nat} (hn:31≤n) {e:Ex} (h:Fx e): @Eq (Option (List UInt8×Unit)) ((orcN n).d 47 [.st 4 e] [.str]) (some (txt e,())):=by
 obtain ⟨n,rfl⟩:∃k,n=k+1:=⟨n - 1,by omega⟩
 rw [q47];exact L47 n e (by have:=h.lev;omega) h.right h.cnt
def cE (a b:Ex):Int:=cS (txt a) (txt b)
def tE (a b:Ex):Bool:=txt a==txt b
theorem cE_on {l:List Ex} (h:∀e∈l,fault e=0):OrdOn l cE :=
 ⟨fun _ _=>cS_ord.irr _,fun _ _ _ _ _ _=>cS_ord.trans _ _ _,fun x hx y hy h1 h2=>txt_inj (h x hx) (h y hy) (cS_ord.eq _ _ h1 h2)⟩
theorem L92 {n:Nat} (hn:31≤n) {a b:Ex} (ha:Fx a) (hb:Fx b):m92 (orcN n) a b=some (cE a b,()):=by
 obtain ⟨n,rfl⟩:∃k,n=k+2:=⟨n - 2,by omega⟩
 unfold m92
 simp only [Ex.eta,G47 hn ha,G47 hn hb,ob_some_eq,q93,L93 n]
 rfl
theorem L95 {n:Nat} (hn:31≤n) {a b:Ex} (ha:Fx a) (hb:Fx b):m95 (orcN n) a b=some (tE a b,()):=by
 unfold m95
 simp only [Ex.eta,G47 hn ha,G47 hn hb,ob_some_eq]
 rfl
theorem q91 (n:Nat) (l:List Ex): @Eq (Option (List Ex)) ((orcN (n+1)).p 91 (.st 4) 24 [.func (.func 92) [] []] l) (sortO (S:=Sx) (orcN n) 92 (.st 4) l) :=
 (show _=opt1 (sortO (S:=Sx) (orcN n) 92 (.st 4) l) by kernel_rfl).trans (opt1_eq _)
theorem sort_ex {n:Nat} (hn:33≤n) {l:List Ex} (h:∀e∈l,Fx e) (hl:l.length≤lim): @Eq (Option (List Ex)) (sortO (S:=Sx) (orcN n) 92 (.st 4) l) (some (sortC cE l)):=by
 obtain ⟨n,rfl⟩:∃k,n=k+2:=⟨n - 2,by omega⟩
 refine sortO_of (S:=Sx) (u:= .st 4) (c:=cE) (fun x hx y hy=> ?_) (cE_on fun e he=>(h e he).right) hl rfl
 exact (q92 (n+1) x y).trans (L92 (by omega) (h x hx) (h y hy))
theorem m94_gen (o:Orc Sx) (s:List Ex):m94 o s=compactG (Ex.mk 0 [] false [] []) (fun a b=>o.d 95 [.st 4 a,.st 4 b] [.bool]) s:=by
 unfold m94
 simp only [Ex.eta]
 rfl
theorem L94 {n:Nat} (hn:32≤n) {s:List Ex} (h:∀e∈s,Fx e) (hl:s.length≤4294967296):m94 (orcN n) s=some (.inl (cmp? tE s s.length,())):=by
 obtain ⟨n,rfl⟩:∃k,n=k+1:=⟨n - 1,by omega⟩
 refine (m94_gen _ s).trans ((compactG_eq _ _ s).trans ?_)
 refine compactM_eq (fun x hx y hy=> ?_) hl
 exact congrArg (fun z=>ob (α:=Bool×Unit) z fun r=>some r.1) ((q95 n x y).trans (L95 (by omega) (h x hx) (h y hy)))
theorem cmp?_map {α β:Type} (f:α→β) (t:β→β→Bool) (s:List α):∀m,(cmp? (fun x y=>t (f x) (f y)) s m).map f=cmp? t (s.map f) m
 | 0=>rfl
 | m+1=>by
   have ih:=cmp?_map f t s m
   simp only [cmp?,List.getElem?_map]
   cases s[m]? with
   | none=>exact ih
   | some x =>
     cases s[m - 1]? with
     | none=>cases Nat.blt 0 m<;>simp [ih]
     | some y =>
       simp only [Option.map_some]
       cases Nat.blt 0 m<;>cases h:t (f x) (f y)<;>simp [ih]
theorem cmp?_mem {α:Type} {t:α→α→Bool} {s:List α}:∀(m:Nat) {x:α},x∈cmp? t s m→x∈s
 | 0,x,h=>by simp [cmp?] at h
 | m+1,x,h=>by
   simp only [cmp?] at h
   cases hs:s[m]? with
   | none=>rw [hs] at h;exact cmp?_mem m h
   | some y =>
     rw [hs] at h
     simp only at h
     generalize (Nat.blt 0 m&&(match s[m - 1]? with | some z=>t y z | none=>false))=b at h
     cases b with
     | true=>exact cmp?_mem m h
     | false =>
       rcases List.mem_append.1 h with h | h
       ·exact cmp?_mem m h
       ·rw [List.mem_singleton] at h;subst h;exact List.mem_of_getElem? hs
theorem uniq_prog {l:List Ex} (h:∀e∈l,fault e=0):cmp? tE (sortC cE l) (sortC cE l).length=uniq l:=by
 have hasc:AscC cS ((sortC cE l).map txt):=by
  have:=sortC_asc (cE_on h)
  exact List.pairwise_map.2 this
 obtain ⟨h1,h2⟩:=cmp?_str cS_ord (t:=fun x y=>x==y) (fun x y=>by simp) hasc (sortC cE l).length (by simp)
 have hm:=cmp?_map txt (fun x y=>x==y) (sortC cE l) (sortC cE l).length
 have hm':(cmp? tE (sortC cE l) (sortC cE l).length).map txt=cmp? (fun x y=>x==y) ((sortC cE l).map txt) (sortC cE l).length:=hm
 refine uniq_of h (fun e he=>(sortC_perm cE l).mem_iff.1 (cmp?_mem _ he)) (by rw [hm'];exact h1) fun s hs=> ?_
 rw [hm',h2,List.take_of_length_le (by simp)]
 obtain ⟨e,he,rfl⟩:=List.mem_map.1 hs
 exact List.mem_map.2 ⟨e,(sortC_perm cE l).mem_iff.2 he,rfl⟩
theorem wrap5 {kind:Int} (hk:kind=2∨kind=3):IntKind.i64.wrap (5 - kind)=5 - kind:=wrap_id (by omega) (by omega)
theorem L129 {n:Nat} (hn:31≤n) {e:Ex} (h:Fx e) (kind:Int):m129 (orcN n) kind e=some (partsS kind e,()):=by
 unfold m129 partsS
 by_cases hk:e.kind=kind
 ·have e1:(e.kind != kind)=false:=by simp [hk]
  rw [e1,if_pos hk]
  simp only [br_false]
  rw [loop_col e.kids (fun k=>some (txt k)) (fun l=> .inl (l,())) ?h1 ?h2]
  case h1 =>
   intro k hk a ha
   have hl:e.kids.length<e.cnt:=cnt_len
   have:=h.cnt
   simp only [len_lt,hk,decide_true,br_true,at?_get hk,ob_some_eq,Ex.eta,G47 hn (h.kid (List.getElem_mem hk)),wrap_succ hk (by omega:e.kids.length≤9223372036854775807)]
   rw [cat?_ok (by have:lim=4294967296:=rfl;simp;omega)]
   rfl
  case h2=>intro a;simp [len,br_false]
  rw [cutM_inl,List.filterMap_eq_map']
 ·have e1:(e.kind != kind)=true:=by simpa using hk
  rw [e1,if_neg hk]
  simp only [br_true,Ex.eta,G47 hn h,ob_some_eq]
theorem parts_len {e:Ex} (h:Fx e) (kind:Int):(partsS kind e).length≤200:=by
 unfold partsS
 have hl:e.kids.length<e.cnt:=cnt_len
 have:=h.cnt
 split
 ·simp;omega
 ·simp
theorem L96 {n:Nat} (hn:33≤n) {kind:Int} (hk:kind=2∨kind=3) {k o:Ex} (h:Fx k) (ho:Fx o):m96 (orcN n) kind k o=some (absd kind k o,()):=by
 obtain ⟨n,rfl⟩:∃k,n=k+1:=⟨n - 1,by omega⟩
 unfold m96 absd
 rw [wrap5 hk]
 by_cases h1:k.kind=5 - kind
 ·have e1:(k.kind != 5 - kind)=false:=by simp [h1]
  have e2:(k.kind==5 - kind)=true:=by simp [h1]
  have hpl:=parts_len ho (5 - kind)
  have hpk:=parts_len h (5 - kind)
  rw [e1,e2]
  simp only [br_false,Ex.eta,q129,L129 (by omega:31≤n) h,L129 (by omega:31≤n) ho,ob_some_eq,Bool.true_and]
  rw [loop_all (partsS (5 - kind) o) (inT (partsS (5 - kind) k)) (false,()) ?h1 ?h2]
  case h1 =>
   intro j hj
   simp only [len_lt,hj,decide_true,br_true,at?_get hj,ob_some_eq,q86,L86 (by omega:1≤n) (by omega:(partsS (5 - kind) k).length≤1000000000),wrap_succ hj (by omega:(partsS (5 - kind) o).length≤9223372036854775807)]
   show br (!inT (partsS (5 - kind) k) (partsS (5 - kind) o)[j]) _ _=_
   cases inT (partsS (5 - kind) k) (partsS (5 - kind) o)[j]<;>rfl
  case h2=>simp [len,br_false]
  cases (partsS (5 - kind) o).all (inT (partsS (5 - kind) k))<;>rfl
 ·have e1:(k.kind != 5 - kind)=true:=by simpa using h1
  have e2:(k.kind==5 - kind)=false:=by simpa using h1
  rw [e1,e2];rfl
end Pe.Tryz
end
section
/- The law of expressions in plain, second part: the program's simple expression. -/
set_option maxRecDepth 100000
namespace Pe.Tryz
open Go Go.Proofs Pe LicSpec
theorem L90_flat (o:Orc Sx) {kind:Int} {l:List Ex} (h:∀k∈l,k.kind≠kind) (hl:l.length≤1000000):m90 o kind l=some (.inl (l,())):=by
 unfold m90
 rw [loop_col l some (fun l=> .inl (l,())) ?h1 ?h2]
 case h1 =>
  intro k hk a ha
  have hkk:(l[k].kind==kind)=false:=by simpa using h _ (List.getElem_mem hk)
  simp only [len_lt,hk,decide_true,br_true,at?_get hk,ob_some_eq,Ex.eta,hkk,br_false,wrap_succ hk (by omega:l.length≤9223372036854775807)]
  rw [cat?_ok (by have:lim=4294967296:=rfl;simp;omega)]
  rfl
 case h2=>intro a;simp [len,br_false]
 rw [List.filterMap_some];rfl
theorem L90 {n:Nat} (hn:1≤n) {kind:Int} {l:List Ex} (h:∀k∈l,k.kind=kind→∀x∈k.kids,x.kind≠kind) (hl:cntL l≤200):m90 (orcN n) kind l=some (.inl (l.flatMap (flatS kind),())):=by
 obtain ⟨n,rfl⟩:∃k,n=k+1:=⟨n - 1,by omega⟩
 have hlim:lim=4294967296:=rfl
 have hll:l.length≤cntL l:=by
  have:∀l:List Ex,l.length≤cntL l:=by
   intro l
   induction l with
   | nil=>simp
   | cons k r ih=>have:=k.cnt_pos;simp only [cntL,List.length_cons];omega
  exact this l
 unfold m90
 rw [show (([]:List Ex),(0:Int),())=((fun (k:Nat) (a:List Ex)=>(a,(k:Int),())) 0 []) from rfl]
 rw [loop_fold (fun (k:Nat) (a:List Ex)=>(a,(k:Int),())) l (fun a k=>a++flatS kind k) (fun a=> .inl (a,())) (fun k a=>a.length+cntL (l.drop k)≤200) ?h1 ?h2 [] (by simpa using hl)]
 case h1 =>
  intro k hk a ha
  have hmem:=List.getElem_mem hk
  rw [List.drop_eq_getElem_cons hk] at ha
  simp only [cntL] at ha
  have hkl:=cnt_len (e:=l[k])
  have hcp:=l[k].cnt_pos
  by_cases hkk:l[k].kind=kind
  ·have e1:(l[k].kind==kind)=true:=by simpa using hkk
   have h90:=L90_flat (orcN n) (h _ hmem hkk) (by omega)
   simp only [len_lt,hk,decide_true,br_true,at?_get hk,ob_some_eq,e1,q90,h90,oc_inl,wrap_succ hk (by omega:l.length≤9223372036854775807)]
   rw [cat?_ok (by omega)]
   unfold flatS
   rw [if_pos hkk]
   exact ⟨rfl,by simp;omega⟩
  ·have e1:(l[k].kind==kind)=false:=by simpa using hkk
   simp only [len_lt,hk,decide_true,br_true,at?_get hk,ob_some_eq,e1,br_false,Ex.eta,wrap_succ hk (by omega:l.length≤9223372036854775807)]
   rw [cat?_ok (by simp;omega)]
   unfold flatS
   rw [if_neg hkk]
   exact ⟨rfl,by simp;omega⟩
 case h2=>intro a _;simp [len,br_false]
 rw [cutM_inl]
 have:∀(l a:List Ex),l.foldl (fun a k=>a++flatS kind k) a=a++l.flatMap (flatS kind):=by
  intro l
  induction l with
  | nil=>intro a;simp
  | cons x r ih=>intro a;rw [List.foldl_cons,ih,List.flatMap_cons,List.append_assoc]
 rw [this];rfl
theorem gone_range {kind:Int} {u:List Ex} (hu:StrC cS (u.map txt)) {i:Nat} (hi:i<u.length) :
  (List.range u.length).foldl (fun b j=>b||(decide (i≠j)&&absd kind u[i] (u[j]?.getD u[i]))) false=gone kind u u[i]:=by
 have hf:∀(l:List Nat) (p:Nat→Bool) (b:Bool),l.foldl (fun b j=>b||p j) b=(b||l.any p):=by
  intro l p
  induction l with
  | nil=>intro b;simp
  | cons x r ih=>intro b;rw [List.foldl_cons,ih,List.any_cons,Bool.or_assoc]
 rw [hf,Bool.false_or]
 unfold gone
 rw [Bool.eq_iff_iff,List.any_eq_true,List.any_eq_true]
 constructor
 ·rintro ⟨j,h1,h2⟩
  have hj:j<u.length:=by simpa using h1
  simp only [Bool.and_eq_true,decide_eq_true_eq] at h2
  rw [List.getElem?_eq_getElem hj] at h2
  refine ⟨u[j],List.getElem_mem hj,?_⟩
  simp only [Bool.and_eq_true,bne_iff_ne]
  refine ⟨fun he=> ?_,h2.2⟩
  have asc:=List.pairwise_iff_getElem.1 hu
  rcases Nat.lt_or_gt_of_ne h2.1 with h4 | h4
  ·have:=asc i j (by simpa using hi) (by simpa using hj) h4
   simp only [List.getElem_map] at this
   rw [he] at this;exact cS_ord.irr _ this
  ·have:=asc j i (by simpa using hj) (by simpa using hi) h4
   simp only [List.getElem_map] at this
   rw [he] at this;exact cS_ord.irr _ this
 ·rintro ⟨o,h1,h2⟩
  obtain ⟨j,hj,rfl⟩:=List.getElem_of_mem h1
  simp only [Bool.and_eq_true,bne_iff_ne] at h2
  refine ⟨j,by simpa using hj,?_⟩
  simp only [Bool.and_eq_true,decide_eq_true_eq]
  exact ⟨fun he=>by subst he;exact h2.1 rfl,by rw [List.getElem?_eq_getElem hj];exact h2.2⟩
theorem L50:∀(n:Nat) (e:Ex),e.lev+40≤n→Fx e→m50 (orcN n) e=some (simpS e,()):=by
 intro n
 induction n with
 | zero=>intro e h;omega
 | succ n ih =>
   intro e hl hx
   obtain ⟨h1,h2⟩:=fault_zero hx.right
   obtain ⟨k1,k3,o1,o2⟩:=one_zero h1
   have hlim:lim=4294967296:=rfl
   have hkl:e.kids.length<e.cnt:=cnt_len
   have hcn:e.cnt=1+cntL e.kids:=by cases e;simp only [Ex.cnt]
   have hc2:=hx.cnt
   unfold m50
   rw [simpS_eq]
   by_cases hk:e.kind=1
   ·have e1:(e.kind==1)=true:=by simpa using hk
    rw [e1,if_pos hk,br_true,Ex.eta]
   ·have e1:(e.kind==1)=false:=by simpa using hk
    have hk2:e.kind=2∨e.kind=3:=by omega
    rw [e1,if_neg hk]
    simp only [br_false]
    rw [loop_col e.kids (fun k=>some (simpS k)) (fun l=> .inl (l,())) ?h1 ?h2]
    case h1 =>
     intro k hk a ha
     have hmem:=List.getElem_mem hk
     have:=lev_kid hmem
     simp only [len_lt,hk,decide_true,br_true,at?_get hk,ob_some_eq,Ex.eta,q50,ih e.kids[k] (by omega) (hx.kid hmem),wrap_succ hk (by omega:e.kids.length≤9223372036854775807)]
     rw [cat?_ok (by simp;omega)]
     rfl
    case h2=>intro a;simp [len,br_false]
    rw [cutM_inl,List.filterMap_eq_map']
    have hsm:∀k∈e.kids,Sm (simpS k):=fun k hk=>(simp_sm k (hx.kid hk).right).1
    have hcm:∀l:List Ex,(∀k∈l,fault k=0)→cntL (l.map simpS)≤cntL l:=by
     intro l
     induction l with
     | nil=>intro _;simp [cntL]
     | cons x r ihl =>
       intro hf
       have:=(simp_sm x (hf x (by simp))).2.1
       have:=ihl fun k hk=>hf k (by simp [hk])
       simp only [List.map_cons,cntL];omega
    have hcm2:=hcm e.kids fun k hk=>(hx.kid hk).right
    have hfl:(e.kids.map simpS).flatMap (flatS e.kind)=simpL e.kind e.kids:=by rw [simpL_eq,List.flatMap_map]
    have h90:=L90 (n:=n) (by omega) (kind:=e.kind) (l:=e.kids.map simpS) (fun k hk=>by
     obtain ⟨k',hk',rfl⟩:=List.mem_map.1 hk
     intro hkk x hxk
     have:=hsm k' hk'
     generalize simpS k'=s at this hkk hxk
     cases this with
     | name _ q _=>omega
     | row kk lk _ _ _ hnk _ _=>simp only at hkk hxk;rw [←hkk];exact hnk x hxk) (by omega)
    rw [hfl] at h90
    obtain ⟨p1,p2,p3,p4⟩:=simpL_sm e.kind e.kids hk2 h2
    have hpx:∀k∈simpL e.kind e.kids,Fx k:=fun k hk=>⟨(p1 k hk).1.fault,by have:=cnt_mem hk;omega,by
     have h5:=levL_mem hk
     have h6:e.lev=levL e.kids+1:=by cases e;simp only [Ex.lev]
     have:=hx.lev
     omega⟩
    generalize hFL:simpL e.kind e.kids=fl at h90 p1 p2 p3 p4 hpx
    have hfll:fl.length≤200:=by
     have:∀l:List Ex,l.length≤cntL l:=by
      intro l
      induction l with
      | nil=>simp
      | cons k r ih=>have:=k.cnt_pos;simp only [cntL,List.length_cons];omega
     have:=this fl;omega
    have h91: @Eq (Option (List Ex)) ((orcN (n+1)).p 91 (.st 4) 24 [.func (.func 92) [] []] fl) (some (sortC cE fl)):=by
     rw [q91];exact sort_ex (by omega) hpx (by omega)
    have hsl:=(sortC_perm cE fl).length_eq
    have h94: @Eq (Option ((List Ex×Unit)⊕Unit)) ((orcN (n+1)).l 94 sg94 ((sortC cE fl,()):List Ex×Unit)) (some (.inl (uniq fl,()))):=by
     rw [q94,L94 (by omega:32≤n) (fun e he=>hpx e ((sortC_perm cE fl).mem_iff.1 he)) (by omega),uniq_prog fun e he=>(hpx e he).right]
    rw [q90,h90]
    simp only [oc_inl]
    refine (congrArg (fun z=>ob (α:=List Ex) z _) h91).trans ?_
    rw [ob_some_eq]
    refine (congrArg (fun z=>oc (α:=List Ex×Unit) (β:=Unit) z _ _) h94).trans ?_
    rw [oc_inl]
    have hu:=uniq_str fl
    have hux:∀k∈uniq fl,Fx k:=fun k hk=>hpx k (uniq_mem hk)
    have hun:(uniq fl).length≤200:=by
     have h5:=uniq_cnt fl
     have:∀l:List Ex,l.length≤cntL l:=by
      intro l
      induction l with
      | nil=>simp
      | cons k r ih=>have:=k.cnt_pos;simp only [cntL,List.length_cons];omega
     have:=this (uniq fl);omega
    have hfin:finS e.kind fl=match keptS e.kind (uniq fl) with | [x]=>x | l=> .mk e.kind [] false [] l:=rfl
    rw [hfin]
    unfold keptS
    generalize uniq fl=u at hu hux hun
    rw [show (u,([]:List Ex),u,(0:Int),())=((fun (k:Nat) (a:List Ex)=>(u,a,u,(k:Int),())) 0 []) from rfl]
    rw [loop_st (A:=List Ex) (fun (k:Nat) (a:List Ex)=>(u,a,u,(k:Int),())) u.length (fun k a=> .inl (a++(u.drop k).filter (fun x=> !gone e.kind u x),())) (fun k a=>a.length≤k) ?g1 0 [] (Nat.zero_le _) (Nat.le_refl _)]
    case g1 =>
     intro k a hk' ha
     by_cases hlt:k<u.length
     ·left
      have hin:loopM (σ:=List Ex×Bool×Int×Unit) (R:=(List Ex×Bool×Unit)⊕((List Ex×Unit)⊕((List Ex×List Ex×List Ex×Int×Unit)⊕((List Ex×Unit)⊕(Ex×Unit))))) (fun (t13:List Ex×Bool×Int×Unit)=>(br (decide (t13.2.2.1<(len u))) (ob (at? u t13.2.2.1) fun y14=>(ob (br t13.2.1 (some true) (ob (br ((k:Int) != t13.2.2.1) (ob (α:=Bool×Unit) ((orcN (n+1)).d 96 [.int .i64 e.kind,.st 4 u[k],.st 4 y14] [.bool]) fun (r15:Bool×Unit)=>(some r15.1)) (some false)) fun b16=>(some b16))) fun b17=>(some (.inl (t13.1,b17,(IntKind.i64.wrap (t13.2.2.1+1)),()))))) (some (.inr (.inl (t13.1,t13.2.1,())))))) (a,false,0,())=some (.inl (a,gone e.kind u u[k],())):=by
       rw [show (a,false,(0:Int),())=((fun (j:Nat) (b:Bool)=>(a,b,(j:Int),())) 0 false) from rfl]
       rw [loop_fold (fun (j:Nat) (b:Bool)=>(a,b,(j:Int),())) (List.range u.length) (fun b j=>b||(decide (k≠j)&&absd e.kind u[k] (u[j]?.getD u[k]))) (fun b=> .inl (a,b,())) (fun _ _=>True) ?i1 ?i2 false trivial]
       case i1 =>
        intro j hj b _
        have hj':j<u.length:=by simpa using hj
        refine ⟨?_,trivial⟩
        have e3:((k:Int) != (j:Int))=decide (k≠j):=by
         by_cases hkj:k=j
         ·subst hkj;simp
         ·have:¬((k:Int)=(j:Int)):=by omega
          simp [hkj,this]
        simp only [len_lt,hj',decide_true,br_true,at?_get hj',ob_some_eq,q96,L96 (by omega:33≤n) hk2 (hux _ (List.getElem_mem hlt)) (hux _ (List.getElem_mem hj')),e3,wrap_succ hj' (by omega:u.length≤9223372036854775807),List.getElem_range,List.getElem?_eq_getElem hj',Option.getD_some]
        cases b<;>cases decide (k≠j)<;>rfl
       case i2=>intro b _;simp [len,br_false]
       rw [gone_range hu hlt]
      have hrest:(u.drop k).filter (fun x=> !gone e.kind u x)=(bif gone e.kind u u[k] then [] else [u[k]])++(u.drop (k+1)).filter (fun x=> !gone e.kind u x):=by
       rw [List.drop_eq_getElem_cons hlt,List.filter_cons]
       cases gone e.kind u u[k]<;>rfl
      refine ⟨a++(bif gone e.kind u u[k] then [] else [u[k]]),hlt,?_,?_,?_⟩
      ·simp only [len_lt,hlt,decide_true,br_true,at?_get hlt,ob_some_eq,Ex.eta]
       rw [hin]
       simp only [cutM_inl,wrap_succ hlt (by omega:u.length≤9223372036854775807)]
       rw [cat?_ok (by simp;omega)]
       cases gone e.kind u u[k]<;>simp [br_true,br_false,ob_some_eq,cutM_inl]
      ·cases gone e.kind u u[k]<;>simp<;>omega
      ·rw [hrest,List.append_assoc]
     ·right
      have hke:k=u.length:=by omega
      subst hke
      simp [len,br_false]
    rw [cutM_inl]
    simp only [List.drop_zero,List.nil_append]
    match hkp:u.filter (fun x=> !gone e.kind u x) with
    | []=>rfl
    | [x] =>
      have e8:((len [x])==1)=true:=rfl
      have e9:at? [x] 0=some x:=rfl
      rw [e8,br_true,e9,ob_some_eq,Ex.eta]
    | x::y::r =>
      have:((len (x::y::r))==1)=false:=by unfold len;simp;omega
      rw [this];rfl
end Pe.Tryz
end
section
/- The law of expressions in plain, third part: the reference's simple expression. -/
set_option maxRecDepth 100000
namespace Pe.Tryz
open Go Go.Proofs Pe LicSpec
end Pe.Tryz
end
section
/- The law of expressions in plain, last part: Simple and Names of both sides; the law. -/
set_option maxRecDepth 100000
namespace Pe.Tryz
open Go Go.Proofs Pe LicSpec
def simpleS (e:Ex):Ex×Int×Unit:=if chk e≠0 then (.mk 0 [] false [] [],chk e,()) else (simpS e,0,())
theorem L14 {n:Nat} {e:Ex} (hs:Small e) (hn:222≤n) (hl:e.lev+10≤n):m14 (orcN n) e=some (simpleS e):=by
 obtain ⟨m,rfl⟩:∃m,n=m+1:=⟨n - 1,by omega⟩
 have h18:=L18 m e (by omega) hs
 unfold m14 simpleS
 by_cases hc:chk e=0
 ·have hx:=Fx.of hc
  have e1:(chk e != 0)=false:=by simp [hc]
  have hl2:=hx.lev
  have hl3:=hx.simp.lev
  rw [if_neg (by simp [hc])]
  simp only [Ex.eta,q18,h18,ob_some_eq,e1,br_false,q50,L50 m e (by omega) hx,q49,L49 m (simpS e) (by omega) hx.simp.small]
 ·have e1:(chk e != 0)=true:=by simpa using hc
  rw [if_pos hc]
  simp only [Ex.eta,q18,h18,ob_some_eq,e1,br_true]
end Pe.Tryz
end
