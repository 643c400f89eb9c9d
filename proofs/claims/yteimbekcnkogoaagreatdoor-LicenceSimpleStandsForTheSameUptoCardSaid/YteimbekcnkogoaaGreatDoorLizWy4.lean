/- The law that the simple expression stands for the same, in plain. -/
import Derived.Test.YteimbekcnkogoaaGreatDoorLizH
import Derived.Test.YteimbekcnkogoaaGreatDoorLizWk5
import Derived.Test.YteimbekcnkogoaaGreatDoorLizJ
set_option maxRecDepth 100000
namespace Pe.Tryz
open Go Go.Proofs Pe LicSpec
mutual
def sem (c:Cat) (l:Way):Ex→Bool
 | .mk kind name later wth kids =>
   if kind=1 then (canS c (.mk kind name later wth kids)).any (fun u=>subL [u] l)
   else if kind=3 then semAny c l kids else semAll c l kids
def semAny (c:Cat) (l:Way):List Ex→Bool
 | []=>false
 | k::r=>sem c l k||semAny c l r
def semAll (c:Cat) (l:Way):List Ex→Bool
 | []=>true
 | k::r=>sem c l k&&semAll c l r
end
theorem sem_eq (c:Cat) (l:Way) (e:Ex):sem c l e=if e.kind=1 then (canS c e).any (fun u=>subL [u] l) else if e.kind=3 then semAny c l e.kids else semAll c l e.kids:=by
 cases e;simp only [sem]
theorem semAny_eq (c:Cat) (l:Way):∀r:List Ex,semAny c l r=r.any (sem c l)
 | []=>by simp [semAny]
 | k::r=>by simp only [semAny,List.any_cons,semAny_eq c l r]
theorem semAll_eq (c:Cat) (l:Way):∀r:List Ex,semAll c l r=r.all (sem c l)
 | []=>by simp [semAll]
 | k::r=>by simp only [semAll,List.all_cons,semAll_eq c l r]
mutual
theorem ways_sem (c:Cat) (l:Way):∀(e:Ex) (W:List Way),waysS c e=some W→perm W l=sem c l e
 | .mk kind name later wth kids,W,h=>by
   simp only [waysS] at h
   simp only [sem]
   by_cases hk:kind=1
   ·rw [if_pos hk] at h ⊢
    rw [bnd_map_perm (fun w hw=>by
     obtain ⟨u,_,rfl⟩:=List.mem_map.1 hw
     exact List.pairwise_singleton _ _) h]
    unfold perm
    rw [List.any_map];rfl
   ·rw [if_neg hk] at h ⊢
    by_cases hk3:kind=3
    ·rw [if_pos hk3] at h ⊢
     obtain ⟨m,h1,h2⟩:=Option.bind_eq_some_iff.1 h
     rw [bnd_map_perm (waysOr_good c kids m h1) h2,or_sem c l kids m h1]
    ·rw [if_neg hk3] at h ⊢
     obtain ⟨m,h1,h2⟩:=Option.bind_eq_some_iff.1 h
     rw [bnd_map_perm (and_good c kids [[]] m good_nil h1).each h2,and_sem c l kids [[]] m h1,perm_nil,Bool.true_and]
theorem or_sem (c:Cat) (l:Way):∀(r:List Ex) (W:List Way),waysOr c r=some W→perm W l=semAny c l r
 | [],W,h=>by simp only [waysOr] at h;cases h;rfl
 | k::r,W,h=>by
   simp only [waysOr] at h
   obtain ⟨m,h1,h2⟩:=Option.bind_eq_some_iff.1 h
   obtain ⟨q,h3,rfl⟩:=Option.map_eq_some_iff.1 h2
   simp only [semAny]
   rw [perm_app,ways_sem c l k m h1,or_sem c l r q h3]
theorem and_sem (c:Cat) (l:Way):∀(r:List Ex) (a W:List Way),waysAnd c r a=some W→perm W l=(perm a l&&semAll c l r)
 | [],a,W,h=>by simp only [waysAnd] at h;cases h;simp [semAll]
 | k::r,a,W,h=>by
   simp only [waysAnd] at h
   obtain ⟨m,h1,h2⟩:=Option.bind_eq_some_iff.1 h
   obtain ⟨l',h3,h4⟩:=Option.bind_eq_some_iff.1 h2
   obtain ⟨_,e1⟩:=bnd_good prod_str h3
   simp only [semAll]
   rw [and_sem c l r l' W h4,perm_congr e1,perm_prod,ways_sem c l k m h1,Bool.and_assoc]
end
theorem ways_least (c:Cat) (e:Ex) {W:List Way} (h:waysS c e=some W):∃s,GoodW s∧W=leastC cU s:=by
 rw [waysS_eq] at h
 have key:∀l:List Way,(∀w∈l,StrC cU w)→(bndS l).map (leastC cU)=some W→∃s,GoodW s∧W=leastC cU s:=fun l hl h=>by
  obtain ⟨s,h1,h2⟩:=Option.map_eq_some_iff.1 h
  exact ⟨s,(bnd_good hl h1).1,h2.symm⟩
 by_cases hk:e.kind=1
 ·rw [if_pos hk] at h
  refine key _ (fun w hw=> ?_) h
  obtain ⟨u,_,rfl⟩:=List.mem_map.1 hw
  exact List.pairwise_singleton _ _
 ·rw [if_neg hk] at h
  by_cases hk3:e.kind=3
  ·rw [if_pos hk3] at h
   obtain ⟨m,h1,h2⟩:=Option.bind_eq_some_iff.1 h
   exact key _ (waysOr_good c _ m h1) h2
  ·rw [if_neg hk3] at h
   obtain ⟨m,h1,h2⟩:=Option.bind_eq_some_iff.1 h
   exact key _ (and_good c _ [[]] m good_nil h1).each h2
theorem least_anti {s:List Way} (g:GoodW s) {v w:Way} (hv:v∈leastC cU s) (hw:w∈leastC cU s) (h:subL v w=true):v=w:=by
 refine Classical.byContradiction fun hne=> ?_
 have h1:=(sub_lt cU_ord (g.each v (least_mem hv)) (g.each w (least_mem hw)) h hne).2
 have h2:=(List.mem_filter.1 hw).2
 have:(s.any fun v=>decide (cR cU v w<0)&&subL v w)=true:=List.any_eq_true.2 ⟨v,least_mem hv,by rw [h,Bool.and_true];exact decide_eq_true h1⟩
 rw [this] at h2;cases h2
theorem sub_anti {v w:Way} (hv:StrC cU v) (hw:StrC cU w) (h1:subL v w=true) (h2:subL w v=true):v=w :=
 str_unique cU_ord hv hw fun x=>⟨subL_iff.1 h1 x,subL_iff.1 h2 x⟩
theorem least_sub {s t:List Way} (gs:GoodW s) (gt:GoodW t) (h:∀l,perm (leastC cU s) l=perm (leastC cU t) l) {w:Way} (hw:w∈leastC cU s):w∈leastC cU t:=by
 have h1:perm (leastC cU s) w=true:=List.any_eq_true.2 ⟨w,hw,subL_refl w⟩
 rw [h] at h1
 obtain ⟨v,hv,h2⟩:=List.any_eq_true.1 h1
 have h3:perm (leastC cU t) v=true:=List.any_eq_true.2 ⟨v,hv,subL_refl v⟩
 rw [←h] at h3
 obtain ⟨w',hw',h4⟩:=List.any_eq_true.1 h3
 have h5:=least_anti gs hw' hw (subL_trans h4 h2)
 subst h5
 have:=sub_anti (gt.each v (least_mem hv)) (gs.each w' (least_mem hw')) h2 h4
 subst this
 exact hv
theorem ways_unique {c:Cat} {x y:Ex} {A B:List Way} (hx:waysS c x=some A) (hy:waysS c y=some B) (h:∀l,sem c l x=sem c l y):A=B:=by
 obtain ⟨s,gs,rfl⟩:=ways_least c x hx
 obtain ⟨t,gt,rfl⟩:=ways_least c y hy
 have hp:∀l,perm (leastC cU s) l=perm (leastC cU t) l:=fun l=>by rw [ways_sem c l x _ hx,ways_sem c l y _ hy,h]
 exact str_unique cW_ord (least_good gs).str (least_good gt).str fun w=>⟨least_sub gs gt hp,least_sub gt gs fun l=>(hp l).symm⟩
theorem uniq_iff {l:List Ex} (hf:∀e∈l,fault e=0) (x:Ex):x∈uniq l↔x∈l:=by
 refine ⟨uniq_mem,fun hx=> ?_⟩
 have h1:txt x∈(uniq l).map txt:=by rw [uniq_txt];exact mem_texts.2 (List.mem_map.2 ⟨x,hx,rfl⟩)
 obtain ⟨y,hy,h2⟩:=List.mem_map.1 h1
 rw [←txt_inj (hf y (uniq_mem hy)) (hf x hx) h2]
 exact hy
theorem any_congr_mem {α:Type} {a b:List α} {p:α→Bool} (h:∀x,x∈a↔x∈b):a.any p=b.any p:=by
 rw [Bool.eq_iff_iff,List.any_eq_true,List.any_eq_true]
 exact ⟨fun ⟨x,h1,h2⟩=>⟨x,(h x).1 h1,h2⟩,fun ⟨x,h1,h2⟩=>⟨x,(h x).2 h1,h2⟩⟩
theorem all_congr_mem {α:Type} {a b:List α} {p:α→Bool} (h:∀x,x∈a↔x∈b):a.all p=b.all p:=by
 rw [Bool.eq_iff_iff,List.all_eq_true,List.all_eq_true]
 exact ⟨fun q x hx=>q x ((h x).2 hx),fun q x hx=>q x ((h x).1 hx)⟩
theorem absd_sem {kind:Int} (hk:kind=2∨kind=3) {k o:Ex} (sk:Sm k) (so:Sm o) (h:absd kind k o=true) (c:Cat) (l:Way) :
  if kind=2 then (sem c l o=true→sem c l k=true) else (sem c l k=true→sem c l o=true):=by
 simp only [absd,Bool.and_eq_true,beq_iff_eq,List.all_eq_true] at h
 obtain ⟨h1,h2⟩:=h
 have pk:partsS (5 - kind) k=k.kids.map txt:=by unfold partsS;rw [if_pos h1]
 rw [pk] at h2
 have kidk:∀x∈k.kids,Sm x:=by
  intro x hx
  cases sk with
  | name _ q hf=>rw [((one_zero (fault_zero hf).1).2.2.1 q).1] at hx;cases hx
  | row kk lk _ _ hsk _ _ _=>exact hsk x hx
 have mem:∀x,Sm x→txt x∈partsS (5 - kind) o→x∈k.kids:=by
  intro x sx hx
  have:=inT_iff.1 (h2 _ hx)
  obtain ⟨y,hy,he⟩:=List.mem_map.1 this
  rw [←txt_inj (kidk y hy).fault sx.fault he]
  exact hy
 have kid:(o.kind=5 - kind∧∀x∈o.kids,x∈k.kids)∨(o.kind≠5 - kind∧o∈k.kids):=by
  by_cases ho:o.kind=5 - kind
  ·left
   refine ⟨ho,fun x hx=> ?_⟩
   have sx:Sm x:=by
    cases so with
    | name _ q hf=>rw [((one_zero (fault_zero hf).1).2.2.1 q).1] at hx;cases hx
    | row kk lk _ _ hsk _ _ _=>exact hsk x hx
   refine mem x sx ?_
   unfold partsS;rw [if_pos ho];exact List.mem_map.2 ⟨x,hx,rfl⟩
  ·right
   refine ⟨ho,mem o so ?_⟩
   unfold partsS;rw [if_neg ho];simp
 rcases hk with rfl | rfl
 ·rw [if_pos rfl]
  intro hs
  have hk3:k.kind=3:=h1
  rw [sem_eq,if_neg (by omega),if_pos hk3,semAny_eq,List.any_eq_true]
  rcases kid with ⟨ho,hm⟩ | ⟨_,hm⟩
  ·have ho:o.kind=3:=ho
   rw [sem_eq,if_neg (by omega),if_pos ho,semAny_eq,List.any_eq_true] at hs
   obtain ⟨x,hx,hx2⟩:=hs
   exact ⟨x,hm x hx,hx2⟩
  ·exact ⟨o,hm,hs⟩
 ·rw [if_neg (by decide)]
  intro hs
  have hk2:k.kind=2:=h1
  rw [sem_eq,if_neg (by omega),if_neg (by omega),semAll_eq,List.all_eq_true] at hs
  rcases kid with ⟨ho,hm⟩ | ⟨_,hm⟩
  ·have ho:o.kind=2:=ho
   rw [sem_eq,if_neg (by omega),if_neg (by omega),semAll_eq,List.all_eq_true]
   exact fun x hx=>hs x (hm x hx)
  ·exact hs o hm
theorem kept_below {kind:Int} (hk:kind=2∨kind=3) {u:List Ex} (hs:∀k∈u,Sm k) (hnk0:∀k∈u,k.kind≠kind) (c:Cat) (l:Way):∀(n:Nat) (k:Ex),k.kids.length≤n→k∈u →
  ∃o∈keptS kind u,if kind=2 then (sem c l o=true→sem c l k=true) else (sem c l k=true→sem c l o=true):=by
 intro n
 induction n with
 | zero =>
   intro k hn hku
   cases hg:gone kind u k with
   | false=>exact ⟨k,List.mem_filter.2 ⟨hku,by rw [hg];rfl⟩,by split<;>exact id⟩
   | true =>
     exfalso
     obtain ⟨o,ho,h1⟩:=List.any_eq_true.1 hg
     simp only [absd,Bool.and_eq_true,bne_iff_ne,beq_iff_eq] at h1
     have sk:=hs k hku
     cases sk with
     | name _ q _=>omega
     | row kk lk _ hlk _ _ _ _=>simp only at hn;omega
 | succ n ih =>
   intro k hn hku
   cases hg:gone kind u k with
   | false=>exact ⟨k,List.mem_filter.2 ⟨hku,by rw [hg];rfl⟩,by split<;>exact id⟩
   | true =>
     obtain ⟨o,ho,h1⟩:=List.any_eq_true.1 hg
     rw [Bool.and_eq_true] at h1
     have hab:=h1.2
     have hne:=h1.1
     simp only [absd,Bool.and_eq_true,beq_iff_eq] at h1
     rw [bne_iff_ne] at hne
     obtain ⟨_,h2,h3⟩:=h1
     have himp:=absd_sem hk (hs k hku) (hs o ho) hab c l
     have hlt:o.kids.length≤n:=by
      have sk:=hs k hku
      have so:=hs o ho
      cases sk with
      | name _ q _=>omega
      | row kk lk hkk hlk hsk hnk hok hgk =>
        cases so with
        | name _ q hf=>rw [((one_zero (fault_zero hf).1).2.2.1 q).1];simp
        | row ko lo hko hlo hso hno hoo hgo =>
          simp only at h2 h3 hn ⊢
          by_cases hkind:ko=5 - kind
          ·subst hkind;subst h2
           simp only [partsS,if_true,List.all_eq_true] at h3
           have hsub:=sub_str hoo hok fun x hx=>inT_iff.1 (h3 x hx)
           have hlen:=hsub.length_le
           simp only [List.length_map] at hlen
           by_cases he:lo.length=lk.length
           ·exfalso
            have:=hsub.eq_of_length (by simpa using he)
            have:=map_txt_inj (fun e he=>(hso e he).fault) (fun e he=>(hsk e he).fault) this
            subst this
            exact hne rfl
           ·omega
          ·exfalso
           have hkeq:ko≠kind:=hnk0 _ ho
           omega
     obtain ⟨o',ho',h4⟩:=ih o hlt ho
     refine ⟨o',ho',?_⟩
     rcases hk with rfl | rfl
     ·rw [if_pos rfl] at himp h4 ⊢
      exact fun q=>himp (h4 q)
     ·rw [if_neg (by decide)] at himp h4 ⊢
      exact fun q=>h4 (himp q)
theorem fin_sem {kind:Int} (hk:kind=2∨kind=3) {fl:List Ex} (hs:∀k∈fl,Sm k) (hn:∀k∈fl,k.kind≠kind) (c:Cat) (l:Way):sem c l (finS kind fl)=if kind=3 then fl.any (sem c l) else fl.all (sem c l):=by
 have hf:∀e∈fl,fault e=0:=fun e he=>(hs e he).fault
 have hu:∀k∈uniq fl,Sm k:=fun k hk=>hs k (uniq_mem hk)
 have hun:∀k∈uniq fl,k.kind≠kind:=fun k hk=>hn k (uniq_mem hk)
 have e1:(if kind=3 then fl.any (sem c l) else fl.all (sem c l))=if kind=3 then (uniq fl).any (sem c l) else (uniq fl).all (sem c l):=by
  rw [any_congr_mem (uniq_iff hf),all_congr_mem (uniq_iff hf)]
 rw [e1]
 generalize hU:uniq fl=u at hu hun
 have e2:(if kind=3 then (keptS kind u).any (sem c l) else (keptS kind u).all (sem c l))=if kind=3 then u.any (sem c l) else u.all (sem c l):=by
  rcases hk with rfl | rfl
  ·rw [if_neg (by decide),if_neg (by decide),Bool.eq_iff_iff,List.all_eq_true,List.all_eq_true]
   refine ⟨fun h x hx=> ?_,fun h x hx=>h x (kept_mem hx)⟩
   obtain ⟨o,ho,h1⟩:=kept_below (.inl rfl) hu hun c l _ x (Nat.le_refl _) hx
   rw [if_pos rfl] at h1
   exact h1 (h o ho)
  ·rw [if_pos rfl,if_pos rfl,Bool.eq_iff_iff,List.any_eq_true,List.any_eq_true]
   refine ⟨fun ⟨x,hx,h⟩=>⟨x,kept_mem hx,h⟩,fun ⟨x,hx,h⟩=> ?_⟩
   obtain ⟨o,ho,h1⟩:=kept_below (.inr rfl) hu hun c l _ x (Nat.le_refl _) hx
   rw [if_neg (by decide)] at h1
   exact ⟨o,ho,h1 h⟩
 rw [←e2]
 have e3:sem c l (.mk kind [] false [] (keptS kind u))=if kind=3 then (keptS kind u).any (sem c l) else (keptS kind u).all (sem c l):=by
  rw [sem_eq,if_neg (by show kind≠1;omega),semAny_eq,semAll_eq]
 rcases fin_cases kind fl with ⟨x,h1,h2⟩ | ⟨_,h2⟩
 ·rw [hU] at h1
  rw [h2,h1]
  split<;>simp
 ·rw [h2,hU,e3]
theorem flat_sem {kind:Int} (hk:kind=2∨kind=3) {k:Ex} (_:Sm k) (c:Cat) (l:Way):(if kind=3 then (flatS kind k).any (sem c l) else (flatS kind k).all (sem c l))=sem c l k:=by
 unfold flatS
 by_cases h:k.kind=kind
 ·rw [if_pos h,sem_eq c l k]
  rcases hk with rfl | rfl
  ·rw [if_neg (by decide),if_neg (by omega),if_neg (by omega),semAll_eq]
  ·rw [if_pos rfl,if_neg (by omega),if_pos h,semAny_eq]
 ·rw [if_neg h]
  split<;>simp
mutual
theorem simp_sem (c:Cat) (l:Way):∀e:Ex,fault e=0→sem c l (simpS e)=sem c l e
 | .mk kind name later wth kids,hf=>by
   obtain ⟨h1,h2⟩:=fault_zero hf
   obtain ⟨k1,k3,o1,o2⟩:=one_zero h1
   simp only at h2 k1 k3 o1 o2
   simp only [simpS]
   by_cases hk:kind=1
   ·rw [if_pos hk]
   ·rw [if_neg hk]
    have hk2:kind=2∨kind=3:=by omega
    obtain ⟨a,_,_,_⟩:=simpL_sm kind kids hk2 h2
    rw [fin_sem hk2 (fun k hk=>(a k hk).1) (fun k hk=>(a k hk).2),simpL_sem c l kind kids hk2 h2]
    simp only [sem]
    rw [if_neg hk,semAny_eq,semAll_eq]
theorem simpL_sem (c:Cat) (l:Way):∀(kind:Int) (r:List Ex),(kind=2∨kind=3)→faultL r=0→(if kind=3 then (simpL kind r).any (sem c l) else (simpL kind r).all (sem c l))=if kind=3 then r.any (sem c l) else r.all (sem c l)
 | kind,[],_,_=>by simp [simpL]
 | kind,k::r,hk,hf=>by
   have h1:=simp_sem c l k (faultL_mem hf (by simp))
   have hr:faultL r=0:=by
    simp only [faultL] at hf
    split at hf
    ·rename_i hx;exact absurd hf hx
    ·exact hf
   have h2:=simpL_sem c l kind r hk hr
   have h3:=flat_sem hk (simp_sm k (faultL_mem hf (by simp))).1 c l
   simp only [simpL]
   rcases hk with rfl | rfl
   ·rw [if_neg (by decide)] at h2 h3 ⊢
    rw [if_neg (by decide)] at h2 ⊢
    rw [List.all_append,List.all_cons,h2,h3,h1]
   ·rw [if_pos rfl] at h2 h3 ⊢
    rw [if_pos rfl] at h2 ⊢
    rw [List.any_append,List.any_cons,h2,h3,h1]
end
theorem weak_self (W:List Way):weak W W=true:=List.all_eq_true.2 fun w hw=>List.any_eq_true.2 ⟨w,hw,subL_refl w⟩
theorem Fx.chk {e:Ex} (h:Fx e):LicSpec.chk e=0:=by
 unfold LicSpec.chk
 rw [if_neg (by have:=h.cnt;have:=h.lev;omega)]
 exact h.right
theorem L11 {n:Nat} {c:Cat} (hc:SmallC c) {x:Ex} (hx:Small x) (hbx:x.lev≤1500000) (hn:1500300≤n):m11 (orcN n) c x=some (true,()):=by
 obtain ⟨n,rfl⟩:∃k,n=k+1:=⟨n - 1,by omega⟩
 unfold m11
 simp only [Ex.eta]
 rw [q14,L14 hx (by omega) (by omega)]
 simp only [ob_some_eq]
 by_cases hch:chk x=0
 ·have fx:=Fx.of hch
  have fs:=fx.simp
  have e1:simpleS x=(simpS x,0,()):=by unfold simpleS;rw [if_neg (by simp [hch])]
  have e2:simpleS (simpS x)=(simpS x,0,()):=by unfold simpleS;rw [if_neg (by simp [fs.chk]),simp_simp fx.right]
  have hsl:=fs.lev
  have hss:=fs.small
  rw [e1]
  simp only [show ((0:Int) != 0)=false from rfl,br_false]
  rw [q14,L14 hss (by omega) (by omega),e2]
  simp only [ob_some_eq,show ((0:Int) != 0)=false from rfl,br_false]
  rw [G20 (by omega) hss]
  simp only [ob_some_eq,Bool.not_true,br_false]
  rw [q33,L33 hc hx (by omega),q33,L33 hc hss (by omega)]
  simp only [ob_some_eq]
  cases h1:(wOf c x).2.1 != 0 with
  | true=>simp only [br_true,ob_some_eq,G22 (by omega:231≤n+1)]
  | false =>
    cases h2:(wOf c (simpS x)).2.1 != 0 with
    | true=>simp only [br_false,br_true,ob_some_eq,G22 (by omega:231≤n+1)]
    | false =>
      obtain ⟨A,_,_,_,wa,ea⟩:=wOf_ok (bne_false_eq h1)
      obtain ⟨B,_,_,_,wb,eb⟩:=wOf_ok (bne_false_eq h2)
      have hAB:A=B:=ways_unique wa wb fun l=>(simp_sem c l x fx.right).symm
      subst hAB
      have hw1:=weakF_of (bne_false_eq h1) (bne_false_eq h2)
      have hw2:=weakF_of (bne_false_eq h2) (bne_false_eq h1)
      rw [ea,eb,weak_self] at hw1 hw2
      have gA:GoodW A:=ea▸wOf_good
      simp only [br_false,ob_some_eq]
      rw [q30,L30 hc hx hss (by omega) (by omega),q30,L30 hc hss hx (by omega) (by omega),hw1,hw2,ea,eb]
      simp only [ob_some_eq,q36,L36 (by omega:1≤n) gA,br_true,beq_self_eq_true,G22 (by omega:231≤n+1)]
 ·have e1:simpleS x=(.mk 0 [] false [] [],chk x,()):=by unfold simpleS;rw [if_pos hch]
  have e2:(chk x != 0)=true:=by simpa using hch
  rw [e1]
  simp only [e2,br_true]
  rw [q19,L19 n x (by omega) (by omega) hx]
  simp only [ob_some_eq,beq_self_eq_true,br_true,G22 (by omega:231≤n+1)]
end Pe.Tryz
