/- What laws of ways share: the ways are known, least, and there is one. -/
import Derived.Test.YteimbekcnkogoaaGreatDoorLizH
import Derived.Test.YteimbekcnkogoaaGreatDoorLizWk5
set_option maxRecDepth 100000
namespace Pe.Tryz
open Go Go.Proofs Pe LicSpec
theorem wOf_err {c:Cat} {e:Ex} (h:(wOf c e).2.1≠0):wOf c e=([],(wOf c e).2.1,()):=by
 unfold wOf at h ⊢
 cases h1:catF c != 0 with
 | true=>rfl
 | false =>
   rw [h1] at h
   simp only [cond_false] at h ⊢
   cases h2:chk e != 0 with
   | true=>rfl
   | false =>
     rw [h2] at h
     simp only [cond_false] at h ⊢
     split
     ·rfl
     ·rename_i hu
      rw [if_neg hu] at h
      cases hw:waysS c e with
      | none=>rfl
      | some W=>rw [hw] at h;exact absurd rfl h
theorem can_uF {c:Cat} {e:Ex} (h:leafU c e=[]) {u:Gt.Use} (hu:u∈canS c e):uF c u=0:=by
 obtain ⟨⟨m,hm⟩,hw⟩:=unk_leaf h
 unfold canS at hu
 rw [hm] at hu
 obtain ⟨r,hr,hp⟩:=List.mem_filterMap.1 hu
 unfold pick at hp
 cases hb:((r.name != (lGet c e.name).name&& !laterR c e r)||(e.wth != []&& !hasT (xGet c e.wth).for_ r.name)) with
 | true=>rw [hb] at hp;cases hp
 | false =>
   rw [hb] at hp
   cases hp
   rw [Bool.or_eq_false_iff] at hb
   have h1:(lIx c r.name).isNone=false:=by
    have:(lIx c r.name).isSome=true:=by
     unfold lIx
     rw [findIdx_any,List.any_eq_true]
     exact ⟨r,hr,by simp⟩
    cases hx:lIx c r.name with
    | none=>rw [hx] at this;cases this
    | some k=>rfl
   unfold uF
   simp only [h1,cond_false]
   cases hw0:e.wth==[] with
   | true=>rfl
   | false =>
     have hne:(e.wth != [])=true:=by rw [bne,hw0];rfl
     have h2:=hb.2
     rw [hne,Bool.true_and,Bool.not_eq_false'] at h2
     have h3:(xIx c e.wth).isNone=false:=by
      rcases hw with hw | hw
      ·rw [hw] at hw0;cases hw0
      ·cases hx:xIx c e.wth with
       | none=>rw [hx] at hw;cases hw
       | some k=>rfl
     simp only [cond_false,h3,h2,Bool.not_true,Bool.or_self]
def UF (c:Cat) (W:List Way):Prop:=∀w∈W,∀u∈w,uF c u=0
theorem UF.bnd {c:Cat} {l W:List Way} (hl:∀w∈l,StrC cU w) (h:UF c l) (hb:(bndS l).map (leastC cU)=some W):UF c W:=by
 obtain ⟨s,h1,rfl⟩:=Option.map_eq_some_iff.1 hb
 obtain ⟨_,hm⟩:=bnd_good hl h1
 intro w hw
 exact h w ((hm w).1 (least_mem hw))
theorem UF.prod {c:Cat} {a b:List Way} (ha:UF c a) (hb:UF c b):UF c (prodS a b):=by
 intro w hw u hu
 obtain ⟨v,hv,h1⟩:=List.mem_flatMap.1 hw
 obtain ⟨x,hx,rfl⟩:=List.mem_map.1 h1
 rcases List.mem_append.1 ((mem_setC cU_ord _ u).1 hu) with h | h
 ·exact ha v hv u h
 ·exact hb x hx u h
mutual
theorem ways_uF (c:Cat):∀(e:Ex) (W:List Way),waysS c e=some W→unkS c e=[]→UF c W
 | .mk kind name later wth kids,W,h,hu=>by
   simp only [waysS] at h
   rw [unkS_eq] at hu
   simp only at hu
   split at h
   ·rename_i hk
    rw [if_neg (by simp [hk])] at hu
    refine UF.bnd (fun w hw=> ?_) (fun w hw u hu2=> ?_) h
    ·obtain ⟨u,_,rfl⟩:=List.mem_map.1 hw
     exact List.pairwise_singleton _ _
    ·obtain ⟨v,hv,rfl⟩:=List.mem_map.1 hw
     rw [List.mem_singleton] at hu2;subst hu2
     exact can_uF hu hv
   ·rename_i hk
    rw [if_pos hk] at hu
    split at h
    ·obtain ⟨l,h1,h2⟩:=Option.bind_eq_some_iff.1 h
     exact UF.bnd (waysOr_good c kids l h1) (waysOr_uF c kids l h1 hu) h2
    ·obtain ⟨l,h1,h2⟩:=Option.bind_eq_some_iff.1 h
     exact UF.bnd (and_good c kids [[]] l good_nil h1).each (waysAnd_uF c kids [[]] l (fun w hw u hu2=>by rw [List.mem_singleton] at hw;subst hw;cases hu2) h1 hu) h2
theorem waysOr_uF (c:Cat):∀(l:List Ex) (W:List Way),waysOr c l=some W→unkL c l=[]→UF c W
 | [],W,h,_=>by simp only [waysOr] at h;cases h;intro w hw;cases hw
 | k::r,W,h,hu=>by
   simp only [waysOr] at h
   simp only [unkL] at hu
   obtain ⟨u1,u2⟩:=List.append_eq_nil_iff.1 hu
   obtain ⟨m,h1,h2⟩:=Option.bind_eq_some_iff.1 h
   obtain ⟨l,h3,rfl⟩:=Option.map_eq_some_iff.1 h2
   intro w hw
   rcases List.mem_append.1 hw with hw | hw
   ·exact ways_uF c k m h1 u1 w hw
   ·exact waysOr_uF c r l h3 u2 w hw
theorem waysAnd_uF (c:Cat):∀(l:List Ex) (a W:List Way),UF c a→waysAnd c l a=some W→unkL c l=[]→UF c W
 | [],a,W,ha,h,_=>by simp only [waysAnd] at h;cases h;exact ha
 | k::r,a,W,ha,h,hu=>by
   simp only [waysAnd] at h
   simp only [unkL] at hu
   obtain ⟨u1,u2⟩:=List.append_eq_nil_iff.1 hu
   obtain ⟨m,h1,h2⟩:=Option.bind_eq_some_iff.1 h
   obtain ⟨l',h3,h4⟩:=Option.bind_eq_some_iff.1 h2
   exact waysAnd_uF c r l' W (fun w hw=>(ha.prod (ways_uF c k m h1 u1)) w (((bnd_good prod_str h3).2 w).1 hw)) h4 u2
end
theorem ff_all {F:Nat→Int}:∀n,(∀k,k<n→F k=0)→ff F n=0
 | 0,_=>rfl
 | n+1,h=>by simp only [ff];rw [ff_all n fun k hk=>h k (by omega),h n (by omega)];rfl
theorem way_list {c:Cat} (hcat:catF c=0) {w:Way} (hl:w.length≤40) (hu:∀u∈w,uF c u=0):listF c w=0:=by
 unfold listF usesF
 have h1:decide (40<len w)=false:=decide_eq_false (by unfold len;omega)
 rw [hcat,h1]
 exact ff_all _ fun k hk=>by rw [←uAt_get hk];exact hu _ (List.getElem_mem hk)
theorem wOf_list {c:Cat} {e:Ex}:∀w∈(wOf c e).1,listF c w=0:=by
 intro w hw
 have h0:(wOf c e).2.1=0:=Classical.byContradiction fun h=>by rw [wOf_err h] at hw;cases hw
 unfold wOf at h0 hw
 cases h1:catF c != 0 with
 | true=>rw [h1] at hw;cases hw
 | false =>
   rw [h1] at hw
   simp only [cond_false] at hw
   cases h2:chk e != 0 with
   | true=>rw [h2] at hw;cases hw
   | false =>
     rw [h2] at hw
     simp only [cond_false] at hw
     split at hw
     ·cases hw
     ·rename_i hu
      have hu:unkS c e=[]:=Classical.byContradiction hu
      cases hs:waysS c e with
      | none=>rw [hs] at hw;cases hw
      | some W =>
        rw [hs] at hw
        exact way_list (bne_false_eq h1) ((waysS_good c e W hs).len w hw) (ways_uF c e W hs hu w hw)
theorem ways_least (c:Cat) (e:Ex) {W:List Way} (h:waysS c e=some W):∃s,GoodW s∧W=leastC cU s:=by
 rw [waysS_eq] at h
 have key:∀l:List Way,(∀w∈l,StrC cU w)→(bndS l).map (leastC cU)=some W→∃s,GoodW s∧W=leastC cU s:=fun l hl h=>by
  obtain ⟨s,h1,h2⟩:=Option.map_eq_some_iff.1 h
  exact ⟨s,(bnd_good hl h1).1,h2.symm⟩
 by_cases hk:e.kind=1
 ·rw [if_pos hk] at h
  refine key _ (fun w hw=> ?_) h
  obtain ⟨u,_,rfl⟩:=List.mem_map.1 hw
  exact List.pairwise_singleton _ _
 ·rw [if_neg hk] at h
  by_cases hk3:e.kind=3
  ·rw [if_pos hk3] at h
   obtain ⟨m,h1,h2⟩:=Option.bind_eq_some_iff.1 h
   exact key _ (waysOr_good c _ m h1) h2
  ·rw [if_neg hk3] at h
   obtain ⟨m,h1,h2⟩:=Option.bind_eq_some_iff.1 h
   exact key _ (and_good c _ [[]] m good_nil h1).each h2
theorem least_anti {s:List Way} (g:GoodW s) {v w:Way} (hv:v∈leastC cU s) (hw:w∈leastC cU s) (h:subL v w=true):v=w:=by
 refine Classical.byContradiction fun hne=> ?_
 have h1:=(sub_lt cU_ord (g.each v (least_mem hv)) (g.each w (least_mem hw)) h hne).2
 have h2:=(List.mem_filter.1 hw).2
 have:(s.any fun v=>decide (cR cU v w<0)&&subL v w)=true:=List.any_eq_true.2 ⟨v,least_mem hv,by rw [h,Bool.and_true];exact decide_eq_true h1⟩
 rw [this] at h2;cases h2
theorem sub_anti {v w:Way} (hv:StrC cU v) (hw:StrC cU w) (h1:subL v w=true) (h2:subL w v=true):v=w :=
 str_unique cU_ord hv hw fun x=>⟨subL_iff.1 h1 x,subL_iff.1 h2 x⟩
theorem can_ne {c:Cat} {e:Ex} (h:leafU c e=[]):canS c e≠[]:=by
 obtain ⟨⟨m,hm⟩,_⟩:=unk_leaf h
 cases hw:e.wth==[] with
 | false =>
   unfold leafU at h
   have h2:=(List.append_eq_nil_iff.1 h).2
   rw [hw] at h2
   simp only [cond_false] at h2
   intro hc
   rw [hc] at h2
   cases hx:(xIx c e.wth).isSome<;>rw [hx] at h2<;>cases h2
 | true =>
   have hlt:=lIx_lt hm
   have hr:(rAt c.licences m)∈c.licences:=by rw [←rAt_get hlt];exact List.getElem_mem hlt
   have hp:pick c e (rAt c.licences m)=some ⟨(rAt c.licences m).name,e.wth⟩:=by
    have h1:lGet c e.name=rAt c.licences m:=by unfold lGet;rw [hm]
    have h3:(e.wth != [])=false:=by rw [bne,hw];rfl
    unfold pick
    rw [h1,h3,bne_self_eq_false];rfl
   unfold canS
   rw [hm]
   exact fun hn=>by
    have:(⟨(rAt c.licences m).name,e.wth⟩:Gt.Use)∈c.licences.filterMap (Pe.Tryz.pick c e):=List.mem_filterMap.2 ⟨_,hr,hp⟩
    have hn:c.licences.filterMap (Pe.Tryz.pick c e)=[]:=hn
    rw [hn] at this;cases this
theorem bnd_ne {l W:List Way} (hl:∀w∈l,StrC cU w) (hb:(bndS l).map (leastC cU)=some W) (h:l≠[]):W≠[]:=by
 obtain ⟨w,hw⟩:=List.exists_mem_of_ne_nil l h
 have h1:perm l w=true:=List.any_eq_true.2 ⟨w,hw,subL_refl w⟩
 rw [←bnd_map_perm hl hb] at h1
 rintro rfl
 cases h1
theorem prod_ne {a b:List Way} (ha:a≠[]) (hb:b≠[]):prodS a b≠[]:=by
 obtain ⟨v,hv⟩:=List.exists_mem_of_ne_nil a ha
 obtain ⟨w,hw⟩:=List.exists_mem_of_ne_nil b hb
 exact List.ne_nil_of_mem (List.mem_flatMap.2 ⟨v,hv,List.mem_map.2 ⟨w,hw,rfl⟩⟩)
theorem kids_ne {e:Ex} (h:fault e=0) (hk:¬e.kind=1):e.kids≠[]:=by
 obtain ⟨h1,_⟩:=fault_zero h
 intro h2
 cases e with
 | mk kind name later wth kids =>
   simp only [LicSpec.one] at h1
   have h2:kids=[]:=h2
   have hk:¬kind=1:=hk
   subst h2
   split at h1
   ·cases h1
   ·simp at h1
mutual
theorem ways_ne (c:Cat):∀(e:Ex) (W:List Way),waysS c e=some W→unkS c e=[]→fault e=0→W≠[]
 | .mk kind name later wth kids,W,h,hu,hf=>by
   have hkn:=fun h1=>kids_ne (e:= .mk kind name later wth kids) hf h1
   have hfk:=(fault_zero hf).2
   simp only [waysS] at h
   rw [unkS_eq] at hu
   simp only at hu
   split at h
   ·rename_i hk
    rw [if_neg (by simp [hk])] at hu
    refine bnd_ne (fun w hw=> ?_) h (fun hn=>can_ne hu (List.map_eq_nil_iff.1 hn))
    obtain ⟨u,_,rfl⟩:=List.mem_map.1 hw
    exact List.pairwise_singleton _ _
   ·rename_i hk
    rw [if_pos hk] at hu
    split at h
    ·obtain ⟨l,h1,h2⟩:=Option.bind_eq_some_iff.1 h
     exact bnd_ne (waysOr_good c kids l h1) h2 (waysOr_ne c kids l h1 hu hfk (hkn hk))
    ·obtain ⟨l,h1,h2⟩:=Option.bind_eq_some_iff.1 h
     exact bnd_ne (and_good c kids [[]] l good_nil h1).each h2 (waysAnd_ne c kids [[]] l (by simp) h1 hu hfk)
theorem waysOr_ne (c:Cat):∀(l:List Ex) (W:List Way),waysOr c l=some W→unkL c l=[]→faultL l=0→l≠[]→W≠[]
 | [],W,h,_,_,hn=>absurd rfl hn
 | k::r,W,h,hu,hf,_=>by
   simp only [waysOr] at h
   simp only [unkL] at hu
   obtain ⟨u1,u2⟩:=List.append_eq_nil_iff.1 hu
   obtain ⟨m,h1,h2⟩:=Option.bind_eq_some_iff.1 h
   obtain ⟨l,h3,rfl⟩:=Option.map_eq_some_iff.1 h2
   have:=ways_ne c k m h1 u1 (faultL_mem hf List.mem_cons_self)
   intro hn
   exact this (List.append_eq_nil_iff.1 hn).1
theorem waysAnd_ne (c:Cat):∀(l:List Ex) (a W:List Way),a≠[]→waysAnd c l a=some W→unkL c l=[]→faultL l=0→W≠[]
 | [],a,W,ha,h,_,_=>by simp only [waysAnd] at h;cases h;exact ha
 | k::r,a,W,ha,h,hu,hf=>by
   simp only [waysAnd] at h
   simp only [unkL] at hu
   obtain ⟨u1,u2⟩:=List.append_eq_nil_iff.1 hu
   obtain ⟨m,h1,h2⟩:=Option.bind_eq_some_iff.1 h
   obtain ⟨l',h3,h4⟩:=Option.bind_eq_some_iff.1 h2
   have hp:=prod_ne ha (ways_ne c k m h1 u1 (faultL_mem hf List.mem_cons_self))
   refine waysAnd_ne c r l' W (fun hn=> ?_) h4 u2 (faultL_of fun q hq=>faultL_mem hf (List.mem_cons_of_mem _ hq))
   obtain ⟨w,hw⟩:=List.exists_mem_of_ne_nil _ hp
   have:=((bnd_good prod_str h3).2 w).2 hw
   rw [hn] at this;cases this
end
theorem wOf_ne {c:Cat} {e:Ex} (h:(wOf c e).2.1=0):(wOf c e).1≠[]:=by
 obtain ⟨W,_,h2,h3,h4,h5⟩:=wOf_ok h
 rw [h5]
 exact ways_ne c e W h4 h3 (chk_zero h2).2.2
theorem wOf_anti {c:Cat} {e:Ex} {v w:Way} (hv:v∈(wOf c e).1) (hw:w∈(wOf c e).1) (h:subL v w=true):v=w:=by
 have h0:(wOf c e).2.1=0:=Classical.byContradiction fun h=>by rw [wOf_err h] at hw;cases hw
 obtain ⟨W,_,_,_,h4,h5⟩:=wOf_ok h0
 obtain ⟨s,gs,hs⟩:=ways_least c e h4
 rw [h5,hs] at hv hw
 exact least_anti gs hv hw h
theorem sub_erase {w:Way} (k:Nat):subL (w.eraseIdx k) w=true:=subL_iff.2 fun _ h=>(List.eraseIdx_sublist w k).subset h
theorem wOf_less {c:Cat} {e:Ex} {w:Way} (hw:w∈(wOf c e).1) {k:Nat} (hk:k<w.length):perm (wOf c e).1 (w.eraseIdx k)=false:=by
 cases hp:perm (wOf c e).1 (w.eraseIdx k) with
 | false=>rfl
 | true =>
   obtain ⟨v,hv,h1⟩:=List.any_eq_true.1 hp
   have h2:=wOf_anti hv hw (subL_trans h1 (sub_erase k))
   subst h2
   have hs:=(wOf_good (c:=c) (e:=e)).each v hw
   have h3:=congrArg List.length (sub_anti hs (hs.sublist (List.eraseIdx_sublist v k)) h1 (sub_erase k))
   rw [List.length_eraseIdx,if_pos hk] at h3
   omega
end Pe.Tryz
