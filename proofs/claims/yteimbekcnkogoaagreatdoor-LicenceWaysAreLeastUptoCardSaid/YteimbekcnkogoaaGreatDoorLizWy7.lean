/- The law that ways are least, in plain. -/
import Derived.Test.YteimbekcnkogoaaGreatDoorLizWy6
set_option maxRecDepth 100000
namespace Pe.Tryz
open Go Go.Proofs Pe LicSpec
theorem q38l (n:Nat) (l:Way): @Eq (Option ((Way×Unit)⊕Unit)) ((orcN (n+1)).l 38 sg38 ((l,()):Way×Unit)) (bif Nat.ble l.length 1000000 then some (.inl (l,())) else none):=by kernel_rfl
theorem G38l (n:Nat) {l:Way} (hl:l.length≤1000000): @Eq (Option ((Way×Unit)⊕Unit)) ((orcN (n+1)).l 38 sg38 ((l,()):Way×Unit)) (some (.inl (l,()))):=by
 rw [q38l]
 have:Nat.ble l.length 1000000=true:=by rw [Nat.ble_eq];exact hl
 rw [this];rfl
theorem q37l (n:Nat) (l:Way) (k j:Int): @Eq (Option ((Way×Unit)⊕Unit)) ((orcN (n+1)).l 37 sg37 ((l,k,j,()):Way×Int×Int×Unit)) (delSpec l k j):=by kernel_rfl
theorem G37l (n:Nat) {l:Way} {k:Nat} (hk:k<l.length): @Eq (Option ((Way×Unit)⊕Unit)) ((orcN (n+1)).l 37 sg37 ((l,(k:Int),((k+1:Nat):Int),()):Way×Int×Int×Unit)) (some (.inl (l.eraseIdx k,()))):=by
 rw [q37l]
 unfold delSpec
 have h1:decide ((0:Int)≤(k:Int))=true:=decide_eq_true (by omega)
 have h2:decide (((k+1:Nat):Int)=(k:Int)+1)=true:=decide_eq_true (by omega)
 have h3:Nat.blt (Int.toNat (k:Int)) l.length=true:=by rw [Nat.blt_eq];exact hk
 rw [h1,h2,h3];rfl
theorem L33 {n:Nat} {c:Cat} (hc:SmallC c) {e:Ex} (hs:Small e) (hn:e.lev+70≤n):m33 (orcN n) c e=some (wOf c e):=by
 obtain ⟨n,rfl⟩:∃k,n=k+1:=⟨n - 1,by omega⟩
 have hlim:lim=4294967296:=rfl
 unfold m33
 rw [Ex.eta,q70,L70 hc hs (by omega)]
 simp only [ob_some_eq]
 have g:=wOf_good (c:=c) (e:=e)
 by_cases h0:(wOf c e).2.1=0
 ·have e0:((wOf c e).2.1 != 0)=false:=by simp [h0]
  have heq:wOf c e=((wOf c e).1,0,()):=by
   rw [←h0]
  rw [e0,br_false]
  have hnum:=g.num
  rw [loop_col (wOf c e).1 some (fun l=> .inl (l,())) ?h1 ?h2]
  case h1 =>
   intro k hk a ha
   have hlen:=g.len _ (List.getElem_mem hk)
   have hg:=G38l n (l:=(wOf c e).1[k]) (by omega)
   simp only [len_lt,hk,decide_true,br_true,at?_get hk,ob_some_eq,wrap_succ hk (by omega:(wOf c e).1.length≤9223372036854775807)]
   refine (congrArg (fun z=>oc (α:=Way×Unit) (β:=Unit) z _ _) hg).trans ?_
   rw [oc_inl,cat?_ok (by simp;omega)]
   rfl
  case h2=>intro a;simp [len,br_false]
  rw [cutM_inl,List.filterMap_some,heq]
 ·have e0:((wOf c e).2.1 != 0)=true:=by simpa using h0
  rw [e0,br_true]
  exact congrArg some (wOf_err h0).symm
theorem L39 {n:Nat} (hn:2≤n) {a b:Way} (ha:a.length≤1000000000) (hb:b.length≤1000000000):m39 (orcN n) a b=some (subL a b,()):=by
 obtain ⟨n,rfl⟩:∃k,n=k+1:=⟨n - 1,by omega⟩
 unfold m39
 rw [loop_find a (fun u=> !hasU b u) (fun k=> .inr ((k:Int),())) (.inl ()) ?h1 ?h2]
 case h1 =>
  intro k hk
  simp only [len_lt,hk,decide_true,br_true,at?_get hk,ob_some_eq,q83,L83 (by omega:1≤n) hb,wrap_succ hk (by omega:a.length≤9223372036854775807)]
  cases hasU b a[k]<;>rfl
 case h2=>simp [len,br_false]
 have hq:subL a b= !(a.findIdx? fun s=> !hasU b s).isSome:=by
  rw [subL_has,findIdx_any,←List.not_all_eq_any_not,Bool.not_not]
 rw [hq]
 cases a.findIdx? (fun s=> !hasU b s) with
 | none=>rfl
 | some k =>
   have:((0:Int)≤(k:Int)):=by omega
   simp [cutM_inr,ob_some_eq,this]
theorem permF_way {c:Cat} {e:Ex} (h0:(wOf c e).2.1=0) {w:Way} (hw:w∈(wOf c e).1):permF c e w=(true,0,()):=by
 obtain ⟨_,h1,_⟩:=wOf_ok h0
 have h2:=wOf_list w hw
 have h3:usesF c w=0:=by
  unfold listF at h2
  rw [h1] at h2;exact h2
 rw [permF_of h0 h3]
 have:perm (wOf c e).1 w=true:=List.any_eq_true.2 ⟨w,hw,subL_refl w⟩
 rw [this]
theorem permF_less {c:Cat} {e:Ex} {w:Way} (hw:w∈(wOf c e).1) {k:Nat} (hk:k<w.length):(permF c e (w.eraseIdx k)).1=false:=by
 unfold permF
 cases (wOf c e).2.1 != 0 with
 | true=>rfl
 | false =>
   cases usesF c (w.eraseIdx k) != 0 with
   | true=>rfl
   | false=>exact wOf_less hw hk
theorem str_nodup {l:List Way} (h:StrC (cR cU) l):l.Nodup:=List.Pairwise.imp (fun {a b} h1=>by
 rintro rfl
 exact cW_ord.irr _ h1) h
theorem L9 {n:Nat} {c:Cat} (hc:SmallC c) {x:Ex} (hx:Small x) (_:x.lev≤1500000) (hn:1500300≤n):m9 (orcN n) c x=some (true,()):=by
 obtain ⟨n,rfl⟩:∃k,n=k+1:=⟨n - 1,by omega⟩
 unfold m9
 simp only [Ex.eta]
 rw [q33,L33 hc hx (by omega)]
 simp only [ob_some_eq]
 have G22':=G22 (by omega:231≤n+1)
 by_cases h0:(wOf c x).2.1=0
 ·have e0:((wOf c x).2.1 != 0)=false:=by simp [h0]
  have g:=wOf_good (c:=c) (e:=x)
  have hnum:=g.num
  rw [e0,br_false]
  rw [loop_all (wOf c x).1 (fun _=>true) (false,()) ?h1 ?h2]
  case h2=>simp [len,br_false]
  case h1 =>
   intro i hi
   have hmem:=List.getElem_mem hi
   have hlen:=g.len _ hmem
   have hp:=permF_way h0 hmem
   simp only [len_lt,hi,decide_true,br_true,at?_get hi,ob_some_eq,q32,L32 hc hx (by omega:x.lev+70≤n),wrap_succ hi (by omega:(wOf c x).1.length≤9223372036854775807),hp,Bool.not_true,br_false,bne_self_eq_false]
   rw [loop_all ((wOf c x).1[i]) (fun _=>true) (.inr (.inr (.inr (false,())))) ?a1 ?a2]
   case a2=>simp [len,br_false]
   case a1 =>
    intro k hk
    have hq:=permF_less (c:=c) (e:=x) hmem hk
    simp only [len_lt,hk,decide_true,br_true,wrap_succ hk (by omega:((wOf c x).1[i]).length≤9223372036854775807),G38l n (by omega:((wOf c x).1[i]).length≤1000000),oc_inl,G37l n hk,same_self,hq,cutM_inl,br_false]
    rfl
   have h3:((wOf c x).1[i]).all (fun _=>true)=true:=by simp
   rw [if_pos h3,cutM_inl]
   rw [loop_all (wOf c x).1 (fun _=>true) (.inr (.inr (false,()))) ?b1 ?b2]
   case b2=>simp [len,br_false]
   case b1 =>
    intro k hk
    have hlen2:=g.len _ (List.getElem_mem hk)
    simp only [len_lt,hk,decide_true,br_true,at?_get hk,ob_some_eq,q39,L39 (by omega:2≤n) (by omega:((wOf c x).1[k]).length≤1000000000) (by omega:((wOf c x).1[i]).length≤1000000000),wrap_succ hk (by omega:(wOf c x).1.length≤9223372036854775807)]
    by_cases hik:i=k
    ·subst hik
     have:((i:Int) != (i:Int))=false:=by simp
     rw [this,br_false];rfl
    ·have h4:((i:Int) != (k:Int))=true:=by simp;omega
     have h5:subL ((wOf c x).1[k]) ((wOf c x).1[i])=false:=by
      cases h6:subL ((wOf c x).1[k]) ((wOf c x).1[i]) with
      | false=>rfl
      | true =>
        have h7:=wOf_anti (List.getElem_mem hk) (List.getElem_mem hi) h6
        rcases Nat.lt_or_gt_of_ne hik with h8 | h8
        ·exact absurd h7.symm (List.pairwise_iff_getElem.1 (str_nodup g.str) i k hi hk h8)
        ·exact absurd h7 (List.pairwise_iff_getElem.1 (str_nodup g.str) k i hk hi h8)
     rw [h4,br_true,h5];rfl
   have h4:((wOf c x).1).all (fun _=>true)=true:=by simp
   rw [if_pos h4,cutM_inl];rfl
  have h4:((wOf c x).1).all (fun _=>true)=true:=by simp
  have h5:(0:Int)<len (wOf c x).1:=by
   have:=List.length_pos_iff.2 (wOf_ne h0)
   unfold len;omega
  rw [if_pos h4,cutM_inl,decide_eq_true h5,br_true,G22'];rfl
 ·have e0:((wOf c x).2.1 != 0)=true:=by simpa using h0
  rw [e0,br_true,G22'];rfl
end Pe.Tryz
