/- The laws of BothAndEither and WeakerIsKept in plain. -/
import Derived.Test.YteimbekcnkogoaaGreatDoorLizH
import Derived.Test.YteimbekcnkogoaaGreatDoorLizJ
set_option maxRecDepth 100000
namespace Pe.Tryz
open Go Go.Proofs Pe LicSpec
theorem wOf_ok {c:Cat} {e:Ex} (h:(wOf c e).2.1=0):∃W,catF c=0∧chk e=0∧unkS c e=[]∧waysS c e=some W∧(wOf c e).1=W:=by
 unfold wOf at h ⊢
 cases h1:catF c != 0 with
 | true=>rw [h1] at h;have h:catF c=0:=h;rw [h] at h1;cases h1
 | false =>
   rw [h1] at h
   simp only [cond_false] at h ⊢
   cases h2:chk e != 0 with
   | true=>rw [h2] at h;have h:chk e=0:=h;rw [h] at h2;cases h2
   | false =>
     rw [h2] at h
     simp only [cond_false] at h ⊢
     by_cases hu:unkS c e=[]
     ·rw [if_neg (by simp [hu])] at h ⊢
      cases hw:waysS c e with
      | none=>rw [hw] at h;cases h
      | some W=>exact ⟨W,bne_false_eq h1,bne_false_eq h2,hu,rfl,rfl⟩
     ·rw [if_pos hu] at h;cases h
theorem permF_ok {c:Cat} {e:Ex} {l:Way} (h:(permF c e l).2.1=0):(wOf c e).2.1=0∧usesF c l=0∧(permF c e l).1=perm (wOf c e).1 l:=by
 unfold permF at h ⊢
 cases h1:(wOf c e).2.1 != 0 with
 | true=>rw [h1] at h;have h:(wOf c e).2.1=0:=h;rw [h] at h1;cases h1
 | false =>
   rw [h1] at h
   simp only [cond_false] at h ⊢
   cases h2:usesF c l != 0 with
   | true=>rw [h2] at h;have h:usesF c l=0:=h;rw [h] at h2;cases h2
   | false=>exact ⟨bne_false_eq h1,bne_false_eq h2,rfl⟩
theorem weakF_ok {c:Cat} {a b:Ex} (h:(weakF c a b).2.1=0):(wOf c a).2.1=0∧(wOf c b).2.1=0∧(weakF c a b).1=weak (wOf c a).1 (wOf c b).1:=by
 unfold weakF at h ⊢
 cases h1:(wOf c a).2.1 != 0 with
 | true=>rw [h1] at h;have h:(wOf c a).2.1=0:=h;rw [h] at h1;cases h1
 | false =>
   rw [h1] at h
   simp only [cond_false] at h ⊢
   cases h2:(wOf c b).2.1 != 0 with
   | true=>rw [h2] at h;have h:(wOf c b).2.1=0:=h;rw [h] at h2;cases h2
   | false=>exact ⟨bne_false_eq h1,bne_false_eq h2,rfl⟩
theorem weakF_of {c:Cat} {a b:Ex} (h:(wOf c a).2.1=0) (hb:(wOf c b).2.1=0):weakF c a b=(weak (wOf c a).1 (wOf c b).1,0,()):=by
 unfold weakF;rw [h,hb];rfl
theorem two_ok {c:Cat} {x y:Ex} {l:Way} {kind:Int} (hk:kind=2∨kind=3) (hx:(permF c x l).2.1=0) (hy:(permF c y l).2.1=0) :
  (permF c (.mk kind [] false [] [x,y]) l).2.1=3∨((permF c (.mk kind [] false [] [x,y]) l).2.1=0∧(permF c (.mk kind [] false [] [x,y]) l).1=(if kind=2 then ((permF c x l).1&&(permF c y l).1) else ((permF c x l).1||(permF c y l).1))):=by
 obtain ⟨x1,x2,x3⟩:=permF_ok hx
 obtain ⟨y1,y2,y3⟩:=permF_ok hy
 obtain ⟨X,cat,cx,ux,wx,ex⟩:=wOf_ok x1
 obtain ⟨Y,_,cy,uy,wy,ey⟩:=wOf_ok y1
 rw [x3,y3,ex,ey]
 have fx:=(chk_zero cx).2.2
 have fy:=(chk_zero cy).2.2
 have hf:fault (.mk kind [] false [] [x,y])=0:=fault_row hk (by simp) (fun k hk=>by
  rcases List.mem_cons.1 hk with rfl | hk
  ·exact fx
  ·rw [List.mem_singleton] at hk;subst hk;exact fy)
 have hun:unkS c (.mk kind [] false [] [x,y])=[]:=by
  rw [unkS_eq,if_pos (by show kind≠1;omega)]
  simp only [unkL,ux,uy,List.append_nil]
 have e0:(catF c != 0)=false:=by simp [cat]
 by_cases hc:chk (.mk kind [] false [] [x,y])=0
 ·have e1:(chk (.mk kind [] false [] [x,y]) != 0)=false:=by simp [hc]
  cases hw:waysS c (.mk kind [] false [] [x,y]) with
  | none =>
    left
    have:wOf c (.mk kind [] false [] [x,y])=([],3,()):=by
     unfold wOf;rw [e0,e1,hun,hw];rfl
    unfold permF;rw [this];rfl
  | some W =>
    right
    have hwo:wOf c (.mk kind [] false [] [x,y])=(W,0,()):=by
     unfold wOf;rw [e0,e1,hun,hw];rfl
    have hp:permF c (.mk kind [] false [] [x,y]) l=(perm W l,0,()):=by
     unfold permF;rw [hwo,x2];rfl
    rw [hp]
    refine ⟨rfl,?_⟩
    rcases hk with rfl | rfl
    ·rw [if_pos rfl];exact and_perm wx wy hw l
    ·rw [if_neg (by decide)];exact or_perm wx wy hw l
 ·left
  have hc3:chk (.mk kind [] false [] [x,y])=3:=by
   unfold chk at hc ⊢
   split
   ·rfl
   ·rename_i h;rw [if_neg h] at hc;exact absurd hf hc
  have:wOf c (.mk kind [] false [] [x,y])=([],3,()):=by
   unfold wOf;rw [e0,hc3];rfl
  unfold permF;rw [this];rfl
theorem small_two {x y:Ex} (hx:Small x) (hy:Small y) (kind:Int):Small (.mk kind [] false [] [x,y]):=by
 simp only [Small,SmallL]
 exact ⟨by simp,by simp,by simp,hx,hy,trivial⟩
theorem lev_two (x y:Ex) (kind:Int):(Ex.mk kind [] false [] [x,y]).lev=max x.lev y.lev+1:=by
 simp only [Ex.lev,levL];omega
theorem L6 {n:Nat} {c:Cat} (hc:SmallC c) {x y:Ex} (hx:Small x) (hbx:x.lev≤1500000) (hy:Small y) (hby:y.lev≤1500000) (l:Way) (hn:1500300≤n):m6 (orcN n) c x y l=some (true,()):=by
 obtain ⟨n,rfl⟩:∃k,n=k+1:=⟨n - 1,by omega⟩
 unfold m6
 simp only [Ex.eta]
 rw [q32,L32 hc hx (by omega) l,q32,L32 hc hy (by omega) l,q32,L32 hc (small_two hx hy 2) (by rw [lev_two];omega) l,q32,L32 hc (small_two hx hy 3) (by rw [lev_two];omega) l]
 have h2:=two_ok (c:=c) (x:=x) (y:=y) (l:=l) (kind:=2) (.inl rfl)
 have h3:=two_ok (c:=c) (x:=x) (y:=y) (l:=l) (kind:=3) (.inr rfl)
 rw [if_pos rfl] at h2
 rw [if_neg (by decide)] at h3
 generalize permF c x l=p1 at h2 h3
 generalize permF c y l=p2 at h2 h3
 generalize permF c (.mk 2 [] false [] [x,y]) l=p3 at h2
 generalize permF c (.mk 3 [] false [] [x,y]) l=p4 at h3
 simp only [ob_some_eq,G22 (by omega:231≤n+1)]
 cases he:p1.2.1 != 0 with
 | true=>simp only [br_true,ob_some_eq]
 | false =>
   cases hf:p2.2.1 != 0 with
   | true=>simp only [br_false,br_true,ob_some_eq]
   | false =>
     have h2:=h2 (bne_false_eq he) (bne_false_eq hf)
     have h3:=h3 (bne_false_eq he) (bne_false_eq hf)
     simp only [br_false,ob_some_eq]
     have e3:(ob (br (p3.2.1==3) (some true) (ob (br (p3.2.1==0) (ob (br p1.1 (some p2.1) (some false)) fun b7=>(some (p3.1==b7))) (some false)) fun b8=>(some b8))) fun b9=>(some b9))=some true:=by
      rcases h2 with h | ⟨h,h'⟩
      ·rw [h];rfl
      ·rw [h,h']
       simp only [show ((0:Int)==3)=false from rfl,show ((0:Int)==0)=true from rfl,br_false,br_true]
       cases p1.1<;>cases p2.1<;>rfl
     have e4:(ob (br (p4.2.1==3) (some true) (ob (br (p4.2.1==0) (ob (br p1.1 (some true) (some p2.1)) fun b10=>(some (p4.1==b10))) (some false)) fun b11=>(some b11))) fun b12=>(some b12))=some true:=by
      rcases h3 with h | ⟨h,h'⟩
      ·rw [h];rfl
      ·rw [h,h']
       simp only [show ((0:Int)==3)=false from rfl,show ((0:Int)==0)=true from rfl,br_false,br_true]
       cases p1.1<;>cases p2.1<;>rfl
     have hob:∀{α β:Type} (x:Option α) (f:α→Option β),ob x f=ob (ob x fun b=>some b) f:=fun x f=>by cases x<;>rfl
     rw [hob,e3,ob_some_eq,br_true,e4]
     simp only [ob_some_eq,br_true]
theorem L7 {n:Nat} {c:Cat} (hc:SmallC c) {x y z:Ex} (hx:Small x) (hbx:x.lev≤1500000) (hy:Small y) (hby:y.lev≤1500000) (hz:Small z) (hbz:z.lev≤1500000) (l:Way) (hn:1500300≤n):m7 (orcN n) c x y z l=some (true,()):=by
 obtain ⟨n,rfl⟩:∃k,n=k+1:=⟨n - 1,by omega⟩
 unfold m7
 simp only [Ex.eta]
 rw [q30,L30 hc hx hy (by omega) (by omega),q30,L30 hc hy hz (by omega) (by omega),q32,L32 hc hx (by omega) l,q32,L32 hc hy (by omega) l,q30,L30 hc hx hz (by omega) (by omega)]
 simp only [ob_some_eq,G22 (by omega:231≤n+1)]
 cases he:(weakF c x y).2.1 != 0 with
 | true=>simp only [br_true,ob_some_eq]
 | false =>
   cases hf:(weakF c y z).2.1 != 0 with
   | true=>simp only [br_false,br_true,ob_some_eq]
   | false =>
     obtain ⟨a1,a2,a3⟩:=weakF_ok (bne_false_eq he)
     obtain ⟨b1,b2,b3⟩:=weakF_ok (bne_false_eq hf)
     have hxz:=weakF_of a1 b2
     simp only [br_false,ob_some_eq]
     rw [hxz,a3,b3]
     have k1:(permF c x l).2.1=0→(permF c y l).2.1=0→weak (wOf c x).1 (wOf c y).1=true→(permF c y l).1=true→(permF c x l).1=true:=by
      intro q1 q2 q3 q4
      obtain ⟨_,_,r1⟩:=permF_ok q1
      obtain ⟨_,_,r2⟩:=permF_ok q2
      rw [r2] at q4
      rw [r1]
      exact weak_perm q3 q4
     have k2:weak (wOf c x).1 (wOf c y).1=true→weak (wOf c y).1 (wOf c z).1=true→weak (wOf c x).1 (wOf c z).1=true:=weak_trans
     generalize permF c x l=p1 at k1
     generalize permF c y l=p2 at k1
     generalize weak (wOf c x).1 (wOf c y).1=w1 at k1 k2
     generalize weak (wOf c y).1 (wOf c z).1=w2 at k2
     generalize weak (wOf c x).1 (wOf c z).1=w3 at k2
     have hfin:(ob (br ((0:Int)==0) (ob (br (!w1) (some true) (some (!w2))) fun b12=>(ob (br b12 (some true) (some w3)) fun b13=>(some b13))) (some false)) fun b14=>(ob (br b14 (some true) (some false)) fun b16=>(some (b16,()))))=some (true,()):=by
      cases w1 with
      | false=>rfl
      | true =>
        cases w2 with
        | false=>rfl
        | true=>rw [k2 rfl rfl];rfl
     have hcond:(ob (br (p1.2.1==0) (some (p2.2.1==0)) (some false)) fun b7=>(ob (br b7 (some w1) (some false)) fun b8=>(ob (br b8 (some p2.1) (some false)) fun b9=>(ob (br b9 (some (!p1.1)) (some false)) fun b10=>some b10))))=some false:=by
      cases h1:(p1.2.1==0) with
      | false=>rfl
      | true =>
        cases h2:(p2.2.1==0) with
        | false=>rfl
        | true =>
          cases w1 with
          | false=>rfl
          | true =>
            cases h3:p2.1 with
            | false=>rfl
            | true=>rw [k1 (by simpa using h1) (by simpa using h2) rfl h3];rfl
     have hob:∀{F:Bool→Option (Bool×Unit)},(ob (br (p1.2.1==0) (some (p2.2.1==0)) (some false)) fun b7=>(ob (br b7 (some w1) (some false)) fun b8=>(ob (br b8 (some p2.1) (some false)) fun b9=>(ob (br b9 (some (!p1.1)) (some false)) F))))=F false:=by
      intro F
      have:(ob (br (p1.2.1==0) (some (p2.2.1==0)) (some false)) fun b7=>(ob (br b7 (some w1) (some false)) fun b8=>(ob (br b8 (some p2.1) (some false)) fun b9=>(ob (br b9 (some (!p1.1)) (some false)) F))))=ob (ob (br (p1.2.1==0) (some (p2.2.1==0)) (some false)) fun b7=>(ob (br b7 (some w1) (some false)) fun b8=>(ob (br b8 (some p2.1) (some false)) fun b9=>(ob (br b9 (some (!p1.1)) (some false)) fun b10=>some b10)))) F:=by
       cases p1.2.1==0<;>cases p2.2.1==0<;>cases w1<;>cases p2.1<;>cases p1.1<;>rfl
      rw [this,hcond];rfl
     rw [hob,br_false]
     exact hfin
end Pe.Tryz
