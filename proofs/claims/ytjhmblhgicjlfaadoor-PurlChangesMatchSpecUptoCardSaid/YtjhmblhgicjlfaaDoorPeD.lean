/- PROVED HERE: a part of the seat's proofs; see the text that holds the claim's theorem. -/
import Derived.Laws.Tables
import Derived.Test.YtjhmblhgicjlfaaDoorPeC
section
/- Code: what the pure reading says of it holds. -/
namespace Pe
open Go Go.RowKit
variable {S:Nat→Type}
theorem wp_loop_ghost {P:Program} {c:Code} {Q:Exit→Act→World→Prop} {σ:Type} (I:σ→Act→World→Prop) (m:σ→Nat)
  (round:∀x a w,I x a w→c.wp P (Exit.then (fun a' w'=>∃y,I y a' w'∧m y<m x) Q) a w):∀x a w,I x a w→(Code.loop c).wp P Q a w:=by
 intro x a w hI b k cs
 have key:∀n x a w,m x=n→I x a w →
   ∃e a' w',Q e a' w'∧Arrives P (lone (b.at a (.code c:: .inLoop c::k)) cs w) b k cs e a' w':=by
  intro n
  induction n using Nat.strongRecOn with
  | _ n ih =>
    intro x a w hn hI
    obtain ⟨e,a₁,w₁,hq,harr⟩:=round x a w hI b (.inLoop c::k) cs
    cases e with
    | normal =>
      obtain ⟨y,hI₁,hlt⟩:=hq
      obtain ⟨e₂,a₂,w₂,hq₂,harr₂⟩:=ih (m y) (hn▸hlt) y a₁ w₁ rfl hI₁
      exact ⟨e₂,a₂,w₂,hq₂,.of_steps (Steps.trans harr (.one step_inLoop)) harr₂⟩
    | exit id=>exact ⟨_,a₁,w₁,hq,.pass (x:= .inLoop c) rfl (fun _ _=> .inl (by simp)) harr⟩
    | goto l=>exact ⟨_,a₁,w₁,hq,.pass (x:= .inLoop c) rfl (fun _ _=> .inl (by simp)) harr⟩
    | ret=>exact ⟨_,a₁,w₁,hq,.pass (x:= .inLoop c) rfl (fun _ _=> .inl (by simp)) harr⟩
    | panic ch=>exact ⟨_,a₁,w₁,hq,.pass (x:= .inLoop c) rfl (fun _ _=> .inl (by simp)) harr⟩
    | outgrown=>exact ⟨_,a₁,w₁,hq,.pass (x:= .inLoop c) rfl (fun _ _=> .inl (by simp)) harr⟩
 obtain ⟨e,a',w',hq,harr⟩:=key _ x a w rfl hI
 exact ⟨e,a',w',hq,.of_steps (.one step_loop) harr⟩
theorem loopM_some {σ R:Type} {f:σ→Option (σ⊕R)} {x:σ} {r:R} (h:loopM f x=some r):∃n,iter f n x=some r:=by
 unfold loopM at h
 split at h
 ·exact ⟨_,h⟩
 ·cases h
theorem cutM_some {σ R:Type} {x:Option (σ⊕R)} {f:σ→Option R} {r:R} (h:cutM x f=some r):∃z,x=some z∧((∃t,z= .inl t∧f t=some r)∨z= .inr r):=by
 unfold cutM at h
 split at h
 ·exact ⟨_,rfl,.inl ⟨_,rfl,h⟩⟩
 ·cases h;exact ⟨_,rfl,.inr rfl⟩
 ·cases h
theorem map_some' {α β:Type} {x:Option α} {f:α→β} {r:β} (h:x.map f=some r):∃a,x=some a∧f a=r:=by
 cases x with
 | none=>cases h
 | some a=>simp at h;exact ⟨a,rfl,h⟩
theorem CPres.calm_left {b b':Box S} (h:CPres b b'):CPres b.calm b':=by
 induction b generalizing b' with
 | var T cs =>
   cases b'<;>simp only [CPres] at h
   simp only [CPres,Box.calm]
   refine ⟨h.1,by simpa using h.2.1,fun j p hp hr hj=> ?_⟩
   rw [List.getElem?_map] at hp
   cases hc:cs[j]? with
   | none=>rw [hc] at hp;cases hp
   | some q =>
     rw [hc] at hp
     simp only [Option.map_some,Option.some.injEq] at hp
     unfold calmP at hp
     cases hq:q.rowless with
     | true=>rw [hq] at hp;simp at hp;subst hp;exact h.2.2 j q hc hr hj
     | false=>rw [hq] at hp;simp at hp;subst hp;simp [isJunk] at hj
 | lk b ih=>cases b'<;>simp only [CPres] at h;simp only [CPres,Box.calm];exact ih h
 | ro b ih=>cases b'<;>simp only [CPres] at h;simp only [CPres,Box.calm];exact ih h
 | own u T l=>exact h
 | wr u T l=>exact h
 | gone=>exact h
theorem CPres.of_lk {b b':Box S} (h:CPres (.lk b) b'):∃x,b'= .lk x∧CPres b x:=by
 cases b'<;>simp only [CPres] at h;exact ⟨_,rfl,h⟩
theorem CPres.of_ro {b b':Box S} (h:CPres (.ro b) b'):∃x,b'= .ro x∧CPres b x:=by
 cases b'<;>simp only [CPres] at h;exact ⟨_,rfl,h⟩
theorem CPres.of_var {T:TypeId} {cs:List (PV S)} {b':Box S} (h:CPres (.var T cs) b'):∃cs',b'= .var T cs'∧CellsP cs cs':=by
 cases b'<;>simp only [CPres] at h;obtain ⟨rfl,h⟩:=h;exact ⟨_,rfl,h⟩
theorem kept_of {c:Cut} {M bx':Bxs S} (h:PresB (lockFrom c.boxes 0 M) bx') {i:Nat} {b:Box S} (hi:getB M i=some b):Kept c i bx' b:=by
 have hl:getB (lockFrom c.boxes 0 M) i=some (lk1 c.boxes i b):=by rw [getB_lock,hi];simp
 cases b with
 | var T cs =>
   simp only [Kept]
   cases hc:(c.boxes.map (·.1)).contains i with
   | true =>
     simp only [lk1,hc,cond_true] at hl
     obtain ⟨cs',h1,h2⟩:=h.var i T cs hl
     exact .inl ⟨List.contains_iff_mem.1 hc,cs',h1,h2⟩
   | false =>
     simp only [lk1,hc,cond_false] at hl
     obtain ⟨b',h1,h2⟩:=h.box i _ hl rfl
     obtain ⟨x,rfl,h3⟩:=h2.of_lk
     refine .inr ⟨fun hm=> ?_,x,h1,?_⟩
     ·rw [List.contains_iff_mem.2 hm] at hc;cases hc
     ·exact CPres.calm_left h3
 | lk b =>
   obtain ⟨b',h1,h2⟩:=h.box i _ hl rfl
   obtain ⟨x,rfl,h3⟩:=h2.of_lk
   obtain ⟨y,rfl,h4⟩:=CPres.of_lk h3
   exact ⟨y,h1,h4.calm_left⟩
 | ro b =>
   obtain ⟨b',h1,h2⟩:=h.box i _ hl rfl
   obtain ⟨x,rfl,h3⟩:=h2.of_ro
   exact ⟨x,h1,h3.calm_left⟩
 | own=>trivial
 | wr=>trivial
 | gone =>
   obtain ⟨b',h1,h2⟩:=h.box i _ hl rfl
   exact ⟨b',h1,h2.fixed rfl⟩
theorem mkBoxes_out:∀(l:List (Nat×List CTy)) (ps:List (PV S)) (B:Bxs S) (i:Nat),i∉l.map (·.1)→getB (mkBoxes l ps B) i=getB B i
 | [],_,_,_,_=>rfl
 | (j,ts)::l,ps,B,i,h=>by
   simp only [List.map_cons,List.mem_cons,not_or] at h
   simp only [mkBoxes]
   rw [mkBoxes_out l _ _ i h.2]
   split
   ·exact getB_set_ne h.1
   ·rfl
theorem getB_append_left {bs:Bxs S}:∀{bx:Bxs S} {i:Nat},i<bx.length→getB (bx++bs) i=getB bx i
 | [],_,h=>by simp at h
 | _::_,0,_=>rfl
 | _::r,i+1,h=>by simpa [getB] using getB_append_left (bx:=r) (by simpa using h)
theorem kept_loop {c:Cut} {bx0 bx':Bxs S} {t:ElL S c.codes} (hp:PresB bx0 (mkBx c bx0 t)) (h:PresB (lockFrom c.boxes 0 (mkBx c bx0 t)) bx') {i:Nat} {b:Box S} (hi:getB bx0 i=some b):Kept c i bx' b:=by
 have hil:=getB_lt hi
 cases b with
 | var T cs =>
   by_cases hm:i∈c.boxes.map (·.1)
   ·obtain ⟨cs1,h1,h2⟩:=hp.var i T cs hi
    have:=kept_of h h1
    simp only [Kept] at this ⊢
    rcases this with ⟨g1,cs',g2,g3⟩ | ⟨g1,_⟩
    ·exact .inl ⟨g1,cs',g2,g3.trans h2⟩
    ·exact absurd hm g1
   ·have hcon:(c.boxes.map (·.1)).contains i=false:=by
     cases hx:(c.boxes.map (·.1)).contains i with
     | true=>exact absurd (List.contains_iff_mem.1 hx) hm
     | false=>rfl
    have h1:getB (mkBx c bx0 t) i=some (.var T (cs.map calmP)):=by
     unfold mkBx
     rw [getB_append_left (by rw [mkBoxes_length,blank_length,noRows_length];exact hil),mkBoxes_out _ _ _ _ hm,getB_blank,getB_noRows,hi]
     simp only [Option.map_some,nr1,Box.calm,bl1,Nat.zero_add,hcon,cond_false]
    have hl:getB (lockFrom c.boxes 0 (mkBx c bx0 t)) i=some (.lk (.var T (cs.map calmP))):=by
     rw [getB_lock,h1];simp only [Option.map_some,lk1,Nat.zero_add,hcon,cond_false]
    obtain ⟨b',g1,g2⟩:=h.box i _ hl rfl
    obtain ⟨x,rfl,g3⟩:=g2.of_lk
    exact .inr ⟨hm,x,g1,g3⟩
 | lk b =>
   obtain ⟨b1,h1,h2⟩:=hp.box i _ hi rfl
   obtain ⟨x,rfl,h3⟩:=h2.of_lk
   obtain ⟨b',g1,g2⟩:=h.box i (.lk (.lk x)) (by rw [getB_lock,h1];rfl) rfl
   obtain ⟨y,rfl,g3⟩:=g2.of_lk
   obtain ⟨z,rfl,g4⟩:=CPres.of_lk g3
   exact ⟨z,g1,(h3.trans g4).calm_left⟩
 | ro b =>
   obtain ⟨b1,h1,h2⟩:=hp.box i _ hi rfl
   obtain ⟨x,rfl,h3⟩:=h2.of_ro
   obtain ⟨b',g1,g2⟩:=h.box i (.ro x) (by rw [getB_lock,h1];rfl) rfl
   obtain ⟨y,rfl,g3⟩:=g2.of_ro
   exact ⟨y,g1,(h3.trans g3).calm_left⟩
 | own=>trivial
 | wr=>trivial
 | gone =>
   obtain ⟨b1,h1,h2⟩:=hp.box i _ hi rfl
   cases b1<;>simp only [CPres] at h2
   obtain ⟨b',g1,g2⟩:=h.box i .gone (by rw [getB_lock,h1];rfl) rfl
   exact ⟨b',g1,g2.fixed rfl⟩
theorem unlock_length:∀(n:Nat) (L bx:Bxs S),(unlock n L bx).length=bx.length
 | 0,_,_=>by simp [unlock]
 | n+1,[],bx=>by cases bx<;>simp [unlock]
 | n+1,l::L,[]=>by cases l<;>simp [unlock]
 | n+1,l::L,b::bs=>by cases l<;>cases b<;>simp [unlock,unlock_length n L bs]
theorem getB_unlock_lk:∀{n:Nat} {L bx:Bxs S} {i:Nat} {x b:Box S},i<n→getB L i=some (.lk x)→getB bx i=some (.lk b)→getB (unlock n L bx) i=some b
 | n+1,l::L,c::bs,0,x,b,_,h,k=>by simp [getB] at h k;subst h;subst k;rfl
 | n+1,l::L,c::bs,i+1,x,b,hn,h,k=>by
   have:=getB_unlock_lk (n:=n) (L:=L) (bx:=bs) (i:=i) (by omega) (by simpa [getB] using h) (by simpa [getB] using k)
   cases l<;>cases c<;>simpa [unlock,getB] using this
 | 0,_,_,_,_,_,h,_,_=>by omega
 | _+1,[],_,_,_,_,_,h,_=>by simp [getB] at h
 | _+1,_::_,[],_,_,_,_,_,k=>by simp [getB] at k
theorem getB_unlock_ne:∀{n:Nat} {L bx:Bxs S} {i:Nat} {l b:Box S},getB L i=some l→(∀x,l≠ .lk x)→getB bx i=some b→getB (unlock n L bx) i=some b
 | 0,_,_,_,_,_,_,_,k=>by simpa [unlock] using k
 | n+1,l0::L,c::bs,0,l,b,h,hl,k=>by
   simp [getB] at h k;subst h;subst k
   cases l0<;>first | exact absurd rfl (hl _) | (cases c<;>rfl)
 | n+1,l0::L,c::bs,i+1,l,b,h,hl,k=>by
   have:=getB_unlock_ne (n:=n) (L:=L) (bx:=bs) (i:=i) (by simpa [getB] using h) hl (by simpa [getB] using k)
   cases l0<;>cases c<;>simpa [unlock,getB] using this
 | _+1,[],_,_,_,_,h,_,_=>by simp [getB] at h
 | _+1,_::_,[],_,_,_,_,_,k=>by simp [getB] at k
theorem PresB.unlock {c:List (Nat×List CTy)} {M bx':Bxs S} (h:PresB (lockFrom c 0 M) bx'):PresB M (unlock M.length (lockFrom c 0 M) bx'):=by
 refine ⟨by rw [unlock_length];have:=h.len;rw [lock_length] at this;exact this,fun i b hi hf=> ?_,fun i T cs hi=> ?_⟩
 ·have hl:getB (lockFrom c 0 M) i=some (lk1 c i b):=by rw [getB_lock,hi];simp
  cases b with
  | lk b =>
    obtain ⟨b',h1,h2⟩:=h.box i _ hl rfl
    obtain ⟨x,rfl,h3⟩:=h2.of_lk
    exact ⟨x,getB_unlock_lk (getB_lt hi) hl h1,h3⟩
  | ro b =>
    obtain ⟨b',h1,h2⟩:=h.box i _ hl rfl
    exact ⟨b',getB_unlock_ne hl (fun x hx=>by cases hx) h1,h2⟩
  | gone =>
    obtain ⟨b',h1,h2⟩:=h.box i _ hl rfl
    exact ⟨b',getB_unlock_ne hl (fun x hx=>by cases hx) h1,h2⟩
  | _=>simp [fixed] at hf
 ·have hl:getB (lockFrom c 0 M) i=some (lk1 c i (.var T cs)):=by rw [getB_lock,hi];simp
  cases hc:(c.map (·.1)).contains i with
  | true =>
    simp only [lk1,hc,cond_true] at hl
    obtain ⟨cs',h1,h2⟩:=h.var i T cs hl
    exact ⟨cs',getB_unlock_ne hl (fun x hx=>by cases hx) h1,h2⟩
  | false =>
    simp only [lk1,hc,cond_false] at hl
    obtain ⟨b',h1,h2⟩:=h.box i _ hl rfl
    obtain ⟨x,rfl,h3⟩:=h2.of_lk
    obtain ⟨cs',rfl,h4⟩:=CPres.of_var h3
    exact ⟨cs',getB_unlock_lk (getB_lt hi) hl h1,h4.1.symm⟩
theorem zip_out:∀(l:List (Nat×CTy)) (ps:List (PV S)) (e:Env S) (i:Nat),i∉l.map (·.1)→look (zipSlots l ps++e) i=look e i
 | [],ps,e,i,_=>by cases ps<;>rfl
 | (j,t)::l,[],e,i,_=>rfl
 | (j,t)::l,p::ps,e,i,h=>by
   simp only [List.map_cons,List.mem_cons,not_or] at h
   simp only [zipSlots,List.cons_append,look]
   have:Nat.beq j i=false:=by
    cases hb:Nat.beq j i with
    | true=>exact absurd (Nat.eq_of_beq_eq_true hb).symm h.1
    | false=>rfl
   rw [this]
   exact zip_out l ps e i h.2
theorem tail_out {z:Env S} {l:List (Nat×Nat×U)} {ps:List (PV S)} {e:Env S} {i:Nat} (h:i∉l.map (·.1)):look (tailEnv z l ps++e) i=look e i:=by
 rw [look_append]
 cases hte:look (tailEnv z l ps) i with
 | none=>rfl
 | some q =>
   obtain ⟨n,m,j,u,y,x,k1,_⟩:=tailEnv_look i q hte
   exact absurd (List.mem_map.2 ⟨_,List.mem_of_getElem? k1,rfl⟩) h
theorem Pres.mkEnv (c:Cut) (W:List Nat) (e:Env S) (n:Nat) (t:ElL S c.codes):Pres (W++c.names) e (mkEnv c W e n t):=by
 intro i p hi hp hr
 simp only [Cut.names,List.mem_append,not_or] at hi
 unfold Pe.mkEnv
 rw [tail_out hi.2.2,zip_out _ _ _ _ hi.2.1]
 exact mask_of e [] i p (by simp) (by simp only [List.mem_append,not_or];exact ⟨hi.2.2,hi.1⟩) hp hr
end Pe
end
section
/- A region in any order. -/
namespace Pe
open Go Go.RowKit
variable {S:Nat→Type}
section
variable {P:Program} {un:Uni S} {E:Wl.Ctx} {D0:Dat} {N:Wl.Fr} {bx:Bxs S}
def Went (P:Program) (un:Uni S) (bx:Bxs S) (ops:List Oper) (o:Oper) (e:Env S) (p:PV S):Prop :=
 ((o.guard=none∨∃d want,gslot ops o=some (d,want)∧look e d=some (.bool want))∧Gives P un o (restr (slotsIn o.op.operands.toList) e) bx p) ∨
 ((∃d want,gslot ops o=some (d,want)∧(look e d=some (.bool (!want))∨look e d=some undefV))∧p=undefV)
theorem QPath.at {ops l:List Oper} {e e':Env S} (h:QPath P un bx ops l e e'):∀(i:Nat) (o:Oper),l[i]? =some o→∃ei p,
  (∀s,s∉dsts (l.take i)→look ei s=look e s)∧(∀s,s∉dsts (l.drop i)→look ei s=look e' s)∧Went P un bx ops o ei p∧∀d,o.dst=some d→d∉dsts (l.drop (i+1))→look e' d=some p:=by
 have main:∀{o:Oper} {l:List Oper} {e e':Env S} {p:PV S},QPath P un bx ops (o::l) e e'→QPath P un bx ops l (push o.dst p e) e'→Went P un bx ops o e p →
   (∀(i:Nat) (q:Oper),l[i]? =some q→∃ei p',(∀s,s∉dsts (l.take i)→look ei s=look (push o.dst p e) s)∧(∀s,s∉dsts (l.drop i)→look ei s=look e' s)∧Went P un bx ops q ei p'∧∀d,q.dst=some d→d∉dsts (l.drop (i+1))→look e' d=some p') →
   ∀(i:Nat) (q:Oper),(o::l)[i]? =some q→∃ei p',(∀s,s∉dsts ((o::l).take i)→look ei s=look e s)∧(∀s,s∉dsts ((o::l).drop i)→look ei s=look e' s)∧Went P un bx ops q ei p'∧∀d,q.dst=some d→d∉dsts ((o::l).drop (i+1))→look e' d=some p':=by
  intro o l e e' p h k hw ih i q hi
  cases i with
  | zero =>
    simp only [List.getElem?_cons_zero,Option.some.injEq] at hi
    subst hi
    refine ⟨e,p,fun _ _=>rfl,fun s hs=>(h.keep s (by simpa using hs)).symm,hw,fun d hd hn=> ?_⟩
    rw [k.keep d (by simpa using hn),hd]
    simp [push,look]
  | succ i =>
    obtain ⟨ei,p',h1,h2,h3,h4⟩:=ih i q (by simpa using hi)
    refine ⟨ei,p',fun s hs=> ?_,fun s hs=>h2 s (by simpa using hs),h3,fun d hd hn=>h4 d hd (by simpa using hn)⟩
    simp only [List.take_succ_cons,dsts,List.filterMap_cons] at hs
    cases hd:o.dst with
    | none=>rw [hd] at hs h1;rw [h1 s hs];rfl
    | some d=>rw [hd] at hs h1;simp at hs;rw [h1 s (by simpa [dsts] using hs.2),look_push_ne (by simpa using fun h=>hs.1 h.symm)]
 induction h with
 | nil=>intro i o h;simp at h
 | @run o l e e' p hg h k ih=>exact main (.run hg h k) k (.inl ⟨hg,h⟩) ih
 | @shut o l e e' d want hg h k ih=>exact main (.shut hg h k) k (.inr ⟨⟨d,want,hg,h⟩,rfl⟩) ih
theorem Went.congr {ops:List Oper} {o:Oper} {e e2:Env S} {p:PV S} (h:Went P un bx ops o e p) (ha:∀s,s∈o.looksAt ops.toArray→look e2 s=look e s):Went P un bx ops o e2 p:=by
 have hgs:∀{d want},gslot ops o=some (d,want)→d∈o.looksAt ops.toArray:=fun hg=>by
  obtain ⟨j,h1,h2⟩:=gslot_spec hg
  unfold Oper.looksAt
  rw [h1]
  simp only [List.mem_append]
  right
  rw [h2];simp
 rcases h with ⟨hg,h⟩ | ⟨⟨d,want,h1,h2⟩,h3⟩
 ·refine .inl ⟨hg.imp id fun ⟨d,want,g1,g2⟩=>⟨d,want,g1,by rw [ha d (hgs g1)];exact g2⟩,h.sub fun i q hq=> ?_⟩
  rw [look_restr] at hq ⊢
  split at hq
  ·rename_i hi
   rw [if_pos hi,ha i (by unfold Oper.looksAt;exact List.mem_append_left _ hi)];exact hq
  ·cases hq
 ·exact .inr ⟨⟨d,want,h1,by rw [ha d (hgs h1)];exact h2⟩,h3⟩
theorem mem_dsts {l:List Oper} {s:Nat}:s∈dsts l↔∃(j:Nat) (o:Oper),l[j]? =some o∧o.dst=some s:=by
 simp only [dsts,List.mem_filterMap]
 constructor
 ·rintro ⟨o,h1,h2⟩
  obtain ⟨j,hj⟩:=List.mem_iff_getElem?.1 h1
  exact ⟨j,o,hj,h2⟩
 ·rintro ⟨j,o,h1,h2⟩
  exact ⟨o,List.mem_of_getElem? h1,h2⟩
def ordAfter (ops:List Oper) (i j:Nat):Bool:=match ops[j]? with | some o=>o.after.any fun e=>Region.binds .any e&&Nat.beq e.on i | none=>false
theorem okOrder_spec {ops:List Oper} (h:okOrder ops=true) :
  (∀i o,ops[i]? =some o→∀e∈o.after.toList,Region.binds .any e=true→e.on<i) ∧
  ∀i j oi oj,ops[i]? =some oi→ops[j]? =some oj→i≠j→∀d,oi.dst=some d→oj.dst≠some d∧(d∈oj.looksAt ops.toArray→(i<j∧ordAfter ops i j=true)∨(j<i∧ordAfter ops j i=true)):=by
 have memz:∀{i:Nat} {o:Oper},ops[i]? =some o→(o,i)∈ops.zipIdx:=fun {i o} hi=>by
  rw [List.mem_zipIdx_iff_getElem?];exact hi
 unfold okOrder at h
 simp only [Bool.and_eq_true,List.all_eq_true] at h
 obtain ⟨h1,h2⟩:=h
 constructor
 ·intro i o hi e he hb
  have:=h1 _ (memz hi)
  simp only [Array.all_eq_true_iff_forall_mem] at this
  have:=this e (by simpa using he)
  rw [hb] at this
  simpa [Nat.blt_eq] using this
 ·intro i j oi oj hi hj hne d hd
  have:=h2 _ (memz hi) _ (memz hj)
  simp only [hd,Bool.or_eq_true,Bool.and_eq_true] at this
  rcases this with this | ⟨g1,g2⟩
  ·exact absurd (Nat.eq_of_beq_eq_true this) hne
  ·refine ⟨by simpa using g1,fun hm=> ?_⟩
   rcases g2 with g2 | g2
   ·simp [hm] at g2
   ·cases hlt:Nat.blt i j with
    | true=>rw [hlt] at g2;exact .inl ⟨by simpa [Nat.blt_eq] using hlt,g2⟩
    | false =>
      rw [hlt] at g2
      have:¬i<j:=fun h=>by rw [←Nat.blt_eq] at h;simp [h] at hlt
      exact .inr ⟨by omega,g2⟩
theorem ordAfter_spec {ops:List Oper} {i j:Nat} (h:ordAfter ops i j=true):∃o,ops[j]? =some o∧∃e∈o.after.toList,Region.binds .any e=true∧e.on=i:=by
 unfold ordAfter at h
 split at h
 ·rename_i o ho
  refine ⟨o,ho,?_⟩
  rw [←Array.any_toList,List.any_eq_true] at h
  obtain ⟨e,h1,h2⟩:=h
  simp only [Bool.and_eq_true] at h2
  exact ⟨e,h1,h2.1,Nat.eq_of_beq_eq_true h2.2⟩
 ·cases h
theorem ready_spec {ops:Array Oper} {listed:Array Bool} {i:Nat}:i∈Region.ready .any ops listed↔i<ops.size∧listed.getD i true=false∧∃o,ops[i]? =some o∧∀e∈o.after.toList,Region.binds .any e=true→listed.getD e.on false=true:=by
 unfold Region.ready
 simp only [List.mem_filter,List.mem_range,Bool.and_eq_true,Bool.not_eq_true']
 refine and_congr_right fun hi=>and_congr_right fun _=> ?_
 rw [Array.getElem?_eq_getElem hi]
 simp only [Option.map_some,Option.getD_some,Option.some.injEq,exists_eq_left',←Array.all_toList,List.all_eq_true,Bool.or_eq_true,Bool.not_eq_true']
 exact forall_congr' fun e=>forall_congr' fun _=>by cases Region.binds .any e<;>simp
def unl (n:Nat) (listed:Array Bool):Nat:=((List.range n).filter fun i=> !listed.getD i true).length
theorem filter_le {p q:Nat→Bool} (hpq:∀j,q j=true→p j=true):∀l:List Nat,(l.filter q).length≤(l.filter p).length
 | []=>Nat.le_refl _
 | x::l=>by
   have:=filter_le hpq l
   simp only [List.filter_cons]
   cases hq:q x with
   | true=>rw [hpq x hq];simpa using this
   | false=>cases p x<;>simp<;>omega
theorem filter_lt {p q:Nat→Bool} (hpq:∀j,q j=true→p j=true) {i:Nat}:∀{l:List Nat},i∈l→p i=true→q i=false→(l.filter q).length<(l.filter p).length
 | x::l,hm,hp,hq=>by
   simp only [List.filter_cons]
   have hle:=filter_le hpq l
   rcases List.mem_cons.1 hm with rfl | hm
   ·rw [hp,hq];simp;omega
   ·have:=filter_lt hpq hm hp hq
    cases hqx:q x with
    | true=>rw [hpq x hqx];simp;omega
    | false=>cases p x<;>simp<;>omega
theorem least {p:Nat→Prop} [DecidablePred p]:∀n,(∃i,i<n∧p i)→∃i,i<n∧p i∧∀j,j<i→¬p j:=by
 intro n ⟨i,hi,hp⟩
 induction i using Nat.strongRecOn with
 | ind i ih =>
   by_cases hx:∃j,j<i∧p j
   ·obtain ⟨j,hj,hpj⟩:=hx
    exact ih j hj (Nat.lt_trans hj hi) hpj
   ·exact ⟨i,hi,hp,fun j hj hpj=>hx ⟨j,hj,hpj⟩⟩
theorem any_wp (hmix:P.follows .mixedOrders=true) {id:Nat} {ops:Array Oper} {e e':Env S} (hord:okOrder ops.toList=true) (h:QPath P un bx ops.toList ops.toList e e') {a:Act} {w:World} (hd:∀o∈ops.toList,∀d,o.dst=some d→d<N.n) (hs:Holds un E D0 N e bx a { w with drawn:=w.drawn+1 }) {Q:Exit→Act→World→Prop}
  (hk:∀a' w',Holds un E D0 N e' bx a' w'→Q .normal a' w'):(Code.region id ops true).wp P Q a w:=by
 obtain ⟨hback,hpair⟩:=okOrder_spec hord
 refine wp_region_any hmix ?_
 have hin:∀{listed:Array Bool} {i:Nat},listed.size=ops.size→i<ops.size→listed.getD i true=listed.getD i false:=fun {listed i} hsz hi=>by
  simp [Array.getD_eq_getD_getElem?,hsz,hi]
 have hget:∀{i:Nat} {o:Oper},ops[i]? =some o→i<ops.size:=fun h=>(Array.getElem?_eq_some_iff.1 h).1
 have hlist:∀{i:Nat} {o:Oper},ops[i]? =some o→ops.toList[i]? =some o:=fun h=>by simpa using h
 have noready:∀(listed:Array Bool),listed.size=ops.size→Region.ready .any ops listed=[]→∀i,i<ops.size→listed.getD i false=true:=by
  intro listed hsz hr i hi
  cases hb:listed.getD i false with
  | true=>rfl
  | false =>
    obtain ⟨k,h1,h2,h3⟩:=least (p:=fun i=>listed.getD i false=false) ops.size ⟨i,hi,hb⟩
    have:k∈Region.ready .any ops listed:=ready_spec.2 ⟨h1,by rw [hin hsz h1];exact h2,ops[k],by simp [h1],fun x hx hbx=>by
     have hlt:=hback k ops[k] (by simp [h1]) x hx hbx
     simpa using h3 _ hlt⟩
    rw [hr] at this;cases this
 have key:∀(fuel:Nat) (listed:Array Bool) (cur:Env S) (a:Act) (w:World),listed.size=ops.size→unl ops.size listed≤fuel →
   (∀j o,ops[j]? =some o→listed.getD j false=true→∀x∈o.after.toList,Region.binds .any x=true→listed.getD x.on false=true) →
   (∀s j o,ops[j]? =some o→o.dst=some s→listed.getD j false=true→look cur s=look e' s) →
   (∀s,(∀j o,ops[j]? =some o→o.dst=some s→listed.getD j false=false)→look cur s=look e s) →
   Holds un E D0 N cur bx a w→wpAny P .any ops Q fuel listed a w:=by
  have fin:∀{listed:Array Bool} {cur:Env S} {a:Act} {w:World},listed.size=ops.size→Region.ready .any ops listed=[] →
   (∀s j o,ops[j]? =some o→o.dst=some s→listed.getD j false=true→look cur s=look e' s) →
   (∀s,(∀j o,ops[j]? =some o→o.dst=some s→listed.getD j false=false)→look cur s=look e s) →
   Holds un E D0 N cur bx a w→Q .normal a w:=by
   intro listed cur a w hsz hr hL hU hH
   refine hk a w (hH.sub fun s p hp=> ?_)
   by_cases hm:s∈dsts ops.toList
   ·obtain ⟨j,o,h1,h2⟩:=mem_dsts.1 hm
    have h1':ops[j]? =some o:=by simpa using h1
    rw [hL s j o h1' h2 (noready _ hsz hr j (hget h1'))];exact hp
   ·rw [hU s fun j o h1 h2=>absurd (mem_dsts.2 ⟨j,o,hlist h1,h2⟩) hm,←h.keep s hm];exact hp
  intro fuel
  induction fuel with
  | zero =>
    intro listed cur a w hsz hf hc hL hU hH
    have hr:Region.ready .any ops listed=[]:=by
     apply List.eq_nil_iff_forall_not_mem.2
     intro i hi
     obtain ⟨g1,g2,_⟩:=ready_spec.1 hi
     have:i∈(List.range ops.size).filter fun i=> !listed.getD i true:=by simp only [List.mem_filter,List.mem_range];exact ⟨g1,by rw [g2];rfl⟩
     have h0:((List.range ops.size).filter fun i=> !listed.getD i true)=[]:=List.length_eq_zero_iff.1 (Nat.le_zero.1 hf)
     rw [h0] at this;cases this
    exact ⟨hr,fin hsz hr hL hU hH⟩
  | succ fuel ih =>
    intro listed cur a w hsz hf hc hL hU hH
    refine ⟨fun hr=>fin hsz hr hL hU hH,fun i hi=> ?_⟩
    obtain ⟨g1,g2,o,g3,g4⟩:=ready_spec.1 hi
    have g2':listed.getD i false=false:=by rw [←hin hsz g1];exact g2
    have hset:∀j,(listed.setIfInBounds i true).getD j false=if j=i then true else listed.getD j false:=fun j=>by
     simp only [Array.getD_eq_getD_getElem?,Array.getElem?_setIfInBounds]
     by_cases hji:i=j
     ·subst hji;simp [hsz,g1]
     ·rw [if_neg hji,if_neg (Ne.symm hji)]
    obtain ⟨ei,p,k1,k2,k3,k4⟩:=h.at i o (hlist g3)
    have hcur:∀s,s∈o.looksAt ops→look cur s=look ei s:=by
     intro s hs
     by_cases hx:∃j oj,ops[j]? =some oj∧oj.dst=some s∧j≠i
     ·obtain ⟨j,oj,q1,q2,q3⟩:=hx
      obtain ⟨_,q4⟩:=hpair j i oj o (hlist q1) (hlist g3) q3 s q2
      have uniq:∀j' oj',ops[j']? =some oj'→oj'.dst=some s→j'=j:=fun j' oj' u1 u2=>by
       by_cases hne:j'=j
       ·exact hne
       ·exact absurd q2 (hpair j' j oj' oj (hlist u1) (hlist q1) hne s u2).1
      rcases q4 (by simpa using hs) with ⟨q5,q6⟩ | ⟨q5,q6⟩
      ·obtain ⟨o',r1,x,r2,r3,r4⟩:=ordAfter_spec q6
       have:o'=o:=by have:=hlist g3;rw [r1] at this;cases this;rfl
       subst this
       have hlj:listed.getD j false=true:=by rw [←r4];exact g4 x r2 r3
       rw [hL s j oj q1 q2 hlj]
       refine (k2 s fun hm=> ?_).symm
       obtain ⟨j',oj',u1,u2⟩:=mem_dsts.1 hm
       rw [List.getElem?_drop] at u1
       have:=uniq _ oj' (by simpa using u1) u2
       omega
      ·obtain ⟨o',r1,x,r2,r3,r4⟩:=ordAfter_spec q6
       have:o'=oj:=by have:=hlist q1;rw [r1] at this;cases this;rfl
       subst this
       have hlj:listed.getD j false=false:=by
        cases hb:listed.getD j false with
        | false=>rfl
        | true=>have:=hc j o' q1 hb x r2 r3;rw [r4,g2'] at this;cases this
       rw [hU s fun j' oj' u1 u2=>by rw [uniq j' oj' u1 u2];exact hlj]
       refine (k1 s fun hm=> ?_).symm
       obtain ⟨j',oj',u1,u2⟩:=mem_dsts.1 hm
       rw [List.getElem?_take] at u1
       split at u1
       ·have:=uniq _ oj' (by simpa using u1) u2;omega
       ·cases u1
     ·have hno:∀j oj,ops[j]? =some oj→oj.dst=some s→j=i:=fun j oj u1 u2=>by
       by_cases hne:j=i
       ·exact hne
       ·exact absurd ⟨j,oj,u1,u2,hne⟩ hx
      rw [hU s fun j oj u1 u2=>by rw [hno j oj u1 u2];exact g2']
      refine (k1 s fun hm=> ?_).symm
      obtain ⟨j',oj',u1,u2⟩:=mem_dsts.1 hm
      rw [List.getElem?_take] at u1
      split at u1
      ·have:=hno _ oj' (by simpa using u1) u2;omega
      ·cases u1
    have hdo:∀d,o.dst=some d→d<N.n:=hd o (List.mem_of_getElem? (hlist g3))
    have hnext:∀a' w',Holds un E D0 N (push o.dst p cur) bx a' w'→wpAny P .any ops Q fuel (listed.setIfInBounds i true) a' w':=by
     intro a' w' hH'
     refine ih _ _ a' w' (by simpa using hsz) ?_ ?_ ?_ ?_ hH'
     ·have:unl ops.size (listed.setIfInBounds i true)<unl ops.size listed:=by
       unfold unl
       refine filter_lt (fun j hj=> ?_) (List.mem_range.2 g1) (by rw [g2];rfl) ?_
       ·simp only [Array.getD_eq_getD_getElem?,Array.getElem?_setIfInBounds] at hj ⊢
        split at hj
        ·split at hj<;>simp at hj
        ·exact hj
       ·simp [Array.getD_eq_getD_getElem?,hsz,g1]
      omega
     ·intro j oj u1 u2 x u3 u4
      rw [hset] at u2 ⊢
      split at u2
      ·rename_i hji;subst hji
       rw [g3] at u1;cases u1
       rw [g4 x u3 u4];split<;>rfl
      ·rw [hc j oj u1 u2 x u3 u4];split<;>rfl
     ·intro s j oj u1 u2 u3
      rw [hset] at u3
      by_cases hji:j=i
      ·subst hji
       rw [g3] at u1;cases u1
       rw [k4 s u2 fun hm=>by
        obtain ⟨j',oj',v1,v2⟩:=mem_dsts.1 hm
        rw [List.getElem?_drop] at v1
        exact absurd v2 (hpair j (j+1+j') o oj' (hlist g3) v1 (by omega) s u2).1]
       rw [u2];simp [push,look]
      ·rw [if_neg hji] at u3
       have hne:o.dst≠some s:=fun hx=>(hpair j i oj o (hlist u1) (hlist g3) hji s u2).1 hx
       rw [look_push_ne hne];exact hL s j oj u1 u2 u3
     ·intro s hall
      have hne:o.dst≠some s:=fun hx=>by have:=hall i o g3 hx;rw [hset,if_pos rfl] at this;cases this
      rw [look_push_ne hne]
      exact hU s fun j oj u1 u2=>by
       have:=hall j oj u1 u2;rw [hset] at this
       split at this
       ·cases this
       ·exact this
    unfold wpOp
    rw [g3]
    simp only
    have k3':=k3.congr (e2:=cur) (fun s hs=>hcur s (by simpa using hs))
    rcases k3' with ⟨hg,hgv⟩ | ⟨⟨d,want,m1,m2⟩,m3⟩
    ·have hw:Region.wanted o (yielded ops a.tmps)=true:=by
      rcases hg with hg | ⟨d,want,m1,m2⟩
      ·simp [Region.wanted,hg]
      ·simpa using wanted_yes m1 hH m2
     rw [if_pos hw]
     exact .inl (gives_step (hgv.sub (restr_sub _ _)) hdo hH hnext)
    ·have hw:Region.wanted o (yielded ops a.tmps)=false:=by simpa using wanted_no m1 hH m2
     rw [hw,if_neg (by simp)]
     subst m3
     exact hnext _ _ (hH.undef hdo)
 refine key ops.size _ e a _ (by simp) ?_ ?_ ?_ ?_ hs
 ·exact Nat.le_trans (List.length_filter_le _ _) (by simp)
 ·intro j o _ hj;simp [Array.getD_eq_getD_getElem?,Array.getElem?_replicate] at hj;split at hj<;>simp at hj
 ·intro s j o _ _ hj;simp [Array.getD_eq_getD_getElem?,Array.getElem?_replicate] at hj;split at hj<;>simp at hj
 ·intro s _;rfl
end
end Pe
end
section
/- A region whose operations write, in any order. -/
namespace Pe
open Go Go.RowKit
variable {S:Nat→Type}
theorem same_some {R:Type} {x y:Option R} {r:R} (h:same x y=some r):x=some r∧y=some r:=by
 unfold same at h
 split at h
 ·rename_i hxy;subst hxy;exact ⟨h,h⟩
 ·cases h
theorem sameL_some {R:Type} {r:R}:∀{l:List (Option R)},sameL l=some r→∀x∈l,x=some r
 | [],_,x,hx=>by cases hx
 | [y],h,x,hx=>by simp only [List.mem_singleton] at hx;subst hx;exact h
 | x::y::l,h,z,hz=>by
   obtain ⟨h1,h2⟩:=same_some h
   rcases List.mem_cons.1 hz with rfl | hz
   ·exact h1
   ·exact sameL_some h2 z hz
section
variable {P:Program} {un:Uni S} {tb:Tb S} {orc:Orc S} {inl:Inl S} {E:Wl.Ctx} {D0:Dat} {N:Wl.Fr} {R:Type} {r:R} {Q:Exit→Act→World→Prop}
theorem bbeq_true {v want:Bool} (h:bbeq v want=true):v=want:=by cases v<;>cases want<;>simp_all [bbeq]
theorem bbeq_false {v want:Bool} (h:bbeq v want=false):v= !want:=by cases v<;>cases want<;>simp_all [bbeq]
theorem Known.kill {kn:List (Nat×Bool)} {e e':Env S} (h:Known kn e) (hp:Pres [] e e'):Known kn e':=fun d v hv=>hp d _ (by simp) (h d v hv) rfl
theorem execG_wp (hun:UniOk un) (ht:TbOk P un tb) (hor:SoundO P un orc) (hin:SoundI P un inl) {ops:List Oper} {KX:Exit→Env S→Bxs S→Option R}:∀(n:Nat) (kn:List (Nat×Bool)) (l:List Oper) (e:Env S) (bx:Bxs S) (K:Env S→Bxs S→Option R) {a:Act} {w:World},execG un tb orc inl ops KX n kn l e bx K=some r→Known kn e→(∀o∈l,∀d,o.dst=some d→d<N.n)→Holds un E D0 N e bx a w →
  (∀e' bx',K e' bx'=some r→Pres (dsts l) e e'→PresB bx bx'→∀a' w',Holds un E D0 N e' bx' a' w'→Q .normal a' w') →
  (∀x e' bx',KX x e' bx'=some r→Pres (dsts l) e e'→PresB bx bx'→∀a' w',Holds un E D0 N e' bx' a' w'→Q x a' w')→wpList P ops.toArray Q l a w:=by
 intro n
 induction n with
 | zero =>
   intro kn l e bx K a w h hkn hd hs hk hkx
   cases l with
   | nil=>simp only [execG] at h;exact wpList_nil (hk e bx h (Pres.refl _ _) (PresB.refl _) a w hs)
   | cons o l=>simp [execG] at h
 | succ n ih =>
   intro kn l e bx K a w h hkn hd hs hk hkx
   cases l with
   | nil=>simp only [execG] at h;exact wpList_nil (hk e bx h (Pres.refl _ _) (PresB.refl _) a w hs)
   | cons o l =>
     have hmem:∀i,i∈dsts l→i∈dsts (o::l):=fun i hi=>by
      simp only [dsts,List.filterMap_cons]
      cases o.dst<;>simp [dsts] at hi ⊢
      ·exact hi
      ·exact .inr hi
     have pr:∀{e1 e2:Env S} {p:PV S},Pres [] e e1→Pres (dsts l) (push o.dst p e1) e2→Pres (dsts (o::l)) e e2:=fun {e1 e2 p} hp hp2=>by
      refine ((hp.trans (Pres.push [] e1 o.dst p)).trans hp2).mono fun i hi=> ?_
      simp only [List.nil_append,List.mem_append] at hi
      rcases hi with hi | hi
      ·simp only [dsts,List.filterMap_cons]
       cases ho:o.dst<;>rw [ho] at hi<;>simp at hi ⊢
       exact .inl hi
      ·exact hmem i hi
     have run:popK un tb orc inl o e bx (fun p e' bx'=>execG un tb orc inl ops KX n (dropK o.dst kn) l (push o.dst p e') bx' K) KX=some r→Region.wanted o (yielded ops.toArray a.tmps)=true→wpList P ops.toArray Q (o::l) a w:=by
      intro h hw
      refine wpList_step fun K' hK'=> ?_
      rw [if_pos hw]
      exact popK_wp hun ht hor hin h (hd o (by simp)) hs (fun p e1 bx1 h1 hp hb a' w' h2=>hK' a' w' (ih _ l _ _ K h1 ((hkn.kill hp).push o.dst p) (fun o ho=>hd o (by simp [ho])) h2 (fun e2 bx2 h3 hp2 hb2 a2 w2 h4=>hk e2 bx2 h3 (pr hp hp2) (hb.trans hb2) a2 w2 h4) fun x e2 bx2 h3 hp2 hb2 a2 w2 h4=>hkx x e2 bx2 h3 (pr hp hp2) (hb.trans hb2) a2 w2 h4))
       fun x e' bx' h1 hp hb=>hkx x e' bx' h1 (hp.mono fun i hi=>by cases hi) hb
     have shut:execG un tb orc inl ops KX n (dropK o.dst kn) l (push o.dst undefV e) bx K=some r→Region.wanted o (yielded ops.toArray a.tmps)=false→wpList P ops.toArray Q (o::l) a w:=by
      intro h hw
      refine wpList_step fun K' hK'=> ?_
      rw [hw,if_neg (by simp)]
      exact hK' _ _ (ih _ l _ _ K h (hkn.push o.dst undefV) (fun o ho=>hd o (by simp [ho])) (hs.undef (hd o (by simp))) (fun e2 bx2 h3 hp2 hb2 a2 w2 h4=>hk e2 bx2 h3 (pr (Pres.refl _ _) hp2) hb2 a2 w2 h4) fun x e2 bx2 h3 hp2 hb2 a2 w2 h4=>hkx x e2 bx2 h3 (pr (Pres.refl _ _) hp2) hb2 a2 w2 h4)
     unfold execG at h
     split at h
     ·rename_i hg;exact run h (by simp [Region.wanted,hg])
     ·split at h
      ·cases h
      ·rename_i d want hgs
       split at h
       ·rename_i v hv
        have hlk:=hkn d v hv
        cases hb:bbeq v want with
        | true =>
          rw [hb] at h
          have:=bbeq_true hb;subst this
          exact run h (by simpa using wanted_yes hgs hs hlk)
        | false =>
          rw [hb] at h
          have:=bbeq_false hb;subst this
          exact shut h (by simpa using wanted_no hgs hs (.inl hlk))
       ·split at h
        ·rename_i hlk;exact shut h (by simpa using wanted_no hgs hs (.inr hlk))
        ·rename_i b hlk
         have one:∀b',b=b'→execG un tb orc inl ops KX n ((d,b')::kn) (o::l) ((d,.bool b')::e) bx K=some r→wpList P ops.toArray Q (o::l) a w:=by
          rintro b' rfl h
          have hsub:Sub ((d,.bool b)::e) e:=by
           intro i p hp
           simp only [look] at hp
           cases hb:Nat.beq d i with
           | true=>rw [hb] at hp;simp at hp;subst hp;rw [←Nat.eq_of_beq_eq_true hb];exact hlk
           | false=>rw [hb] at hp;exact hp
          have hpr:∀{e2:Env S},Pres (dsts (o::l)) ((d,.bool b)::e) e2→Pres (dsts (o::l)) e e2:=fun {e2} hp i p hi hl hr=>by
           refine hp i p hi ?_ hr
           simp only [look]
           cases hb:Nat.beq d i with
           | true=>have:=Nat.eq_of_beq_eq_true hb;subst this;rw [hlk] at hl;exact hl
           | false=>exact hl
          refine ih _ _ _ _ K h (fun i u hu=> ?_) hd (hs.sub hsub) (fun e2 bx2 h3 hp2 hb2 a2 w2 h4=>hk e2 bx2 h3 (hpr hp2) hb2 a2 w2 h4) fun x e2 bx2 h3 hp2 hb2 a2 w2 h4=>hkx x e2 bx2 h3 (hpr hp2) hb2 a2 w2 h4
          simp only [lookK,look] at hu ⊢
          cases hb:Nat.beq d i with
          | true=>rw [hb] at hu;simp at hu;subst hu;rfl
          | false=>rw [hb] at hu;exact hkn i u hu
         rcases br_some h with ⟨hb,h⟩ | ⟨hb,h⟩
         ·exact one true hb h
         ·exact one false hb h
        ·cases h
theorem ev_congr {e e2:Env S} {x:Operand} (h:∀t,x= .tmp t→look e2 t=look e t):ev e2 x=ev e x:=by
 cases x with
 | tmp t=>exact h t rfl
 | _=>rfl
theorem evs_congr {e e2:Env S}:∀{l:List Operand},(∀x∈l,∀t,x= .tmp t→look e2 t=look e t)→evs e2 l=evs e l
 | [],_=>rfl
 | x::r,h=>by
   simp only [evs]
   rw [ev_congr (h x (by simp)),evs_congr fun y hy=>h y (by simp [hy])]
theorem partsOf_congr {e e2:Env S}:∀{l:List (Nat×Operand)},(∀x∈l,∀t,x.2= .tmp t→look e2 t=look e t)→partsOf e2 l=partsOf e l
 | [],_=>rfl
 | (i,x)::r,h=>by
   simp only [partsOf]
   rw [ev_congr (h (i,x) (by simp)),partsOf_congr fun y hy=>h y (by simp [hy])]
theorem enters_congr {e e2:Env S} {c:Call} (h:∀x∈c.operands.toList,∀t,x= .tmp t→look e2 t=look e t):enters e2 c=enters e c:=by
 unfold enters
 cases hc:c.callee with
 | value f =>
   simp only
   rw [ev_congr (h f (by simp [Call.operands,hc])),evs_congr fun x hx=>h x (by simp [Call.operands,hc];exact .inr (by simpa using hx))]
 | _=>rfl
theorem popQ0_congr {o:Oper} {e e2:Env S} {bx:Bxs S} {K:PV S→Option R} (hW:∀x∈o.op.operands.toList,∀t,x= .tmp t→look e2 t=look e t):popQ0 un tb orc inl o e2 bx K=popQ0 un tb orc inl o e bx K:=by
 unfold popQ0
 cases ho:o.op<;>rw [ho] at hW<;>simp only [Op.operands] at hW<;>try rfl
 case move x=>simp only [ev_congr (hW x (by simp))]
 case assign x=>simp only [ev_congr (hW x (by simp))]
 case pick c x y=>simp only [ev_congr (hW c (by simp)),ev_congr (hW x (by simp)),ev_congr (hW y (by simp))]
 case build t ps=>simp only [partsOf_congr (e:=e) (e2:=e2) (l:=ps.toList) fun x hx=>hW x.2 (by simp only [Array.mem_toList_iff,List.mem_map];simpa using ⟨x.1,by simpa using hx⟩)]
 case load t x=>simp only [ev_congr (hW x (by simp))]
 case nilCheck x=>simp only [ev_congr (hW x (by simp))]
 case binOp op t x y t'=>simp only [ev_congr (hW x (by simp)),ev_congr (hW y (by simp))]
 case unOp op t x=>cases op<;>simp only [ev_congr (hW x (by simp))]
 case makeInterface t x=>simp only [ev_congr (hW x (by simp))]
 case makeFunc fn first cap=>simp only [evs_congr (e:=e) (e2:=e2) (l:=first.toList) fun x hx=>hW x (by simp;exact .inl (by simpa using hx)),evs_congr (e:=e) (e2:=e2) (l:=cap.toList) fun x hx=>hW x (by simp;exact .inr (by simpa using hx))]
 case slice t x lo hi mx =>
  cases mx with
  | some _=>rfl
  | none =>
    simp only [ev_congr (hW x (by simp))]
    cases lo<;>cases hi<;>simp only []
    ·rename_i y;rw [ev_congr (hW y (by simp))]
    ·rename_i y;rw [ev_congr (hW y (by simp))]
    ·rename_i y z;rw [ev_congr (hW y (by simp)),ev_congr (hW z (by simp))]
 case fieldAddr s x f=>simp only [ev_congr (hW x (by simp))]
 case indexAddr t x i=>simp only [ev_congr (hW x (by simp)),ev_congr (hW i (by simp))]
 case index t x i=>simp only [ev_congr (hW x (by simp)),ev_congr (hW i (by simp))]
 case extract x i=>simp only [ev_congr (hW x (by simp))]
 case call c =>
  have h1:evs e2 c.args.toList=evs e c.args.toList:=evs_congr fun x hx=>hW x (by simp [Call.operands];exact .inr (by simpa using hx))
  have h2:enters e2 c=enters e c:=enters_congr hW
  simp only [h1,h2]
theorem popQ1_congr {o:Oper} {e e2:Env S} {bx:Bxs S} {K:PV S→Option R} (hW:∀x∈o.op.operands.toList,∀t,x= .tmp t→look e2 t=look e t):popQ1 un tb orc inl o e2 bx K=popQ1 un tb orc inl o e bx K:=by
 have h0:=popQ0_congr (un:=un) (tb:=tb) (orc:=orc) (inl:=inl) (bx:=bx) (K:=K) hW
 have hv:∀x,x∈o.op.operands.toList→ev e2 x=ev e x:=fun x hx=>ev_congr (hW x hx)
 have hvs:∀c,o.op= .call c→evs e2 c.args.toList=evs e c.args.toList:=fun c hc=>evs_congr fun x hx=>hW x (by rw [hc];simp [Op.operands,Call.operands];exact .inr (by simpa using hx))
 unfold popQ1
 cases ho:o.op with
 | indexAddr t x i=>simp only [hv x (by simp [ho,Op.operands]),hv i (by simp [ho,Op.operands]),h0]
 | fieldAddr s x f=>simp only [hv x (by simp [ho,Op.operands]),h0]
 | nilCheck x=>simp only [hv x (by simp [ho,Op.operands]),h0]
 | load t x=>simp only [hv x (by simp [ho,Op.operands]),h0]
 | lookup t m x ok=>simp only [hv m (by simp [ho,Op.operands]),hv x (by simp [ho,Op.operands])]
 | convert s d x=>simp only [hv x (by simp [ho,Op.operands])]
 | call c=>simp only [hvs c ho,h0]
 | _=>exact h0
theorem popQ_congr {o:Oper} {e e2:Env S} {bx:Bxs S} {K:PV S→Option R} (hW:∀x∈o.op.operands.toList,∀t,x= .tmp t→look e2 t=look e t):popQ un tb orc inl o e2 bx K=popQ un tb orc inl o e bx K:=by
 have h0:=popQ1_congr (un:=un) (tb:=tb) (orc:=orc) (inl:=inl) (bx:=bx) (K:=K) hW
 have hv:∀x,x∈o.op.operands.toList→ev e2 x=ev e x:=fun x hx=>ev_congr (hW x hx)
 have hvs:∀c,o.op= .call c→evs e2 c.args.toList=evs e c.args.toList:=fun c hc=>evs_congr fun x hx=>hW x (by rw [hc];simp [Op.operands,Call.operands];exact .inr (by simpa using hx))
 unfold popQ
 cases ho:o.op with
 | indexAddr t x i=>simp only [hv x (by simp [ho,Op.operands]),hv i (by simp [ho,Op.operands]),h0]
 | slice t x lo hi mx =>
   have hx:=hv x (by simp [ho,Op.operands])
   cases lo<;>cases hi<;>cases mx<;>simp only [hx,h0]
   rename_i y
   rw [hv y (by simp [ho,Op.operands])]
 | call c=>simp only [hvs c ho,h0]
 | _=>exact h0
def killOf0 (o:Oper) (e:Env S) (bx:Bxs S):List (Nat×PV S):=match o.op with
 | .call c=>match c.callee with
   | .builtin .append=>match evs e c.args.toList with
     | some [.row b,_]=>match getB bx b with
       | some (.own v _ old)=>[(b,.sl v old)]
       | _=>[]
     | _=>[]
   | _=>[]
 | _=>[]
def killOf1 (tb:Tb S) (o:Oper) (e:Env S) (bx:Bxs S):List (Nat×PV S):=match o.op with
 | .slice _ x _ _ none=>match ev e x with
   | some (.row b)=>match getB bx b with
     | some (.wr _ _ _)=>[(b,.junk)]
     | _=>[]
   | _=>[]
 | .call c=>match c.callee with
   | .builtin .append=>match evs e c.args.toList with
     | some [.row b,x]=>match getB (freezeB (rowsP x) bx) b with
       | some (.own v _ old)=>[(b,.sl v old)]
       | some (.wr _ _ _)=>[(b,.junk)]
       | _=>[]
     | _=>[]
   | .value _=>match enters e c with
     | some (f,l)=>match tb.sig.get f with
       | some (.lin g)=>(match argCells (nub [] (refsL l)) g.as l,varsOf bx ((nub [] (refsL l)).zip (g.bs.map (·.2.2))) with
         | some ps,some qs=>takenL (freezeB (frs g.ins (qs++ps)) bx) g.ins (qs++ps)
         | _,_=>[])
       | _=>[]
     | none=>[]
   | _=>[]
 | _=>[]
open Classical in
theorem popK0_congr {o:Oper} {e e2:Env S} {bx:Bxs S} {K:PV S→Env S→Bxs S→Option R} {KX:Exit→Env S→Bxs S→Option R} (hW:∀x∈o.op.operands.toList,∀t,x= .tmp t→look e2 t=look e t) (h:popK0 un tb orc inl o e bx K KX=some r) :
  popK0 un tb orc inl o e2 bx (fun p e' bx'=>if e'=takeE (killOf0 o e bx) e2 then K p (takeE (killOf0 o e bx) e) bx' else none) (fun x e' bx'=>if e'=e2 then KX x e bx' else none)=some r:=by
 have quiet:killOf0 o e bx=[]→popQ un tb orc inl o e bx (fun p=>K p e bx)=some r→popQ un tb orc inl o e2 bx (fun p=>if e2=takeE (killOf0 o e bx) e2 then K p (takeE (killOf0 o e bx) e) bx else none)=some r:=by
  intro hk h
  rw [popQ_congr hW]
  simp only [hk,takeE,if_true]
  exact h
 unfold popK0 at h ⊢
 split at h
 ·rename_i T ho
  have hk:killOf0 o e bx=[]:=by unfold killOf0;rw [ho]
  simp only [hk,takeE,if_true]
  exact h
 ·rename_i T x ho
  have hk:killOf0 o e bx=[]:=by unfold killOf0;rw [ho]
  rw [ho] at hW;simp only [Op.operands] at hW
  simp only [hk,takeE,if_true,ev_congr (hW x (by simp))]
  exact h
 ·rename_i t x y ho
  have hk:killOf0 o e bx=[]:=by unfold killOf0;rw [ho]
  rw [ho] at hW;simp only [Op.operands] at hW
  simp only [hk,takeE,if_true,ev_congr (hW x (by simp)),ev_congr (hW y (by simp))]
  exact h
 ·rename_i t n ps ho
  have hk:killOf0 o e bx=[]:=by unfold killOf0;rw [ho]
  rw [ho] at hW;simp only [Op.operands] at hW
  simp only [hk,takeE,if_true,partsOf_congr (e:=e) (e2:=e2) (l:=ps.toList) fun x hx=>hW x.2 (by simp only [Array.mem_toList_iff,List.mem_map];simpa using ⟨x.1,by simpa using hx⟩)]
  exact h
 ·rename_i c ho
  have hW0:=hW
  rw [ho] at hW;simp only [Op.operands] at hW
  have h1:evs e2 c.args.toList=evs e c.args.toList:=evs_congr fun x hx=>hW x (by simp [Call.operands];exact .inr (by simpa using hx))
  have h2:enters e2 c=enters e c:=enters_congr hW
  simp only [h1,h2]
  split at h
  ·rename_i hc
   try simp only [hc]
   split at h
   ·rename_i s x t hargs htw
    try simp only [hargs,htw]
    split at h
    ·cases h
    ·rename_i T u hel
     try simp only [hel]
     split at h
     ·rename_i new hnew
      try simp only [hnew]
      split at h
      ·have hk:killOf0 o e bx=[]:=by unfold killOf0;rw [ho];simp [hc,hargs]
       simp only [hk,takeE,if_true]
       exact h
      ·rename_i b
       split at h
       ·rename_i v T' old hg
        try simp only [hg]
        have hk:killOf0 o e bx=[(b,.sl v old)]:=by unfold killOf0;rw [ho];simp [hc,hargs,hg]
        simp only [hk,takeE,if_true]
        exact h
       ·cases h
      ·cases h
     ·cases h
   ·cases h
  ·rename_i f hc
   have hk:killOf0 o e bx=[]:=by unfold killOf0;rw [ho];simp [hc]
   split at h
   ·rename_i f l hen
    try simp only [hc]
    try simp only [hen]
    split at h
    ·rename_i us ts lc rs ps pan hsig
     simp only [hk,takeE,effCall,if_true] at h ⊢
     exact h
    ·rename_i fn an ts lc rs ps pan hsig
     simp only [hk,takeE,effCall,if_true] at h ⊢
     exact h
    ·rename_i hn1 hn2
     have:=quiet hk h
     first
      | exact this
      | (split
         ·rename_i hsig;exact absurd hsig (hn1 _ _ _ _ _ _)
         ·rename_i hsig;exact absurd hsig (hn2 _ _ _ _ _ _ _)
         ·exact this)
   ·cases h
  ·rename_i hn1 hn2
   have hk:killOf0 o e bx=[]:=by
    unfold killOf0;rw [ho]
    first
     | rfl
     | (simp only [];done)
     | (split<;>first | rfl | (rename_i hcc;exact absurd hcc hn1))
   have:=quiet hk h
   first
    | exact this
    | (split
       ·rename_i hcc;exact absurd hcc hn1
       ·rename_i hcc;exact absurd hcc (hn2 _)
       ·exact this)
 ·rename_i x ho
  rw [ho] at hW;simp only [Op.operands] at hW
  simp only [if_true,ev_congr (hW x (by simp))]
  exact h
 ·rename_i n1 n2 n3 n4 n5 n6
  have hk:killOf0 o e bx=[]:=by
   unfold killOf0
   first
    | rfl
    | (split
       ·rename_i hcc;exact absurd hcc (n5 _)
       ·rfl)
  have:=quiet hk h
  first
   | exact this
   | (split
      ·rename_i hcc;exact absurd hcc (n1 _)
      ·rename_i hcc;exact absurd hcc (n2 _ _)
      ·rename_i hcc;exact absurd hcc (n3 _ _ _)
      ·rename_i hcc;exact absurd hcc (n4 _ _ _)
      ·rename_i hcc;exact absurd hcc (n5 _)
      ·rename_i hcc;exact absurd hcc (n6 _)
      ·exact this)
def killX1 (tb:Tb S) (o:Oper) (e:Env S) (bx:Bxs S):List (Nat×PV S):=match o.op with
 | .call c=>match c.callee with
   | .value _=>killOf1 tb o e bx
   | _=>[]
 | _=>[]
open Classical in
theorem popK1_congr {o:Oper} {e e2:Env S} {bx:Bxs S} {K:PV S→Env S→Bxs S→Option R} {KX:Exit→Env S→Bxs S→Option R} (hW:∀x∈o.op.operands.toList,∀t,x= .tmp t→look e2 t=look e t) (h:popK1 un tb orc inl o e bx K KX=some r) :
  popK1 un tb orc inl o e2 bx (fun p e' bx'=>if e'=takeE (killOf1 tb o e bx) e2 then K p (takeE (killOf1 tb o e bx) e) bx' else none) (fun x e' bx'=>if e'=takeE (killX1 tb o e bx) e2 then KX x (takeE (killX1 tb o e bx) e) bx' else none)=some r:=by
 have hv:∀x,x∈o.op.operands.toList→ev e2 x=ev e x:=fun x hx=>ev_congr (hW x hx)
 have hvs:∀c,o.op= .call c→evs e2 c.args.toList=evs e c.args.toList:=fun c hc=>evs_congr fun x hx=>hW x (by rw [hc];simp [Op.operands,Call.operands];exact .inr (by simpa using hx))
 have hen:∀c,o.op= .call c→enters e2 c=enters e c:=fun c hc=>enters_congr (by rw [hc] at hW;exact hW)
 have old:∀l,killOf1 tb o e bx=killOf0 o e (freezeB l bx)→killX1 tb o e bx=[]→popK0 un tb orc inl o e (freezeB l bx) K KX=some r→popK0 un tb orc inl o e2 (freezeB l bx) (fun p e' bx'=>if e'=takeE (killOf1 tb o e bx) e2 then K p (takeE (killOf1 tb o e bx) e) bx' else none) (fun x e' bx'=>if e'=takeE (killX1 tb o e bx) e2 then KX x (takeE (killX1 tb o e bx) e) bx' else none)=some r:=fun l hk hx h=>by
  rw [hk,hx];exact popK0_congr hW h
 have quiet:killOf1 tb o e bx=[]→popQ un tb orc inl o e bx (fun p=>K p e bx)=some r→popQ un tb orc inl o e2 bx (fun p=>if e2=takeE (killOf1 tb o e bx) e2 then K p (takeE (killOf1 tb o e bx) e) bx else none)=some r:=by
  intro hk h
  rw [popQ_congr hW]
  simp only [hk,takeE,if_true]
  exact h
 have mset:∀t m x y,killOf1 tb o e bx=[]→m∈o.op.operands.toList→x∈o.op.operands.toList→y∈o.op.operands.toList→mapSet un tb e bx t m x y K=some r→mapSet un tb e2 bx t m x y (fun p e' bx'=>if e'=takeE (killOf1 tb o e bx) e2 then K p (takeE (killOf1 tb o e bx) e) bx' else none)=some r:=by
  intro t m x y hk h1 h2 h3 h
  unfold mapSet at h ⊢
  simp only [hv m h1,hv x h2,hv y h3,hk,takeE,if_true]
  exact h
 unfold popK1 at h ⊢
 cases ho:o.op with
 | makeMap t rs =>
   rw [ho] at h
   have hk:killOf1 tb o e bx=[]:=by unfold killOf1;rw [ho]
   have hx:killX1 tb o e bx=[]:=by unfold killX1;rw [ho]
   cases rs with
   | none=>simp only [hk,takeE,if_true] at h ⊢;exact h
   | some v=>exact old [] (by rw [hk];unfold killOf0;rw [ho]) hx h
 | mapUpdate t m x y =>
   rw [ho] at h
   have hk:killOf1 tb o e bx=[]:=by unfold killOf1;rw [ho]
   exact mset t m x y hk (by simp [ho,Op.operands]) (by simp [ho,Op.operands]) (by simp [ho,Op.operands]) h
 | insert t m x y =>
   rw [ho] at h
   have hk:killOf1 tb o e bx=[]:=by unfold killOf1;rw [ho]
   exact mset t m x y hk (by simp [ho,Op.operands]) (by simp [ho,Op.operands]) (by simp [ho,Op.operands]) h
 | makeSlice t n c =>
   rw [ho] at h
   have hk:killOf1 tb o e bx=[]:=by unfold killOf1;rw [ho]
   simp only [hv n (by simp [ho,Op.operands]),hv c (by simp [ho,Op.operands]),hk,takeE,if_true] at h ⊢
   exact h
 | convert sx d x =>
   rw [ho] at h
   have hk:killOf1 tb o e bx=[]:=by unfold killOf1;rw [ho]
   have hq:=quiet hk
   simp only [hv x (by simp [ho,Op.operands])] at h ⊢
   split at h
   ·split at h
    ·simp only [hk,takeE,if_true];exact h
    ·exact hq h
   ·exact hq h
 | store t x y =>
   rw [ho] at h
   have hk:killOf1 tb o e bx=[]:=by unfold killOf1;rw [ho]
   have hx:killX1 tb o e bx=[]:=by unfold killX1;rw [ho]
   have hold:=old [] (by rw [hk];unfold killOf0;rw [ho]) hx
   simp only [hv x (by simp [ho,Op.operands]),hv y (by simp [ho,Op.operands])] at h ⊢
   split at h
   ·simp only [hk,takeE,if_true] at h ⊢;exact h
   ·exact hold h
 | buildSlice t n ps =>
   rw [ho] at h
   have hk:killOf1 tb o e bx=[]:=by unfold killOf1;rw [ho]
   have hx:killX1 tb o e bx=[]:=by unfold killX1;rw [ho]
   have hold:=old [] (by rw [hk];unfold killOf0;rw [ho]) hx
   have hp:partsOf e2 ps.toList=partsOf e ps.toList:=partsOf_congr fun x hx=>hW x.2 (by rw [ho];simp only [Op.operands];simpa using ⟨x.1,by simpa using hx⟩)
   cases hlin:linDst tb o with
   | false=>simp only [hlin,cond_false] at h ⊢;exact hold h
   | true=>simp only [hlin,cond_true,hp,hk,takeE,if_true] at h ⊢;exact h
 | slice t x lo hi mx =>
   rw [ho] at h
   have hx0:killX1 tb o e bx=[]:=by unfold killX1;rw [ho]
   cases mx with
   | some m=>exact old [] (by unfold killOf1 killOf0;rw [ho]) hx0 h
   | none =>
     have hvx:=hv x (by simp [ho,Op.operands])
     have hlo:(match lo with | some a=>ev e2 a | none=>some (PV.int .i64 0))=(match lo with | some a=>ev e a | none=>some (PV.int .i64 0)):=by
      cases lo with
      | none=>rfl
      | some y=>exact hv y (by cases hi<;>simp [ho,Op.operands])
     have hhi:∀d:PV S,(match hi with | some a=>ev e2 a | none=>some d)=(match hi with | some a=>ev e a | none=>some d):=by
      intro d
      cases hi with
      | none=>rfl
      | some y=>exact hv y (by cases lo<;>simp [ho,Op.operands])
     simp only [hvx] at h ⊢
     cases hxx:ev e x with
     | none =>
       rw [hxx] at h
       exact old [] (by unfold killOf1 killOf0;rw [ho];simp only [hxx]) hx0 h
     | some p =>
       rw [hxx] at h
       cases p with
       | row b =>
         simp only at h ⊢
         split at h
         ·rename_i u T l row hg hrow
          have hk:killOf1 tb o e bx=[(b,.junk)]:=by unfold killOf1;rw [ho];simp only [hxx,hg]
          simp only [hk,takeE,if_true] at h ⊢
          have hlo':∀y,lo=some y→ev e2 y=ev e y:=fun y hy=>hv y (by subst hy;cases hi<;>simp [ho,Op.operands])
          have hhi':∀y,hi=some y→ev e2 y=ev e y:=fun y hy=>hv y (by subst hy;cases lo<;>simp [ho,Op.operands])
          cases lo with
          | none=>cases hi with
            | none=>exact h
            | some z=>simp only [hhi' z rfl];exact h
          | some y=>cases hi with
            | none=>simp only [hlo' y rfl];exact h
            | some z=>simp only [hlo' y rfl,hhi' z rfl];exact h
         ·rename_i hno
          by_cases hw:∃u T l,getB bx b=some (.wr u T l)
          ·obtain ⟨u,T,l,hg⟩:=hw
           exfalso
           cases hrow:tb.ty.get t with
           | some row=>exact hno u T l row hg hrow
           | none =>
             unfold popK0 at h
             rw [ho] at h
             simp only at h
             have h9:popQ1 un tb orc inl o e bx (fun p=>K p e bx)=some r:=by
              unfold popQ at h
              rw [ho] at h
              cases lo<;>cases hi<;>simp only [hxx] at h<;>exact h
             unfold popQ1 at h9
             rw [ho] at h9
             simp only at h9
             unfold popQ0 at h9
             rw [ho] at h9
             simp only [hxx,hrow] at h9
             cases h9
          ·exact old [] (by
            unfold killOf1 killOf0;rw [ho];simp only [hxx]
            cases hgg:getB bx b with
            | none=>rfl
            | some z=>cases z<;>first | rfl | exact absurd ⟨_,_,_,hgg⟩ hw) hx0 h
       | _=>exact old [] (by unfold killOf1 killOf0;rw [ho];simp only [hxx]) hx0 h
 | call c =>
   rw [ho] at h
   simp only [hvs c ho,hen c ho] at h ⊢
   cases hc:c.callee with
   | builtin bn =>
     simp only [hc] at h ⊢
     have hx0:killX1 tb o e bx=[]:=by unfold killX1;rw [ho];simp only [hc]
     cases bn with
     | append =>
       simp only at h ⊢
       split at h
       ·rename_i sx x t hargs htw
        split at h
        ·cases h
        ·rename_i T u hel
         split at h
         ·have hk:killOf1 tb o e bx=[]:=by unfold killOf1;rw [ho];simp only [hc,hargs]
          have hk0:∀l,killOf1 tb o e bx=killOf0 o e (freezeB l bx):=fun l=>by rw [hk];unfold killOf0;rw [ho];simp only [hc,hargs]
          cases hlin:linDst tb o with
          | false=>simp only [hlin,cond_false] at h ⊢;exact old _ (hk0 _) hx0 h
          | true=>simp only [hlin,cond_true,hk,takeE,if_true] at h ⊢;exact h
         ·rename_i b
          split at h
          ·rename_i v T' oldl hg
           have hk:killOf1 tb o e bx=[(b,.junk)]:=by unfold killOf1;rw [ho];simp only [hc,hargs,hg]
           simp only [hk,takeE,if_true] at h ⊢
           exact h
          ·rename_i hno
           refine old _ ?_ hx0 h
           unfold killOf1 killOf0;rw [ho];simp only [hc,hargs]
           cases hgg:getB (freezeB (rowsP x) bx) b with
           | none=>rfl
           | some z=>cases z<;>first | rfl | exact absurd hgg (hno _ _ _)
         ·rename_i hn1 hn2
          have hk:killOf1 tb o e bx=[]:=by
           unfold killOf1;rw [ho];simp only [hc,hargs]
           cases sx<;>first | rfl | exact absurd rfl (hn2 _)
          refine old [] ?_ hx0 h
          rw [hk];unfold killOf0;rw [ho];simp only [hc,hargs]
          cases sx<;>first | rfl | exact absurd rfl (hn2 _)
       ·cases h
     | _=>exact old [] (by unfold killOf1 killOf0;rw [ho];simp only [hc]) hx0 h
   | value y =>
     simp only [hc] at h ⊢
     split at h
     ·rename_i f l hf
      split at h
      ·rename_i g hsig
       have hkk:killX1 tb o e bx=killOf1 tb o e bx:=by unfold killX1;rw [ho];simp only [hc]
       rw [hkk]
       unfold linCall at h ⊢
       dsimp only at h ⊢
       split at h
       ·rename_i ps qs hps hqs
        have hk:killOf1 tb o e bx=takenL (freezeB (frs g.ins (qs++ps)) bx) g.ins (qs++ps):=by unfold killOf1;rw [ho];simp only [hc,hf,hsig,hps,hqs]
        rw [hk]
        simp only [if_true]
        exact h
       ·cases h
      ·rename_i us rs hsig
       have hk:killOf1 tb o e bx=[]:=by
        unfold killOf1;rw [ho];simp only [hc,hf,hsig]
       cases hl:lendB bx l rs with
       | true =>
         rw [hl] at h
         simp only [cond_true] at h ⊢
         rw [popQ_congr hW]
         simp only [hk,takeE,if_true]
         exact h
       | false =>
         rw [hl] at h
         simp only [cond_false] at h ⊢
         refine old _ ?_ ?_ h
         ·rw [hk];unfold killOf0;rw [ho];simp only [hc]
         ·unfold killX1;rw [ho];simp only [hc];exact hk
      ·rename_i fn an rs hsig
       have hk:killOf1 tb o e bx=[]:=by
        unfold killOf1;rw [ho];simp only [hc,hf,hsig]
       cases hl:lendB bx l rs with
       | true =>
         rw [hl] at h
         simp only [cond_true] at h ⊢
         rw [popQ_congr hW]
         simp only [hk,takeE,if_true]
         exact h
       | false =>
         rw [hl] at h
         simp only [cond_false] at h ⊢
         refine old _ ?_ ?_ h
         ·rw [hk];unfold killOf0;rw [ho];simp only [hc]
         ·unfold killX1;rw [ho];simp only [hc];exact hk
      ·rename_i hno
       have hk:killOf1 tb o e bx=[]:=by
        unfold killOf1;rw [ho];simp only [hc,hf]
       refine old _ ?_ ?_ h
       ·rw [hk];unfold killOf0;rw [ho];simp only [hc]
       ·unfold killX1;rw [ho];simp only [hc];exact hk
     ·cases h
   | _ =>
     simp only [hc] at h ⊢
     exact old [] (by unfold killOf1 killOf0;rw [ho];simp only [hc]) (by unfold killX1;rw [ho];simp only [hc]) h
 | _ =>
   rw [ho] at h
   exact old [] (by unfold killOf1 killOf0;rw [ho]) (by unfold killX1;rw [ho]) h
def bldKill (bx:Bxs S) (k:Nat):List (PV S)→List (Nat×PV S)
 | .bref b _::_=>match getB bx b with
   | some (.var _ [.row i])=>match k with
     | 3=>[]
     | _=>[(i,.junk)]
   | _=>[]
 | _=>[]
def newCall (tb:Tb S) (e:Env S) (bx:Bxs S) (c:Call):Option (List (Nat×PV S)):=match c.callee with
 | .builtin .copy=>some []
 | .builtin .clear=>some []
 | .value _=>match enters e c with
   | some (f,l)=>match tb.sig.get f with
     | some (.bld k _ _)=>some (bldKill bx k l)
     | some (.inpl _ _ _)=>some []
     | _=>none
   | none=>none
 | _=>none
def killOf (tb:Tb S) (o:Oper) (e:Env S) (bx:Bxs S):List (Nat×PV S):=match o.op with
 | .convert s d x=>match fixArg tb e bx s d x with
   | some (b,_,_)=>[(b,.junk)]
   | none=>killOf1 tb o e bx
 | .slice t x (some lo) none none=>match tailArg tb e bx t x lo with
   | some _=>[]
   | none=>killOf1 tb o e bx
 | .call c=>match newCall tb e bx c with
   | some l=>l
   | none=>killOf1 tb o e bx
 | _=>killOf1 tb o e bx
def killX (tb:Tb S) (o:Oper) (e:Env S) (bx:Bxs S):List (Nat×PV S):=killX1 tb o e bx
open Classical in
theorem bld_congr {e e2:Env S} {bx:Bxs S} {k:Nat} {T Eb:TypeId} {l:List (PV S)} {K:PV S→Env S→Bxs S→Option R} (h:bldCall e bx k T Eb l K=some r) :
  bldCall e2 bx k T Eb l (fun p e' bx'=>if e'=takeE (bldKill bx k l) e2 then K p (takeE (bldKill bx k l) e) bx' else none)=some r:=by
 unfold bldCall at h ⊢
 split at h
 ·rename_i b T1 rest
  cases hg:getB bx b with
  | none=>rw [hg] at h;cases h
  | some bb =>
    rw [hg] at h
    simp only at h ⊢
    split at h
    ·rename_i T2 i heq
     cases heq
     cases hi:getB bx i with
     | none=>rw [hi] at h;cases h
     | some bi =>
       rw [hi] at h
       split at h
       ·rename_i E1 l0 heq
        cases heq
        obtain ⟨hc,h9⟩:=bif_some h
        clear h
        change (bif (Nat.beq T1 T&&Nat.beq T2 T)&&(Nat.beq E1 Eb&& !Nat.beq b i) then _ else none)=some r
        rw [hc]
        have hkk:∀k',k'≠3→bldKill bx k' (.bref b T1::rest)=[(i,.junk)]:=fun k' hk'=>by
         simp only [bldKill,hg]
        have hk3:bldKill bx 3 (.bref b T1::rest)=[]:=by simp only [bldKill,hg]
        split at h9
        ·rw [hkk 0 (by decide)];simp only [cond_true,takeE]
         refine Eq.trans ?_ h9
         congr 1
        ·rw [hkk 1 (by decide)];simp only [cond_true,takeE]
         refine Eq.trans ?_ h9
         congr 1
        ·rw [hkk 2 (by decide)];simp only [cond_true,takeE]
         refine Eq.trans ?_ h9
         congr 1
        ·rw [hk3];simp only [cond_true,takeE]
         exact (if_pos trivial).trans h9
        ·cases h9
       ·cases h
    ·cases h
 ·cases h
open Classical in
theorem inpl_congr {e e2:Env S} {bx:Bxs S} {u:U} {T:TypeId} {us:List (Option U)} {l:List (PV S)} {ask:List (PV S)→List (El S u)→Option (List (El S u))} {K:PV S→Env S→Bxs S→Option R} (h:inplCall un e bx u T us l ask K=some r) :
  inplCall un e2 bx u T us l ask (fun p e' bx'=>if e'=takeE [] e2 then K p (takeE [] e) bx' else none)=some r:=by
 unfold inplCall at h ⊢
 simp only [takeE,if_true]
 exact h
open Classical in
theorem popK_congr {o:Oper} {e e2:Env S} {bx:Bxs S} {K:PV S→Env S→Bxs S→Option R} {KX:Exit→Env S→Bxs S→Option R} (hW:∀x∈o.op.operands.toList,∀t,x= .tmp t→look e2 t=look e t) (h:popK un tb orc inl o e bx K KX=some r) :
  popK un tb orc inl o e2 bx (fun p e' bx'=>if e'=takeE (killOf tb o e bx) e2 then K p (takeE (killOf tb o e bx) e) bx' else none) (fun x e' bx'=>if e'=takeE (killX tb o e bx) e2 then KX x (takeE (killX tb o e bx) e) bx' else none)=some r:=by
 have hv:∀x,x∈o.op.operands.toList→ev e2 x=ev e x:=fun x hx=>ev_congr (hW x hx)
 have hvs:∀c,o.op= .call c→evs e2 c.args.toList=evs e c.args.toList:=fun c hc=>evs_congr fun x hx=>hW x (by rw [hc];simp [Op.operands,Call.operands];exact .inr (by simpa using hx))
 have hen:∀c,o.op= .call c→enters e2 c=enters e c:=fun c hc=>enters_congr (by rw [hc] at hW;exact hW)
 have old:killOf tb o e bx=killOf1 tb o e bx→popK1 un tb orc inl o e bx K KX=some r→popK1 un tb orc inl o e2 bx (fun p e' bx'=>if e'=takeE (killOf tb o e bx) e2 then K p (takeE (killOf tb o e bx) e) bx' else none) (fun x e' bx'=>if e'=takeE (killX tb o e bx) e2 then KX x (takeE (killX tb o e bx) e) bx' else none)=some r:=fun hk h=>by
  rw [hk];exact popK1_congr hW h
 have fixE:∀s d x,x∈o.op.operands.toList→fixArg tb e2 bx s d x=fixArg tb e bx s d x:=fun s d x hx=>by unfold fixArg;rw [hv x hx]
 have tailE:∀t x lo,x∈o.op.operands.toList→lo∈o.op.operands.toList→tailArg tb e2 bx t x lo=tailArg tb e bx t x lo:=fun t x lo hx hl=>by unfold tailArg;rw [hv x hx,hv lo hl]
 unfold popK at h ⊢
 cases ho:o.op with
 | alloc T =>
   rw [ho] at h
   have hk:killOf tb o e bx=killOf1 tb o e bx:=by unfold killOf;rw [ho]
   have hk0:killOf1 tb o e bx=[]:=by unfold killOf1;rw [ho]
   cases hb:tb.bld with
   | none=>simp only [hb] at h ⊢;exact old hk h
   | some q =>
     obtain ⟨T1,Eb⟩:=q
     simp only [hb] at h ⊢
     cases hc:Nat.beq T1 T with
     | false=>rw [hc] at h;exact old hk h
     | true =>
       rw [hc] at h
       simp only [cond_true,hk,hk0,takeE,if_true] at h ⊢
       exact h
 | index t x i =>
   rw [ho] at h
   have hk:killOf tb o e bx=killOf1 tb o e bx:=by unfold killOf;rw [ho]
   have hk0:killOf1 tb o e bx=[]:=by unfold killOf1;rw [ho]
   have h1:=hv x (by simp [ho,Op.operands])
   have h2:=hv i (by simp [ho,Op.operands])
   cases hrow:tb.ty.get t with
   | none=>simp only [hrow,Option.bind_none] at h ⊢;exact old hk h
   | some row =>
     simp only [hrow,Option.bind_some] at h ⊢
     cases harr:row.arr with
     | none=>simp only [harr] at h ⊢;exact old hk h
     | some q =>
       obtain ⟨T,u⟩:=q
       simp only [harr,h1,h2,hk,hk0,takeE,if_true] at h ⊢
       exact h
 | convert s d x =>
   rw [ho] at h
   have hf:=fixE s d x (by simp [ho,Op.operands])
   cases hfa:fixArg tb e bx s d x with
   | none =>
     have hk:killOf tb o e bx=killOf1 tb o e bx:=by unfold killOf;rw [ho];simp only [hfa]
     simp only [hf,hfa] at h ⊢
     exact old hk h
   | some q =>
     obtain ⟨b,T,l⟩:=q
     have hk:killOf tb o e bx=[(b,.junk)]:=by unfold killOf;rw [ho];simp only [hfa]
     simp only [hfa] at h
     simp only [hf,hfa,hk,takeE]
     exact (if_pos trivial).trans h
 | slice t x lo hi mx =>
   rw [ho] at h
   have other:killOf tb o e bx=killOf1 tb o e bx→popK1 un tb orc inl o e bx K KX=some r→_:=old
   cases lo with
   | none =>
     have hk:killOf tb o e bx=killOf1 tb o e bx:=by unfold killOf;rw [ho]
     exact old hk h
   | some lo =>
     cases hi with
     | some hi =>
       have hk:killOf tb o e bx=killOf1 tb o e bx:=by unfold killOf;rw [ho]
       exact old hk h
     | none =>
       cases mx with
       | some mx =>
         have hk:killOf tb o e bx=killOf1 tb o e bx:=by unfold killOf;rw [ho]
         exact old hk h
       | none =>
         have hf:=tailE t x lo (by simp [ho,Op.operands]) (by simp [ho,Op.operands])
         cases hta:tailArg tb e bx t x lo with
         | none =>
           have hk:killOf tb o e bx=killOf1 tb o e bx:=by unfold killOf;rw [ho];simp only [hta]
           simp only [hf,hta] at h ⊢
           exact old hk h
         | some q =>
           obtain ⟨b,⟨u,l⟩,n⟩:=q
           have hk:killOf tb o e bx=[]:=by unfold killOf;rw [ho];simp only [hta]
           simp only [hta] at h
           simp only [hf,hta,hk,takeE,if_true]
           exact h
 | call c =>
   rw [ho] at h
   have h1:=hvs c ho
   have h2:=hen c ho
   have hkn:newCall tb e bx c=none→killOf tb o e bx=killOf1 tb o e bx:=fun hn=>by unfold killOf;rw [ho];simp only [hn]
   have hks:∀l,newCall tb e bx c=some l→killOf tb o e bx=l:=fun l hn=>by unfold killOf;rw [ho];simp only [hn]
   cases hcal:c.callee with
   | builtin bi =>
     cases bi with
     | append =>
       simp only [hcal] at h ⊢
       have hk:=hkn (by unfold newCall;rw [hcal])
       simp only [h1]
       split at h
       ·rename_i k n hev
        have hk0:killOf1 tb o e bx=[]:=by unfold killOf1;rw [ho];simp only [hcal,hev]
        simp only [hk,hk0,takeE,if_true] at h ⊢
        exact h
       ·exact old hk h
     | copy =>
       simp only [hcal] at h ⊢
       have hk:=hks [] (by unfold newCall;rw [hcal])
       simp only [h1,hk,takeE,if_true]
       exact h
     | clear =>
       simp only [hcal] at h ⊢
       have hk:=hks [] (by unfold newCall;rw [hcal])
       simp only [h1,hk,takeE,if_true]
       exact h
     | _ =>
       simp only [hcal] at h ⊢
       exact old (hkn (by unfold newCall;rw [hcal])) h
   | value fv =>
     simp only [hcal] at h ⊢
     simp only [h2]
     cases hf:enters e c with
     | none=>rw [hf] at h;cases h
     | some q =>
       obtain ⟨f,l⟩:=q
       simp only [hf] at h ⊢
       cases hsig:tb.sig.get f with
       | none =>
         simp only [hsig] at h ⊢
         exact old (hkn (by unfold newCall;rw [hcal];simp only [hf,hsig])) h
       | some sg =>
         cases sg with
         | bld k T Eb =>
           simp only [hsig] at h ⊢
           have hk:=hks (bldKill bx k l) (by unfold newCall;rw [hcal];simp only [hf,hsig])
           rw [hk]
           exact bld_congr h
         | inpl u T us =>
           simp only [hsig] at h ⊢
           have hk:=hks [] (by unfold newCall;rw [hcal];simp only [hf,hsig])
           rw [hk]
           exact inpl_congr h
         | _ =>
           simp only [hsig] at h ⊢
           exact old (hkn (by unfold newCall;rw [hcal];simp only [hf,hsig])) h
   | _ =>
     simp only [hcal] at h ⊢
     exact old (hkn (by unfold newCall;rw [hcal])) h
 | _ =>
   rw [ho] at h
   have hk:killOf tb o e bx=killOf1 tb o e bx:=by unfold killOf;rw [ho]
   exact old hk h
end
end Pe
end
section
/- A region whose operations write, in any order; silent operations go ahead. -/
namespace Pe
open Go Go.RowKit
variable {S:Nat→Type}
section
variable {P:Program} {un:Uni S} {tb:Tb S} {orc:Orc S} {inl:Inl S} {E:Wl.Ctx} {D0:Dat} {N:Wl.Fr} {R:Type} {r:R} {Q:Exit→Act→World→Prop} {ops:Array Oper}
theorem silent_bx0 {o:Oper} (h:silent o=true) {e:Env S} (bx bx':Bxs S) {R:Type} (K:PV S→Option R):popQ0 un tb orc inl o e bx K=(popQ0 un tb orc inl o e bx' some).bind K:=by
 unfold silent at h
 simp only [Bool.and_eq_true] at h
 have h2:=h.2
 unfold popQ0
 cases ho:o.op<;>rw [ho] at h2<;>simp at h2<;>simp only []
 case move x=>split<;>rfl
 case assign x=>split<;>rfl
 case nilCheck x=>split<;>rfl
 case fieldAddr s x f =>
  split
  ·rename_i p row hx hrow
   cases hk:Nat.beq row.kd 3 with
   | false=>rfl
   | true=>simp only [cond_true];split<;>rfl
  ·rfl
theorem silent_bx1 {o:Oper} (h:silent o=true) {e:Env S} (bx bx':Bxs S) {R:Type} (K:PV S→Option R):popQ1 un tb orc inl o e bx K=(popQ1 un tb orc inl o e bx' some).bind K:=by
 have h0:=silent_bx0 (un:=un) (tb:=tb) (orc:=orc) (inl:=inl) h (e:=e) bx bx' K
 unfold silent at h
 simp only [Bool.and_eq_true] at h
 have h2:=h.2
 unfold popQ1
 cases ho:o.op<;>rw [ho] at h2<;>simp at h2<;>simp only []
 case move x=>exact h0
 case assign x=>exact h0
 case nilCheck x =>
  split
  ·rfl
  ·exact h0
 case fieldAddr s x f =>
  split
  ·split
   ·rename_i row hrow
    cases hk:Nat.beq row.kd 3 with
    | false=>rfl
    | true=>simp only [cond_true];split<;>rfl
   ·rfl
  ·exact h0
theorem silent_bx {o:Oper} (h:silent o=true) {e:Env S} (bx bx':Bxs S) {R:Type} (K:PV S→Option R):popQ un tb orc inl o e bx K=(popQ un tb orc inl o e bx' some).bind K:=by
 have h0:=silent_bx1 (un:=un) (tb:=tb) (orc:=orc) (inl:=inl) h (e:=e) bx bx' K
 unfold silent at h
 simp only [Bool.and_eq_true] at h
 have h2:=h.2
 unfold popQ
 cases ho:o.op<;>rw [ho] at h2<;>simp at h2<;>exact h0
theorem silent_guard {o:Oper} (h:silent o=true):o.guard=none:=by
 unfold silent at h
 simp only [Bool.and_eq_true] at h
 cases hg:o.guard with
 | none=>rfl
 | some x=>rw [hg] at h;simp at h
theorem rowlessAt_spec {e:Env S}:∀{l:List Nat},rowlessAt e l=true→∀t∈l,∃q,look e t=some q∧q.rowless=true
 | [],_,t,ht=>by cases ht
 | u::l,h,t,ht=>by
   unfold rowlessAt at h
   simp only [Bool.and_eq_true] at h
   rcases List.mem_cons.1 ht with rfl | ht
   ·cases hl:look e t with
    | none=>rw [hl] at h;simp at h
    | some q=>rw [hl] at h;exact ⟨q,rfl,h.1⟩
   ·exact rowlessAt_spec h.2 t ht
theorem mem_slotsIn {l:List Operand} {t:Nat}:t∈slotsIn l↔Operand.tmp t∈l:=by
 simp only [slotsIn,List.mem_filterMap]
 constructor
 ·rintro ⟨x,h1,h2⟩
  cases x<;>simp at h2
  subst h2;exact h1
 ·intro h;exact ⟨_,h,rfl⟩
theorem slotsIn_looks {o:Oper} {t:Nat} (h:t∈slotsIn o.op.operands.toList):t∈o.looksAt ops:=by
 unfold Oper.looksAt
 exact List.mem_append_left _ h
theorem edge_spec {i j:Nat} (h:edge ops i j=true):∃o,ops[j]? =some o∧∃e∈o.after.toList,Region.binds .any e=true∧e.on=i:=by
 unfold edge at h
 split at h
 ·rename_i o ho
  refine ⟨o,ho,?_⟩
  rw [←Array.any_toList,List.any_eq_true] at h
  obtain ⟨e,h1,h2⟩:=h
  simp only [Bool.and_eq_true] at h2
  exact ⟨e,h1,h2.1,Nat.eq_of_beq_eq_true h2.2⟩
 ·cases h
structure SilOk (ops:Array Oper) (sn:List Nat) (i:Nat) (o:Oper) (d:Nat):Prop where
 get:ops[i]? =some o
 dst:o.dst=some d
 new:i∉sn
 uniq:∀j oj,ops[j]? =some oj→i≠j→oj.dst≠some d
 look:∀j oj,ops[j]? =some oj→d∈oj.looksAt ops→edge ops i j=true
 from_:∀j oj dj,ops[j]? =some oj→oj.dst=some dj→dj∈slotsIn o.op.operands.toList→j∈sn
theorem okSil_cons {sn:List Nat} {i:Nat} {l:List Nat} (h:okSil ops sn (i::l)=true):(∃o d,SilOk ops sn i o d)∧okSil ops (i::sn) l=true:=by
 unfold okSil at h
 rw [Bool.and_eq_true] at h
 refine ⟨?_,h.2⟩
 have h1:=h.1
 split at h1
 ·rename_i o ho
  split at h1
  ·rename_i d hd
   simp only [Bool.and_eq_true,List.all_eq_true,List.mem_range] at h1
   have hj:∀j oj,ops[j]? =some oj→_:=fun j oj hj=>by
    have:=h1.2 j (Array.getElem?_eq_some_iff.1 hj).1
    rw [hj] at this
    exact this
   refine ⟨o,d,ho,hd,by simpa using h1.1,fun j oj hj' hne=> ?_,fun j oj hj' hl=> ?_,fun j oj dj hj' hdj hm=> ?_⟩
   ·have:=hj j oj hj'
    simp only [Bool.and_eq_true,Bool.or_eq_true] at this
    rcases this.1.1 with h3 | h3
    ·exact absurd (Nat.eq_of_beq_eq_true h3) hne
    ·simpa using h3
   ·have:=hj j oj hj'
    simp only [Bool.and_eq_true,Bool.or_eq_true] at this
    rcases this.1.2 with h3 | h3
    ·simp [hl] at h3
    ·exact h3
   ·have:=hj j oj hj'
    simp only [Bool.and_eq_true,Bool.or_eq_true] at this
    rcases this.2 with h3 | h3
    ·simpa using h3
    ·rw [hdj] at h3;simp [hm] at h3
  ·cases h1
 ·cases h1
theorem okSil_mem:∀{sil sn:List Nat},okSil ops sn sil=true→∀s∈sil,s∉sn∧∃sn' o d,SilOk ops sn' s o d∧∀j∈sn',j∈sn∨j∈sil
 | [],_,_,s,hs=>by cases hs
 | i::l,sn,h,s,hs=>by
   obtain ⟨⟨o,d,h1⟩,h2⟩:=okSil_cons h
   rcases List.mem_cons.1 hs with rfl | hs
   ·exact ⟨h1.new,sn,o,d,h1,fun j hj=> .inl hj⟩
   ·obtain ⟨h3,sn',o',d',h4,h5⟩:=okSil_mem h2 s hs
    refine ⟨fun h=>h3 (by simp [h]),sn',o',d',h4,fun j hj=> ?_⟩
    rcases h5 j hj with h6 | h6
    ·rcases List.mem_cons.1 h6 with rfl | h6
     ·exact .inr (by simp)
     ·exact .inl h6
    ·exact .inr (by simp [h6])
structure SilAt (un:Uni S) (tb:Tb S) (orc:Orc S) (inl:Inl S) (e:Env S) (o:Oper) (d:Nat) (p:PV S):Prop where
 silent:Pe.silent o=true
 dst:o.dst=some d
 val:look e d=some p
 rowless:p.rowless=true
 args:∀t∈slotsIn o.op.operands.toList,∃q,look e t=some q∧q.rowless=true
 run:popQ un tb orc inl o e [] some=some p
structure EarlyAt (P:Program) (un:Uni S) (bx:Bxs S) (e:Env S) (o:Oper) (d:Nat) (p:PV S):Prop where
 guard:o.guard=none
 dst:o.dst=some d
 val:look e d=some p
 gives:Gives P un o (restr (slotsIn o.op.operands.toList) e) bx p
theorem reachG_spec {listed:Array Bool} {i:Nat} (hc:∀k j,edge ops k j=true→listed.getD j false=true→listed.getD k false=true):∀{l acc:List Nat},(∀j∈acc,listed.getD j false=true→listed.getD i false=true)→∀j∈reachG ops acc l,listed.getD j false=true→listed.getD i false=true
 | [],acc,h,j,hj=>h j hj
 | k::r,acc,h,j,hj=>by
   unfold reachG at hj
   cases hk:acc.any fun q=>edge ops q k with
   | false=>rw [hk] at hj;exact reachG_spec hc h j hj
   | true =>
     rw [hk] at hj
     refine reachG_spec hc (fun q hq=> ?_) j hj
     rcases List.mem_cons.1 hq with rfl | hq
     ·intro hl
      obtain ⟨z,hz,hz2⟩:=List.any_eq_true.1 hk
      exact h z hz (hc z q hz2 hl)
     ·exact h q hq
theorem reachG_edge {i:Nat}:∀{l acc:List Nat},(∀j∈acc,j=i∨∃k∈acc,edge ops k j=true)→∀j∈reachG ops acc l,j=i∨∃k∈reachG ops acc l,edge ops k j=true
 | [],acc,h,j,hj=>h j hj
 | q::r,acc,h,j,hj=>by
   unfold reachG at hj ⊢
   cases hk:acc.any fun z=>edge ops z q with
   | false=>rw [hk] at hj;exact reachG_edge h j hj
   | true =>
     rw [hk] at hj
     refine reachG_edge (fun z hz=> ?_) j hj
     rcases List.mem_cons.1 hz with rfl | hz
     ·obtain ⟨y,hy,hy2⟩:=List.any_eq_true.1 hk
      exact .inr ⟨y,by simp [hy],hy2⟩
     ·rcases h z hz with h1 | ⟨k,h1,h2⟩
      ·exact .inl h1
      ·exact .inr ⟨k,by simp [h1],h2⟩
theorem early_done {listed:Array Bool} {sil:List Nat} {i j:Nat} (he:earlyB ops sil i=true) (hi:i∈sil) (hj:j∉sil) {oj:Oper} (hoj:ops[j]? =some oj) (hcj:calmB oj=false) (hc:∀k j,edge ops k j=true→listed.getD j false=true→listed.getD k false=true) (hr:∀k,edge ops k j=true→listed.getD k false=true):listed.getD i false=true:=by
 unfold earlyB at he
 have h1:=List.all_eq_true.1 he j (List.mem_range.2 (Array.getElem?_eq_some_iff.1 hoj).1)
 rw [hoj] at h1
 simp only [Bool.or_eq_true,List.contains_iff_mem,hcj,Bool.false_eq_true,or_false] at h1
 rcases h1 with h1 | h1
 ·exact absurd h1 hj
 ·rcases reachG_edge (i:=i) (l:=List.range ops.size) (acc:=[i]) (fun z hz=> .inl (by simpa using hz)) j h1 with h2 | ⟨k,h2,h3⟩
  ·subst h2;exact absurd hi hj
  ·exact reachG_spec hc (l:=List.range ops.size) (acc:=[i]) (fun z hz hl=>by
    have hz:z=i:=by simpa using hz
    rw [←hz];exact hl) k h2 (hr k h3)
theorem execS_spec (hun:UniOk un) (ht:TbOk P un tb) (hor:SoundO P un orc) (hin:SoundI P un inl) {all:List Nat} {bx:Bxs S}:∀{sil sn:List Nat} {e:Env S} {K:Env S→Option R},execS un tb orc inl ops all bx sil e K=some r→okSil ops sn sil=true →
  ∃e1,K e1=some r∧(∀t,(∀s∈sil,∀o,ops[s]? =some o→o.dst≠some t)→look e1 t=look e t)∧∀s∈sil,∃o d p,ops[s]? =some o∧(SilAt un tb orc inl e1 o d p∨(earlyB ops all s=true∧EarlyAt P un bx e1 o d p))
 | [],sn,e,K,h,_=>⟨e,h,fun _ _=>rfl,fun s hs=>by cases hs⟩
 | i::l,sn,e,K,h,hok=>by
   obtain ⟨⟨o,d,h1⟩,h2⟩:=okSil_cons hok
   unfold execS at h
   rw [h1.get] at h
   simp only at h
   have other:∀s∈l,s≠i∧s∉sn:=fun s hs=>by
    have:=(okSil_mem h2 s hs).1
    exact ⟨fun he=>this (by simp [he]),fun hx=>this (by simp [hx])⟩
   have fin:∀p,execS un tb orc inl ops all bx l (push o.dst p e) K=some r →
     (∀e1,look e1 d=some p→(∀t∈slotsIn o.op.operands.toList,look e1 t=look e t)→SilAt un tb orc inl e1 o d p∨(earlyB ops all i=true∧EarlyAt P un bx e1 o d p)) →
     ∃e1,K e1=some r∧(∀t,(∀s∈i::l,∀o,ops[s]? =some o→o.dst≠some t)→look e1 t=look e t)∧∀s∈i::l,∃o d p,ops[s]? =some o∧(SilAt un tb orc inl e1 o d p∨(earlyB ops all s=true∧EarlyAt P un bx e1 o d p)):=by
    intro p h8 hme
    obtain ⟨e1,k1,k2,k3⟩:=execS_spec hun ht hor hin h8 h2
    have hd:look e1 d=some p:=by
     rw [k2 d fun s hs o' ho'=>h1.uniq s o' ho' (other s hs).1.symm]
     rw [h1.dst];simp [push,look]
    have hargs:∀t∈slotsIn o.op.operands.toList,look e1 t=look e t:=fun t ht=>by
     rw [k2 t fun s hs o' ho' hc=>(other s hs).2 (h1.from_ s o' t ho' hc ht)]
     rw [h1.dst]
     refine look_push_ne fun hc=> ?_
     simp at hc;subst hc
     exact h1.new (h1.from_ i o d h1.get h1.dst ht)
    refine ⟨e1,k1,fun t ht=> ?_,fun s hs=> ?_⟩
    ·rw [k2 t fun s hs=>ht s (by simp [hs])]
     exact look_push_ne (ht i (by simp) o h1.get)
    ·rcases List.mem_cons.1 hs with rfl | hs
     ·exact ⟨o,d,p,h1.get,hme e1 hd hargs⟩
     ·exact k3 s hs
   cases h3:silent o&&rowlessAt e (slotsIn o.op.operands.toList) with
   | true =>
     rw [h3] at h
     simp only [cond_true] at h
     simp only [Bool.and_eq_true] at h3
     rw [silent_bx h3.1 bx []] at h
     rw [Option.bind_eq_some_iff] at h
     obtain ⟨p,h5,h6⟩:=h
     obtain ⟨h7,h8⟩:=bif_some h6
     refine fin p h8 fun e1 hd hargs=> .inl ⟨h3.1,h1.dst,hd,h7,fun t ht=> ?_,?_⟩
     ·rw [hargs t ht];exact rowlessAt_spec h3.2 t ht
     ·rw [popQ_congr fun x hx t hxt=>hargs t (mem_slotsIn.2 (hxt▸hx))];exact h5
   | false =>
     rw [h3] at h
     simp only [cond_false] at h
     obtain ⟨h4,h5⟩:=bif_some h
     simp only [Bool.and_eq_true] at h4
     have hg:o.guard=none:=by
      cases hgd:o.guard with
      | none=>rfl
      | some g=>rw [hgd] at h4;cases h4.1
     rw [←popQ_restr] at h5
     obtain ⟨p,h6,h7⟩:=popQ_gives hun ht hor hin h5
     refine fin p h6 fun e1 hd hargs=> .inr ⟨h4.2,hg,h1.dst,hd,h7.sub fun t q hq=> ?_⟩
     rw [look_restr] at hq ⊢
     split at hq
     ·rename_i hm;rw [if_pos hm,hargs t hm];exact hq
     ·cases hq
theorem mark_size:∀(sil:List Nat) (listed:Array Bool),(mark listed sil).size=listed.size
 | [],_=>rfl
 | i::l,listed=>by simp [mark,mark_size l]
theorem mark_get:∀(sil:List Nat) (listed:Array Bool) (j:Nat),(mark listed sil)[j]? =if j<listed.size then (if j∈sil then some true else listed[j]?) else none
 | [],listed,j=>by
   simp only [mark,List.not_mem_nil,if_false]
   split
   ·rfl
   ·simp;omega
 | i::l,listed,j=>by
   simp only [mark,mark_get l,Array.size_setIfInBounds,List.mem_cons]
   split
   ·rename_i hlt
    by_cases hjl:j∈l
    ·simp [hjl]
    ·rw [if_neg hjl,Array.getElem?_setIfInBounds]
     by_cases hij:i=j
     ·subst hij;simp [hlt]
     ·simp [hij,hjl,Ne.symm hij]
   ·rfl
theorem mark_in {sil:List Nat} {i:Nat} (hi:i∈sil) (listed:Array Bool):mark (listed.setIfInBounds i true) sil=mark listed sil:=by
 apply Array.ext_getElem?
 intro j
 rw [mark_get,mark_get,Array.size_setIfInBounds,Array.getElem?_setIfInBounds]
 by_cases hij:i=j
 ·subst hij;simp [hi]
 ·simp [hij]
theorem mark_out {sil:List Nat} {i:Nat} (hi:i∉sil) (listed:Array Bool):mark (listed.setIfInBounds i true) sil=(mark listed sil).setIfInBounds i true:=by
 apply Array.ext_getElem?
 intro j
 rw [mark_get,Array.size_setIfInBounds,Array.getElem?_setIfInBounds,Array.getElem?_setIfInBounds,mark_get,mark_size]
 by_cases hij:i=j
 ·subst hij;simp [hi]
 ·simp [hij]
theorem mark_true {sil:List Nat} {listed:Array Bool} {j:Nat} {b:Bool} (h:listed.getD j false=true):(mark listed sil).getD j b=true:=by
 rw [Array.getD_eq_getD_getElem?] at h ⊢
 rw [mark_get]
 cases hj:listed[j]? with
 | none=>rw [hj] at h;simp at h
 | some x =>
   rw [hj] at h
   have hlt:=(Array.getElem?_eq_some_iff.1 hj).1
   rw [if_pos hlt]
   split
   ·rfl
   ·simpa using h
theorem mark_same {sil:List Nat} {listed:Array Bool} {j:Nat} {b:Bool} (h:j∉sil):(mark listed sil).getD j b=listed.getD j b:=by
 rw [Array.getD_eq_getD_getElem?,Array.getD_eq_getD_getElem?,mark_get,if_neg h]
 split
 ·rfl
 ·rename_i hlt
  have:listed[j]? =none:=by simp;omega
  rw [this]
theorem look_killO:∀{k:List (Nat×PV S)},∃f:PV S→PV S,(∀(e:Env S) t,look (takeE k e) t=(look e t).map f)∧∀p,p.rowless=true→f p=p
 | []=>⟨id,fun e t=>by simp [takeE],fun _ _=>rfl⟩
 | (b,y)::k=>by
   obtain ⟨f,h1,h2⟩:=look_killO (k:=k)
   refine ⟨fun p=>f (PV.kill b y p),fun e t=> ?_,fun p hp=> ?_⟩
   ·simp only [takeE]
    rw [h1,look_killE,Option.map_map];rfl
   ·show f (PV.kill b y p)=p
    rw [kill_rowless b y p hp];exact h2 p hp
theorem any2_wp (hmix:P.follows .mixedOrders=true) (hun:UniOk un) (ht:TbOk P un tb) (hor:SoundO P un orc) (hin:SoundI P un inl) {id:Nat} {sil:List Nat} {KX:Exit→Env S→Bxs S→Option R} {K:Env S→Bxs S→Option R} {e:Env S} {bx:Bxs S} {a:Act} {w:World}
  (hord:okOrder ops.toList=true) (hsok:okSil ops [] sil=true) (h:execS un tb orc inl ops sil bx sil e (fun e=>execAny un tb orc inl ops (fun x e bx=>KX x (without (dsts ops.toList) e) bx) ops.size (mark (Array.replicate ops.size false) sil) e bx K)=some r)
  (hd:∀o∈ops.toList,∀d,o.dst=some d→d<N.n) (hs:Holds un E D0 N e bx a { w with drawn:=w.drawn+1 })
  (hk:∀e' bx',K e' bx'=some r→Pres (dsts ops.toList) e e'→PresB bx bx'→∀a' w',Holds un E D0 N e' bx' a' w'→Q .normal a' w')
  (hkx:∀x e' bx',KX x e' bx'=some r→PresB bx bx'→∀a' w',Pres (dsts ops.toList) e e'→Holds un E D0 N e' bx' a' w'→Q x a' w'):(Code.region id ops true).wp P Q a w:=by
 obtain ⟨hback,hpair⟩:=okOrder_spec hord
 obtain ⟨e1,h1,h2,h3⟩:=execS_spec hun ht hor hin h hsok
 have hsil:=okSil_mem hsok
 have hlist:∀{i:Nat} {o:Oper},ops[i]? =some o→ops.toList[i]? =some o:=fun h=>by simpa using h
 have hget:∀{i:Nat} {o:Oper},ops[i]? =some o→i<ops.size:=fun h=>(Array.getElem?_eq_some_iff.1 h).1
 have hmem:∀{i:Nat} {o:Oper},ops[i]? =some o→o∈ops.toList:=fun h=>List.mem_of_getElem? (hlist h)
 refine wp_region_any hmix ?_
 have hinb:∀{listed:Array Bool} {i:Nat},listed.size=ops.size→i<ops.size→listed.getD i true=listed.getD i false:=fun {listed i} hsz hi=>by
  simp [Array.getD_eq_getD_getElem?,hsz,hi]
 have noready:∀(listed:Array Bool),listed.size=ops.size→Region.ready .any ops listed=[]→∀i,i<ops.size→listed.getD i false=true:=by
  intro listed hsz hr i hi
  cases hb:listed.getD i false with
  | true=>rfl
  | false =>
    obtain ⟨k,h1,h2,h3⟩:=least (p:=fun i=>listed.getD i false=false) ops.size ⟨i,hi,hb⟩
    have:k∈Region.ready .any ops listed:=ready_spec.2 ⟨h1,by rw [hinb hsz h1];exact h2,ops[k],by simp [h1],fun x hx hbx=>by
     have hlt:=hback k ops[k] (by simp [h1]) x hx hbx
     simpa using h3 _ hlt⟩
    rw [hr] at this;cases this
 have key:∀(fuel:Nat) (listed:Array Bool) (n:Nat) (em ea:Env S) (bx':Bxs S) (a:Act) (w:World),listed.size=ops.size→unl ops.size listed≤fuel →
   execAny un tb orc inl ops (fun x e bx=>KX x (without (dsts ops.toList) e) bx) n (mark listed sil) em bx' K=some r →
   (∀s∈sil,∃o d p,ops[s]? =some o∧(SilAt un tb orc inl em o d p∨(earlyB ops sil s=true∧(listed.getD s false=true∨EarlyAt P un bx' em o d p))))→(∀k j,edge ops k j=true→listed.getD j false=true→listed.getD k false=true) →
   (∀t,(∀s∈sil,listed.getD s false=false→∀o,ops[s]? =some o→o.dst≠some t)→look ea t=look em t) →
   Pres (dsts ops.toList) e em→PresB bx bx'→Holds un E D0 N ea bx' a w→wpAny P .any ops Q fuel listed a w:=by
  intro fuel
  have fin:∀{listed:Array Bool} {n:Nat} {em ea:Env S} {bx':Bxs S} {a:Act} {w:World},listed.size=ops.size→Region.ready .any ops listed=[] →
    execAny un tb orc inl ops (fun x e bx=>KX x (without (dsts ops.toList) e) bx) n (mark listed sil) em bx' K=some r →
    (∀s∈sil,∃o d p,ops[s]? =some o∧(SilAt un tb orc inl em o d p∨(earlyB ops sil s=true∧(listed.getD s false=true∨EarlyAt P un bx' em o d p))))→(∀k j,edge ops k j=true→listed.getD j false=true→listed.getD k false=true) →
    (∀t,(∀s∈sil,listed.getD s false=false→∀o,ops[s]? =some o→o.dst≠some t)→look ea t=look em t) →
    Pres (dsts ops.toList) e em→PresB bx bx'→Holds un E D0 N ea bx' a w→Q .normal a w:=by
   intro listed n em ea bx' a w hsz hr hm hs hcl hag hp hb hH
   have hall:=noready listed hsz hr
   have hr2:Region.ready .any ops (mark listed sil)=[]:=by
    apply List.eq_nil_iff_forall_not_mem.2
    intro i hi
    obtain ⟨g1,g2,_⟩:=ready_spec.1 hi
    rw [mark_true (hall i g1)] at g2;cases g2
   have hK:K em bx'=some r:=by
    cases n with
    | zero=>unfold execAny at hm;rw [hr2] at hm;exact hm
    | succ n=>unfold execAny at hm;rw [hr2] at hm;exact hm
   refine hk em bx' hK hp hb a w (hH.sub fun t p htp=> ?_)
   rw [hag t fun s hs hl o ho=>by
    obtain ⟨o',_,_,ho',_⟩:=h3 s hs
    have:=hall s (hget ho');rw [hl] at this;cases this]
   exact htp
  induction fuel with
  | zero =>
    intro listed n em ea bx' a w hsz hf hm hs hcl hag hp hb hH
    have hr:Region.ready .any ops listed=[]:=by
     apply List.eq_nil_iff_forall_not_mem.2
     intro i hi
     obtain ⟨g1,g2,_⟩:=ready_spec.1 hi
     have:i∈(List.range ops.size).filter fun i=> !listed.getD i true:=by simp only [List.mem_filter,List.mem_range];exact ⟨g1,by rw [g2];rfl⟩
     have h0:((List.range ops.size).filter fun i=> !listed.getD i true)=[]:=List.length_eq_zero_iff.1 (Nat.le_zero.1 hf)
     rw [h0] at this;cases this
    exact ⟨hr,fin hsz hr hm hs hcl hag hp hb hH⟩
  | succ fuel ih =>
    intro listed n em ea bx' a w hsz hf hm hs hcl hag hp hb hH
    refine ⟨fun hr=>fin hsz hr hm hs hcl hag hp hb hH,fun i hi=> ?_⟩
    obtain ⟨g1,g2,o,g3,g4⟩:=ready_spec.1 hi
    have g2':listed.getD i false=false:=by rw [←hinb hsz g1];exact g2
    have hset:∀j,(listed.setIfInBounds i true).getD j false=if j=i then true else listed.getD j false:=fun j=>by
     simp only [Array.getD_eq_getD_getElem?,Array.getElem?_setIfInBounds]
     by_cases hji:i=j
     ·subst hji;simp [hsz,g1]
     ·rw [if_neg hji,if_neg (Ne.symm hji)]
    have hunl:unl ops.size (listed.setIfInBounds i true)≤fuel:=by
     have:unl ops.size (listed.setIfInBounds i true)<unl ops.size listed:=by
      unfold unl
      refine filter_lt (fun j hj=> ?_) (List.mem_range.2 g1) (by rw [g2];rfl) ?_
      ·simp only [Array.getD_eq_getD_getElem?,Array.getElem?_setIfInBounds] at hj ⊢
       split at hj
       ·split at hj<;>simp at hj
       ·exact hj
      ·simp [Array.getD_eq_getD_getElem?,hsz,g1]
     omega
    have hops:∀x∈o.op.operands.toList,∀t,x= .tmp t→look ea t=look em t:=fun x hx t hxt=>by
     refine hag t fun s hs' hl o' ho' hc=> ?_
     obtain ⟨_,sn',o2,d2,hok,_⟩:=hsil s hs'
     have e1:=hok.get;rw [ho'] at e1;cases e1
     have e2:=hok.dst;rw [hc] at e2;cases e2
     obtain ⟨o3,k1,x',k2,k3,k4⟩:=edge_spec (hok.look i o g3 (slotsIn_looks (mem_slotsIn.2 (hxt▸hx))))
     rw [g3] at k1;cases k1
     have:=g4 x' k2 k3
     rw [k4,hl] at this;cases this
    have hready:∀k,edge ops k i=true→listed.getD k false=true:=fun k hk=>by
     obtain ⟨o3,k1,x',k2,k3,k4⟩:=edge_spec hk
     rw [g3] at k1;cases k1
     rw [←k4];exact g4 x' k2 k3
    have hcl':∀k j,edge ops k j=true→(listed.setIfInBounds i true).getD j false=true→(listed.setIfInBounds i true).getD k false=true:=fun k j hkj hj=>by
     rw [hset] at hj ⊢
     split
     ·rfl
     ·split at hj
      ·rename_i hji;subst hji;exact hready k hkj
      ·exact hcl k j hkj hj
    have hmono:∀s,listed.getD s false=true→(listed.setIfInBounds i true).getD s false=true:=fun s h=>by rw [hset];split<;>first | rfl | exact h
    unfold wpOp
    rw [g3]
    simp only
    by_cases hisil:i∈sil
    ·obtain ⟨o',d,p,ho',hst⟩:=hs i hisil
     rw [g3] at ho';cases ho'
     have hs2:∀s∈sil,∃o d p,ops[s]? =some o∧(SilAt un tb orc inl em o d p∨(earlyB ops sil s=true∧((listed.setIfInBounds i true).getD s false=true∨EarlyAt P un bx' em o d p))):=fun s hs'=>by
      obtain ⟨o,d,p,q1,q2⟩:=hs s hs'
      exact ⟨o,d,p,q1,q2.imp (fun z=>z) fun q=>⟨q.1,q.2.imp (hmono s) fun z=>z⟩⟩
     have key2:o.dst=some d→look em d=some p→∀a' w',Holds un E D0 N (push o.dst p ea) bx' a' w'→wpAny P .any ops Q fuel (listed.setIfInBounds i true) a' w':=fun hdst hval a' w' hH'=>by
      refine ih _ n em _ bx' a' w' (by simpa using hsz) hunl (by rw [mark_in hisil];exact hm) hs2 hcl' (fun t htt=> ?_) hp hb hH'
      by_cases htd:t=d
      ·subst htd
       rw [hdst,hval];simp [push,look]
      ·rw [look_push_ne (by rw [hdst];simpa using Ne.symm htd)]
       refine hag t fun s hs' hl o' ho'=> ?_
       by_cases hsi:s=i
       ·subst hsi
        rw [g3] at ho';cases ho'
        rw [hdst];simpa using Ne.symm htd
       ·exact htt s hs' (by rw [hset,if_neg hsi];exact hl) o' ho'
     rcases hst with hst | ⟨_,hst⟩
     rotate_left
     ·rcases hst with hst | hst
      ·rw [g2'] at hst;cases hst
      ·rw [if_pos (by simp [Region.wanted,hst.guard])]
       left
       refine gives_step (hst.gives.sub fun t q hq=> ?_) (hd o (hmem g3)) hH (key2 hst.dst hst.val)
       rw [look_restr] at hq
       split at hq
       ·rename_i htm
        rw [hops (.tmp t) (mem_slotsIn.1 htm) t rfl];exact hq
       ·cases hq
     rw [if_pos (by simp [Region.wanted,silent_guard hst.silent])]
     left
     have hrun:popQ un tb orc inl o ea bx' some=some p:=by
      rw [silent_bx hst.silent bx' [],popQ_congr hops,hst.run];rfl
     obtain ⟨p',hp',hg⟩:=popQ_gives hun ht hor hin hrun
     cases hp'
     exact gives_step hg (hd o (hmem g3)) hH (key2 hst.dst hst.val)
    ·have hir:i∈Region.ready .any ops (mark listed sil):=ready_spec.2 ⟨g1,by rw [mark_same hisil];exact g2,o,g3,fun x hx hbx=>mark_true (g4 x hx hbx)⟩
     cases n with
     | zero =>
       unfold execAny at hm
       split at hm
       ·rename_i hr;rw [hr] at hir;cases hir
       ·cases hm
     | succ n =>
       unfold execAny at hm
       split at hm
       ·rename_i hr;rw [hr] at hir;cases hir
       ·rename_i i0 l0 hr
        rw [hr] at hir
        have hm1:=sameL_some hm _ (List.mem_map.2 ⟨i,hir,rfl⟩)
        simp only [g3] at hm1
        split at hm1
        ·rename_i hg
         rw [if_pos (by simp [Region.wanted,hg])]
         left
         cases hcalm:calmB o with
         | true =>
           have hq:popQ un tb orc inl o em bx' (fun p=>execAny un tb orc inl ops (fun x e bx=>KX x (without (dsts ops.toList) e) bx) n ((mark listed sil).setIfInBounds i true) (push o.dst p em) bx' K)=some r:=by
            unfold popK popK1 popK0 at hm1
            unfold calmB at hcalm
            split at hcalm
            ·rename_i ho;simp only [ho] at hm1;exact hm1
            ·rename_i ho;simp only [ho] at hm1;exact hm1
            ·rename_i ho;simp only [ho] at hm1;exact hm1
            ·rename_i ho;simp only [ho] at hm1;exact hm1
            ·rename_i ho;simp only [ho] at hm1;exact hm1
            ·cases hcalm
           rw [←popQ_restr] at hq
           obtain ⟨p,hK2,hgv⟩:=popQ_gives hun ht hor hin hq
           refine gives_step (hgv.sub fun t q hq=> ?_) (hd o (hmem g3)) hH fun a' w' hH2=> ?_
           ·rw [look_restr] at hq
            split at hq
            ·rename_i htm
             rw [hops (.tmp t) (mem_slotsIn.1 htm) t rfl];exact hq
            ·cases hq
           ·refine ih _ n _ _ bx' a' w' (by simpa using hsz) hunl (by rw [mark_out hisil];exact hK2) (fun s hs'=> ?_) hcl' (fun t htt=> ?_) ?_ hb hH2
            ·obtain ⟨os,d,ps,ho',hst⟩:=hs s hs'
             obtain ⟨_,sn',o2,d2,hok,hsn⟩:=hsil s hs'
             have q1:=hok.get;rw [ho'] at q1;cases q1
             have hne:s≠i:=fun h=>hisil (h▸hs')
             have hnw:∀t∈slotsIn os.op.operands.toList,o.dst≠some t:=fun t htm hc=>by
              rcases hsn _ (hok.from_ i o t g3 hc htm) with h4 | h4
              ·cases h4
              ·exact hisil h4
             have harg:∀t∈slotsIn os.op.operands.toList,look (push o.dst p em) t=look em t:=fun t htm=>look_push_ne (hnw t htm)
             refine ⟨os,d,ps,ho',?_⟩
             rcases hst with hst | ⟨hst,hst2⟩
             ·have q2:=hok.dst;rw [hst.dst] at q2;cases q2
              refine .inl ⟨hst.silent,hst.dst,?_,hst.rowless,fun t htm=> ?_,?_⟩
              ·rw [look_push_ne (hok.uniq i o g3 hne)];exact hst.val
              ·rw [harg t htm];exact hst.args t htm
              ·rw [popQ_congr (e:=em) fun x hx t hxt=>harg t (mem_slotsIn.2 (hxt▸hx))];exact hst.run
             ·refine .inr ⟨hst,?_⟩
              rcases hst2 with h5 | h5
              ·exact .inl (hmono s h5)
              ·have q2:=hok.dst;rw [h5.dst] at q2;cases q2
               refine .inr ⟨h5.guard,h5.dst,?_,h5.gives.sub fun t q hq=> ?_⟩
               ·rw [look_push_ne (hok.uniq i o g3 hne)];exact h5.val
               ·rw [look_restr] at hq ⊢
                split at hq
                ·rename_i htm;rw [if_pos htm,harg t htm];exact hq
                ·cases hq
            ·by_cases htd:o.dst=some t
             ·rw [htd];simp [push,look]
             ·rw [look_push_ne htd,look_push_ne htd]
              refine hag t fun s hs' hl o' ho'=> ?_
              have hne:s≠i:=fun h=>hisil (h▸hs')
              exact htt s hs' (by rw [hset,if_neg hne];exact hl) o' ho'
            ·refine (hp.trans (Pres.push [] em o.dst p)).mono fun t htt=> ?_
             simp only [List.mem_append] at htt
             rcases htt with htt | htt
             ·exact htt
             ·simp only [dsts,List.mem_filterMap]
              exact ⟨o,hmem g3,by simpa using htt⟩
         | false =>
         have hm2:=popK_congr hops hm1
         have hpush:∀{e':Env S} {p:PV S} {e0:Env S},Pres [] e0 e'→Pres (dsts ops.toList) e e0→Pres (dsts ops.toList) e (push o.dst p e'):=fun {e' p e0} q1 q2=>by
          refine ((q2.trans q1).trans (Pres.push [] e' o.dst p)).mono fun t htt=> ?_
          simp only [List.append_nil,List.mem_append] at htt
          rcases htt with htt | htt
          ·exact htt
          ·simp only [dsts,List.mem_filterMap]
           exact ⟨o,hmem g3,by simpa using htt⟩
         refine popK_wp hun ht hor hin hm2 (hd o (hmem g3)) hH (fun p e' bx2 hK2 hp2 hb2 a' w' hH2=> ?_) fun x e' bx2 hK2 hp2 hb2 a' w' hH2=> ?_
         ·split at hK2
          ·rename_i he'
           subst he'
           obtain ⟨f,hf1,hf2⟩:=look_killO (k:=killOf tb o em bx')
           have hemk:Pres [] em (takeE (killOf tb o em bx') em):=fun t q _ hq hr=>by rw [hf1,hq];simp [hf2 q hr]
           refine ih _ n _ _ bx2 a' w' (by simpa using hsz) hunl (by rw [mark_out hisil];exact hK2) (fun s hs'=> ?_) hcl' (fun t htt=> ?_) (hpush hemk hp) (hb.trans hb2) hH2
           ·obtain ⟨os,d,ps,ho',hst⟩:=hs s hs'
            rcases hst with hst | ⟨hst,_⟩
            rotate_left
            ·exact ⟨os,d,ps,ho',.inr ⟨hst,.inl (hmono s (early_done hst hs' hisil g3 hcalm hcl hready))⟩⟩
            obtain ⟨_,sn',o2,d2,hok,hsn⟩:=hsil s hs'
            have q1:=hok.get;rw [ho'] at q1;cases q1
            have q2:=hok.dst;rw [hst.dst] at q2;cases q2
            have hne:s≠i:=fun h=>hisil (h▸hs')
            have hval:∀t,o.dst≠some t→∀q,look em t=some q→q.rowless=true→look (push o.dst p (takeE (killOf tb o em bx') em)) t=some q:=fun t hn q hq hr=>by
             rw [look_push_ne hn,hf1,hq];simp [hf2 q hr]
            have hnw:∀t∈slotsIn os.op.operands.toList,o.dst≠some t:=fun t htm hc=>by
             rcases hsn _ (hok.from_ i o t g3 hc htm) with h4 | h4
             ·cases h4
             ·exact hisil h4
            refine ⟨os,d,ps,ho',.inl ⟨hst.silent,hst.dst,hval d (hok.uniq i o g3 hne) ps hst.val hst.rowless,hst.rowless,fun t htm=> ?_,?_⟩⟩
            ·obtain ⟨q,hq1,hq2⟩:=hst.args t htm
             exact ⟨q,hval t (hnw t htm) q hq1 hq2,hq2⟩
            ·rw [popQ_congr (e:=em) fun x hx t hxt=> ?_]
             ·exact hst.run
             ·have htm:=mem_slotsIn.2 (hxt▸hx)
              obtain ⟨q,hq1,hq2⟩:=hst.args t htm
              rw [hval t (hnw t htm) q hq1 hq2,hq1]
           ·by_cases htd:o.dst=some t
            ·rw [htd];simp [push,look]
            ·rw [look_push_ne htd,look_push_ne htd,hf1,hf1]
             rw [hag t fun s hs' hl o' ho'=> ?_]
             have hne:s≠i:=fun h=>hisil (h▸hs')
             exact htt s hs' (by rw [hset,if_neg hne];exact hl) o' ho'
          ·cases hK2
         ·split at hK2
          ·rename_i he'
           subst he'
           obtain ⟨f,hf1,hf2⟩:=look_killO (k:=killX tb o em bx')
           refine hkx x _ bx2 hK2 (hb.trans hb2) a' w' (fun t q hn hq hr=> ?_) (hH2.sub fun t q hq=> ?_)
           ·rw [look_without,if_neg hn,hf1,hp t q hn hq hr];simp [hf2 q hr]
           ·rw [look_without] at hq
            split at hq
            ·cases hq
            ·rename_i hn
             rw [hf1] at hq ⊢
             rw [hag t fun s hs' hl o' ho' hc=>hn (mem_dsts.2 ⟨s,o',hlist ho',hc⟩)]
             exact hq
          ·cases hK2
        ·cases hm1
 refine key ops.size _ ops.size e1 e bx a _ (by simp) ?_ h1 (fun s hs'=> ?_) (fun k j _ hj=> ?_) (fun t htt=> ?_) (fun t q hn hq _=> ?_) (PresB.refl _) hs
 ·exact Nat.le_trans (List.length_filter_le _ _) (by simp)
 ·obtain ⟨o,d,p,q1,q2⟩:=h3 s hs'
  exact ⟨o,d,p,q1,q2.imp (fun z=>z) fun q=>⟨q.1,.inr q.2⟩⟩
 ·simp [Array.getD_eq_getD_getElem?,Array.getElem?_replicate] at hj;split at hj<;>simp at hj
 ·refine (h2 t fun s hs' o ho=>htt s hs' ?_ o ho).symm
  simp only [Array.getD_eq_getD_getElem?,Array.getElem?_replicate]
  split<;>rfl
 ·rw [h2 t fun s hs' o ho hc=>hn (mem_dsts.2 ⟨s,o,hlist ho,hc⟩)];exact hq
end
end Pe
end
section
/- Code, and functions. -/
namespace Pe
open Go Go.RowKit
variable {S:Nat→Type}
section
variable {P:Program} {un:Uni S} {tb:Tb S} {orc:Orc S} {inl:Inl S} {an:Ann} {E:Wl.Ctx} {D0:Dat} {N:Wl.Fr}
theorem Holds.draw {e:Env S} {bx:Bxs S} {a:Act} {w:World} (h:Holds un E D0 N e bx a w) (n:Nat):Holds un E D0 N e bx a { w with drawn:=n }:=by
 obtain ⟨D,H,hs,hD⟩:=h
 have g:Ge D w D { w with drawn:=n }:=⟨fun _ _ h=>h,fun _ _ _=>rfl⟩
 refine ⟨D,H,⟨⟨⟨hs.inn.out.os,hs.inn.out.tape,hs.inn.out.output,hs.inn.out.size,hs.inn.out.block⟩,hs.inn.lt,fun r hr=>Wl.Res.holds_of (hs.inn.res r hr) fun _ _=>rfl,hs.inn.apart,hs.inn.disj,hs.inn.lent⟩,hs.size,hs.defers,BxRep.mono g (fun _ _ _=>rfl) (fun _ _ h=>h) hs.boxes,fun i p hi=>(hs.slots i p hi).ge g fun _ _ h=>h⟩,hD.1,hD.2.trans g⟩
theorem exec_wp (hmix:P.follows .mixedOrders=true) (hun:UniOk un) (ht:TbOk P un tb) (hor:SoundO P un orc) (hin:SoundI P un inl):∀(c:Code) (R:Type) (e:Env S) (bx:Bxs S) (K:Exit→Env S→Bxs S→Option R) (r:R),exec un tb orc inl an c R e bx K=some r→(∀d∈writes c,d<N.n) →
  ∀{a:Act} {w:World} {Q:Exit→Act→World→Prop},Holds un E D0 N e bx a w→(∀x e' bx',K x e' bx'=some r→Pres (touch an c) e e'→PresB bx bx'→∀a' w',Holds un E D0 N e' bx' a' w'→Q x a' w')→c.wp P Q a w:=by
 intro c
 induction c with
 | skip=>intro R e bx K r h _ a w Q hs hk;exact wp_skip (hk _ _ _ h (Pres.refl _ _) (PresB.refl _) a w hs)
 | ret=>intro R e bx K r h _ a w Q hs hk;exact wp_ret (hk _ _ _ h (Pres.refl _ _) (PresB.refl _) a w hs)
 | exit i=>intro R e bx K r h _ a w Q hs hk;exact wp_exit (hk _ _ _ h (Pres.refl _ _) (PresB.refl _) a w hs)
 | region id ops draw =>
   intro R e bx K r h hd a w Q hs hk
   have hd':∀o∈ops.toList,∀d,o.dst=some d→d<N.n:=fun o ho d hdd=>hd d (by simp only [writes,List.mem_filterMap];exact ⟨o,ho,hdd⟩)
   cases draw with
   | false =>
     simp only [exec] at h
     cases hdup:an.dup.any (Nat.beq id) with
     | true =>
       rw [hdup] at h
       simp only [cond_true] at h
       have:=execG_wp (Q:=Q) hun ht hor hin _ _ _ _ _ _ h (fun d v hv=>by simp [lookK] at hv) hd' hs (fun e' bx' h1 h2 h3 a' w' h4=>hk .normal e' bx' h1 (by simpa only [touch] using h2) h3 a' w' h4) fun x e' bx' h1 h2 h3 a' w' h4=>hk x e' bx' h1 (by simpa only [touch] using h2) h3 a' w' h4
       have h5:=wp_region_lit (id:=id) (by simpa using this)
       simpa using h5
     | false =>
     rw [hdup] at h
     simp only [cond_false] at h
     have:=execR_wp (Q:=Q) hun ht hor hin _ _ _ _ _ h hd' hs (fun e' bx' h1 h2 h3 a' w' h4=>hk .normal e' bx' h1 (by simpa only [touch] using h2) h3 a' w' h4) fun x e' bx' h1 h2 h3 a' w' h4=>hk x e' bx' h1 (by simpa only [touch] using h2) h3 a' w' h4
     have h5:=wp_region_lit (id:=id) (by simpa using this)
     simpa using h5
   | true =>
     simp only [exec] at h
     cases han:lookA an.any id with
     | some sil =>
       rw [han] at h
       simp only at h
       obtain ⟨h1,h2⟩:=bif_some h
       simp only [Bool.and_eq_true] at h1
       exact any2_wp hmix hun ht hor hin h1.1 h1.2 h2 hd' (hs.draw _) (fun e' bx' h1 h2 h3 a' w' h4=>hk .normal e' bx' h1 (by simpa only [touch] using h2) h3 a' w' h4) fun x e' bx' h1 h3 a' w' h2 h4=>hk x e' bx' h1 (by simpa only [touch] using h2) h3 a' w' h4
     | none =>
     rw [han] at h
     simp only at h
     obtain ⟨h1,h2⟩:=bif_some h
     obtain ⟨e',e'',g1,g2,g3,g4⟩:=execQ_path hun ht hor hin _ _ _ _ _ _ _ h2 (fun d v hv=>by simp [lookK] at hv)
     refine any_wp hmix h1 g2 hd' (hs.draw _) fun a' w' h4=>hk .normal e' bx g1 (fun i p hi hp _=> ?_) (PresB.refl _) a' w' (h4.sub g3)
     rw [g4 i (by simpa only [touch] using hi)];exact hp
 | seq x y ihx ihy =>
   intro R e bx K r h hd a w Q hs hk
   have hdx:∀d∈writes x,d<N.n:=fun d hdd=>hd d (by simp [writes,hdd])
   have hdy:∀d∈writes y,d<N.n:=fun d hdd=>hd d (by simp [writes,hdd])
   unfold exec at h
   cases hcut:(firstR y).bind an.cut.get with
   | none =>
     rw [hcut] at h
     simp only at h
     refine wp_seq (ihx _ _ _ _ _ h hdx hs fun q e1 bx1 h1 hp1 hb1 a1 w1 h2=> ?_)
     have hmono:∀i∈touch an x,i∈touch an (.seq x y):=fun i hi=>by simp [touch,hi]
     cases q<;>first
      | exact hk _ _ _ h1 (hp1.mono hmono) hb1 _ _ h2
      | exact ihy _ _ _ _ _ h1 hdy h2 fun q e2 bx2 h3 hp2 hb2 a2 w2 h4=>hk q e2 bx2 h3 ((hp1.trans hp2).mono fun i hi=>by simp only [touch,List.mem_append] at hi ⊢;exact .inl hi) (hb1.trans hb2) a2 w2 h4
   | some c =>
     rw [hcut] at h
     simp only at h
     obtain ⟨z,h1,h2⟩:=cutM_some h
     refine wp_seq (ihx _ _ _ _ _ h1 hdx (hs.lock c.boxes) fun q e1 bx1 h3 hp1 hb1 a1 w1 h4=> ?_)
     have abn:∀q,(K q e1 (unlock bx.length (lockFrom c.boxes 0 bx) bx1)).map .inr=some z→Q q a1 w1:=by
      intro q h3
      obtain ⟨r',h5,h6⟩:=map_some' h3
      subst h6
      rcases h2 with ⟨t,h2,_⟩ | h2
      ·cases h2
      ·cases h2
       exact hk q e1 _ h5 (hp1.mono fun i hi=>by simp [touch,hi]) hb1.unlock a1 w1 (h4.unlock _ _)
     cases q<;>first
      | exact abn _ h3
      | (obtain ⟨t,h5,h6⟩:=map_some' h3
         subst h6
         rcases h2 with ⟨t',h2,h7⟩ | h2
         ·cases h2
          obtain ⟨g1,g2⟩:=cut_holds hun (W:=touch an x) hs h4 (fun i p hi hp=>by
           obtain ⟨_,m2,m3,m4⟩:=maskG_spec _ _ _ _ _ hp
           exact hp1 i p (fun hm=>m2 (List.mem_append_right _ hm)) m3 m4) (fun i b hi=>kept_of hb1 hi) (by have:=hb1.len;rw [lock_length] at this;exact this) h5
          exact ihy _ _ _ _ _ h7 hdy g1 fun q e2 bx2 h8 hp2 hb2 a2 w2 h9=>hk q e2 bx2 h8 (((Pres.mkEnv c (touch an x) e bx.length t).trans hp2).mono fun i hi=>by simp only [touch,hcut,List.mem_append] at hi ⊢;rcases hi with (hi | hi) | hi<;>simp [hi]) (g2.trans hb2) a2 w2 h9
         ·cases h2)
 | cond o x y ihx ihy =>
   intro R e bx K r h hd a w Q hs hk
   simp only [exec] at h
   split at h
   ·rename_i b hb
    have hev:a.eval o= .bool b:=by
     obtain ⟨D,H,hs,_⟩:=hs
     have:=hs.ev hb;simpa only [Rep] using this
    refine wp_cond_split hev (fun hb=> ?_) (fun hb=> ?_)
    ·subst hb
     exact ihx _ _ _ _ _ h (fun d hdd=>hd d (by simp [writes,hdd])) hs fun q e1 bx1 h1 hp1 hb1 a1 w1 h2=>hk q e1 bx1 h1 (hp1.mono fun i hi=>by simp [touch,hi]) hb1 a1 w1 h2
    ·subst hb
     exact ihy _ _ _ _ _ h (fun d hdd=>hd d (by simp [writes,hdd])) hs fun q e1 bx1 h1 hp1 hb1 a1 w1 h2=>hk q e1 bx1 h1 (hp1.mono fun i hi=>by simp [touch,hi]) hb1 a1 w1 h2
   ·cases h
 | block i c ih =>
   intro R e bx K r h hd a w Q hs hk
   simp only [exec] at h
   refine wp_block (ih _ _ _ _ _ h (fun d hdd=>hd d (by simpa [writes] using hdd)) hs fun q e1 bx1 h1 hp1 hb1 a1 w1 h2=> ?_)
   have hp:Pres (touch an (.block i c)) e e1:=hp1.mono fun i hi=>by simpa [touch] using hi
   cases q with
   | exit j =>
     simp only at h1
     cases hij:Nat.beq i j with
     | true =>
       rw [hij] at h1
       have:=Nat.eq_of_beq_eq_true hij
       subst this
       simp only [Exit.inBlock,if_true]
       exact hk .normal e1 bx1 h1 hp hb1 a1 w1 h2
     | false =>
       rw [hij] at h1
       have hne:¬j=i:=fun he=>by subst he;simp at hij
       simp only [Exit.inBlock,hne,if_false]
       exact hk (.exit j) e1 bx1 h1 hp hb1 a1 w1 h2
   | normal=>exact hk .normal e1 bx1 h1 hp hb1 a1 w1 h2
   | goto l=>exact hk (.goto l) e1 bx1 h1 hp hb1 a1 w1 h2
   | ret=>exact hk .ret e1 bx1 h1 hp hb1 a1 w1 h2
   | panic ch=>exact hk (.panic ch) e1 bx1 h1 hp hb1 a1 w1 h2
   | outgrown=>exact hk .outgrown e1 bx1 h1 hp hb1 a1 w1 h2
 | loop c ih =>
   intro R e bx K r h hd a w Q hs hk
   unfold exec at h
   cases hcut:(firstR c).bind an.loop.get with
   | none=>rw [hcut] at h;cases h
   | some ct =>
     rw [hcut] at h
     simp only at h
     split at h
     ·cases h
     ·rename_i t0 ht0
      obtain ⟨n,hn⟩:=loopM_some h
      have hdc:∀d∈writes c,d<N.n:=fun d hdd=>hd d (by simpa [writes] using hdd)
      have htch:∀i∈touch an c++ct.names,i∈touch an (.loop c):=fun i hi=>by simpa [touch,hcut] using hi
      have h00:Holds un E D0 N (mkEnv ct (touch an c) e bx.length t0) (mkBx ct bx t0) a w∧PresB bx (mkBx ct bx t0):=by
       exact cut_holds hun (W:=touch an c) hs (hs.lock ct.boxes) (fun i p hi hp=>(maskG_spec _ _ _ _ _ hp).2.2.1) (fun i b hi=>kept_of (PresB.refl _) hi) (by rw [lock_length];exact Nat.le_refl _) ht0
      refine wp_loop_ghost (fun (x:Nat×ElL S ct.codes) a w=>iter (fun t=>exec un tb orc inl an c (ElL S ct.codes⊕R) (mkEnv ct (touch an c) e bx.length t) (lockFrom ct.boxes 0 (mkBx ct bx t)) fun x e' bx'=>match x with
       | .normal=>(castCut un ct e' bx').map .inl
       | x=>(K x e' (unlock (mkBx ct bx t).length (lockFrom ct.boxes 0 (mkBx ct bx t)) bx')).map .inr) x.1 x.2=some r∧Holds un E D0 N (mkEnv ct (touch an c) e bx.length x.2) (mkBx ct bx x.2) a w∧PresB bx (mkBx ct bx x.2)) (fun x=>x.1) (fun x a1 w1 hI=> ?_) (n,t0) a w ⟨hn,h00⟩
      obtain ⟨k,t⟩:=x
      obtain ⟨hit,hH,hB⟩:=hI
      cases k with
      | zero=>simp [iter] at hit
      | succ k =>
        simp only [iter] at hit
        split at hit
        ·rename_i y hy
         refine ih _ _ _ _ _ hy hdc (hH.lock ct.boxes) fun q e1 bx1 h3 hp1 hb1 a2 w2 h4=> ?_
         have abn:∀q,(K q e1 (unlock (mkBx ct bx t).length (lockFrom ct.boxes 0 (mkBx ct bx t)) bx1)).map Sum.inr=some (Sum.inl y)→False:=fun q h=>by
          obtain ⟨_,_,h6⟩:=map_some' h;cases h6
         cases q<;>first
          | exact (abn _ h3).elim
          | (obtain ⟨t',h5,h6⟩:=map_some' h3
             cases h6
             have:=cut_holds hun (W:=touch an c) hs h4 (fun i p hi hp=>by
              obtain ⟨_,m2,m3,m4⟩:=maskG_spec _ _ _ _ _ hp
              simp only [List.mem_append,not_or] at m2
              refine hp1 i p m2.2 ?_ m4
              unfold mkEnv;rw [tail_out m2.1,zip_out _ _ _ _ hi];exact hp) (fun i b hi=>kept_loop hB hb1 hi) (by have h8:=hb1.len;rw [lock_length] at h8;exact Nat.le_trans hB.len h8) h5
             exact ⟨(k,_),⟨hit,this⟩,Nat.lt_succ_self _⟩)
        ·rename_i r' hy
         cases hit
         refine ih _ _ _ _ _ hy hdc (hH.lock ct.boxes) fun q e1 bx1 h3 hp1 hb1 a2 w2 h4=> ?_
         have abn:∀q,(K q e1 (unlock (mkBx ct bx t).length (lockFrom ct.boxes 0 (mkBx ct bx t)) bx1)).map (Sum.inr:R→ElL S ct.codes⊕R)=some (Sum.inr r)→Q q a2 w2:=fun q h=>by
          obtain ⟨r2,h5,h6⟩:=map_some' (r:=Sum.inr r) h;cases h6
          exact hk q e1 _ h5 (((Pres.mkEnv ct (touch an c) e bx.length t).trans hp1).mono fun i hi=>htch i (by simp only [List.mem_append] at hi ⊢;rcases hi with (hi | hi) | hi<;>simp [hi])) (hB.trans hb1.unlock) a2 w2 (h4.unlock _ _)
         cases q<;>first
          | exact abn _ h3
          | (exfalso;obtain ⟨_,_,h6⟩:=map_some' (r:=Sum.inr _) h3;cases h6)
        ·cases hit
 | _=>intro R e bx K r h;simp [exec] at h
end
end Pe
end
section
/- Functions. -/
namespace Pe
open Go Go.RowKit
variable {S:Nat→Type}
section
variable {P:Program} {un:Uni S} {tb:Tb S} {orc:Orc S} {inl:Inl S} {an:Ann} {E:Wl.Ctx} {D:Dat} {H:List Wl.Res} {N:Wl.Fr} {e:Env S} {bx:Bxs S} {a:Act} {w:World}
theorem castL_cons {u:U} {us:List U} {p:PV S} {ps:List (PV S)} {t:ElL S (u::us)} (h:castL un bx (u::us) (p::ps)=some t):∃x t',Pe.cast un u (Pe.fz bx p)=some x∧castL un bx us ps=some t'∧t=(x,t'):=by
 unfold castL at h
 split at h
 ·rename_i x t' h1 h2;cases h;exact ⟨x,t',h1,h2,rfl⟩
 ·cases h
theorem castL_rep (hun:UniOk un) (hs:St un E N D H e bx a w) {nu':Nu}:∀{us:List U} {ps:List (PV S)} {t:ElL S us} {vs:List Value},castL un bx us ps=some t→RepL un (ids H) D w ps vs→RepL un nu' D w (injL us t) vs
 | [],[],t,[],_,_=>by simp [injL,RepL]
 | u::us,p::ps,t,v::vs,hc,hr=>by
   obtain ⟨x,t',h1,h2,rfl⟩:=castL_cons hc
   simp only [RepL,injL] at hr ⊢
   exact ⟨Rep_inj (cast_dr hun h1 (hs.fz hun hr.1)).2,castL_rep hun hs h2 hr.2⟩
 | [],_::_,_,_,hc,_=>by simp [castL] at hc
 | _::_,[],_,_,hc,_=>by simp [castL] at hc
 | [],[],_,_::_,_,hr=>by simp [RepL] at hr
 | _::_,_::_,_,[],_,hr=>by simp [RepL] at hr
def resM (tmps:Array Value):ResultVar→Sem Value
 | .tmp t=>pure (tmps.getD t undef)
 | .cell b T=>do loadVar T (←asAddr (tmps.getD b undef))
theorem results_eq (fn:Func) (tmps:Array Value):results fn tmps=(do let vs ←fn.results.toList.mapM (resM tmps);pure (if hh:vs.toArray.size=1 then vs.toArray[0] else .tuple vs.toArray)):=by
 have:(fun x:ResultVar=>match x with
  | .tmp t=>pure (tmps.getD t undef)
  | .cell a t=>do loadVar t (←asAddr (tmps.getD a undef)))=resM tmps:=by funext x;cases x<;>rfl
 unfold results
 rw [Array.mapM_eq_mapM_toList]
 simp only [map_eq_pure_bind,bind_assoc,pure_bind]
 exact congrArg (fun f=>fn.results.toList.mapM f >>= fun vs=>pure (if hh:vs.toArray.size=1 then vs.toArray[0] else .tuple vs.toArray)) this
theorem resPs_run (hun:UniOk un) (ht:TbOk P un tb) (hs:St un E N D H e bx a w):∀{rvs:List ResultVar} {ps:List (PV S)},resPs un tb e bx rvs=some ps →
  ∃vs:List Value,(rvs.mapM (resM a.tmps)).run P w= .ok vs w∧RepL un (ids H) D w ps vs
 | [],ps,h=>by simp [resPs] at h;subst h;exact ⟨[],by simp,by simp [RepL]⟩
 | .tmp t::r,ps,h=>by
   unfold resPs at h
   split at h
   ·rename_i p l h1 h2
    cases h
    obtain ⟨vs,g1,g2⟩:=resPs_run hun ht hs h2
    exact ⟨a.tmps.getD t undef::vs,by simp only [List.mapM_cons,resM,pure_bind,Sem.run_bind,g1,Result.andThen];rfl,by simp only [RepL];exact ⟨hs.slots t p h1,g2⟩⟩
   ·cases h
 | .cell b T::r,ps,h=>by
   unfold resPs at h
   split at h
   ·rename_i q l h1 h2
    split at h
    ·rename_i p h3
     cases h
     obtain ⟨vs,g1,g2⟩:=resPs_run hun ht hs h2
     obtain ⟨u,g3,g4⟩:=load_rep hun ht hs h3 (hs.slots b q h1)
     refine ⟨u::vs,?_,by simp only [RepL];exact ⟨g4,g2⟩⟩
     have g5:(resM a.tmps (.cell b T)).run P w= .ok u w:=by
      simp only [resM]
      unfold Instr.loadAt at g3
      generalize a.tmps.getD b undef=vv at g3 ⊢
      cases vv with
      | pointer ad =>
        cases ad with
        | some ad=>simpa [asAddr,Instr.sureAddr] using g3
        | none=>simp [Instr.sureAddr,stuck,Sem.run_bind] at g3
      | _=>simp [Instr.sureAddr,stuck,Sem.run_bind] at g3
     simp only [List.mapM_cons,Sem.run_bind,g5,Result.andThen,g1];rfl
    ·cases h
   ·cases h
theorem rep_one {nu:Nu} {ps:List (PV S)} {vs:List Value} (h:RepL un nu D w ps vs):Rep un nu D w (one? ps) (if hh:vs.toArray.size=1 then vs.toArray[0] else .tuple vs.toArray):=by
 match ps,vs,h with
 | [],[],_=>simp [one?,Rep,RepL]
 | [p],[v],h=>simpa [one?,RepL] using h
 | p::q::ps,v::x::vs,h=>simp only [one?,Rep];exact ⟨_,by simp,h⟩
 | [],_::_,h=>simp [RepL] at h
 | _::_,[],h=>simp [RepL] at h
 | [_],_::_::_,h=>simp [RepL] at h
 | _::_::_,[_],h=>simp [RepL] at h
theorem results_frozen (hun:UniOk un) (ht:TbOk P un tb) (hs:St un E N D H e bx a w) {fn:Func} {ps:List (PV S)} (h:resPs un tb e bx fn.results.toList=some ps) :
  ∃v D' H' vs,(results fn a.tmps).run P w= .ok v w∧v=(if hh:vs.toArray.size=1 then vs.toArray[0] else .tuple vs.toArray)∧St un E N D' H' e (freezeB (rowsL ps) bx) a w∧ids H'=ids H∧Ge D w D' w∧(∀k o,D' k o→D k o∨E.may k)∧RepL un (ids H') D' w ps vs:=by
 obtain ⟨vs,h1,h2⟩:=resPs_run hun ht hs h
 obtain ⟨D',H',k1,k2,k3,k4⟩:=hs.freeze (rowsL ps)
 refine ⟨_,D',H',vs,?_,rfl,k1,k2,k3,k4,?_⟩
 ·rw [results_eq];simp only [Sem.run_bind,h1,Result.andThen];rfl
 ·rw [k2];exact h2.ge k3 fun _ _ h=>h
theorem results_run (hun:UniOk un) (ht:TbOk P un tb) (hs:St un E N D H e bx a w) {fn:Func} {ps:List (PV S)} (h:resPs un tb e bx fn.results.toList=some ps) {rs:List U} {t:ElL S rs} (hc:castL un (freezeB (rowsL ps) bx) rs ps=some t) :
  ∃v D' H',(results fn a.tmps).run P w= .ok v w∧Rep un [] D' w (one? (injL rs t)) v∧St un E N D' H' e (freezeB (rowsL ps) bx) a w∧ids H'=ids H∧Ge D w D' w∧(∀k o,D' k o→D k o∨E.may k):=by
 obtain ⟨v,D',H',vs,h1,h2,h3,h4,h5,h6,h7⟩:=results_frozen hun ht hs h
 refine ⟨v,D',H',h1,?_,h3,h4,h5,h6⟩
 rw [h2];exact rep_one (castL_rep hun h3 (nu':=[]) hc h7)
theorem look_argEnv:∀(l:List (PV S)) (k i:Nat) (v:PV S),look (argEnv k l) i=some v→k≤i∧l[i - k]? =some v
 | [],_,_,_,h=>by cases h
 | u::r,k,i,v,h=>by
   simp only [argEnv,look] at h
   cases hb:Nat.beq k i with
   | true=>rw [hb] at h;have:k=i:=Nat.eq_of_beq_eq_true hb;subst this;simp at h;subst h;simp
   | false =>
     rw [hb] at h
     obtain ⟨h1,h2⟩:=look_argEnv r (k+1) i v h
     refine ⟨by omega,?_⟩
     rw [show i - k=(i - (k+1))+1 by omega];simpa using h2
theorem RepL.len {nu:Nu}:∀{ps:List (PV S)} {vs:List Value},RepL un nu D w ps vs→ps.length=vs.length
 | [],[],_=>rfl
 | p::ps,v::vs,hr=>by simp only [RepL] at hr;simp [RepL.len hr.2]
 | _::_,[],hr=>by simp [RepL] at hr
 | [],_::_,hr=>by simp [RepL] at hr
theorem fnI_back (hmix:P.follows .mixedOrders=true) (hun:UniOk un) (ht:TbOk P un tb) (hor:SoundO P un orc) (hin:SoundI P un inl) {fn:Func} {args:List (PV S)} {rs:List U} {r:ElL S rs} {f:FuncId}
  (h:fnI un tb orc inl an fn args bx rs=some r) (hf:P.funcs[f]? =some fn) {vs:List Value} (hD:∀k o,D k o→k<w.heap.size) (hH:∀r∈H,∃id,r= .ref id) (hbx:BxRep un (ids H) D w ⟨w,[],[]⟩ bx H) (ha:RepL un (ids H) D w args vs) :
  Back P un D f vs.toArray w (one? (injL rs r)):=by
 unfold fnI at h
 split at h
 ·cases h
 ·rename_i c hb
  obtain ⟨h0,h⟩:=bif_some h
  simp only [Bool.and_eq_true,List.all_eq_true,Nat.blt_eq,Nat.ble_eq] at h0
  refine calls_of_wp hf hb ?_
  have hlen:=ha.len
  have hst:St un ⟨w,[],[]⟩ ⟨fn.ntmps,[]⟩ D H (argEnv 0 args) bx { tmps:=vs.toArray++Array.replicate (fn.ntmps - vs.toArray.size) undef,defers:=[] } w:=by
   refine ⟨⟨Wl.Grow.refl _ _,hD,fun r hr=> ?_,fun r hr g hg=> ?_,?_,fun i g hi=>by simp at hi⟩,?_,rfl,hbx,fun i p hi=> ?_⟩
   ·obtain ⟨id,rfl⟩:=hH r hr;trivial
   ·obtain ⟨id,rfl⟩:=hH r hr;cases hg
   ·refine List.Pairwise.imp_of_mem (R:=fun _ _=>True) (fun {r r'} hr hr' _=> ?_) (List.pairwise_of_forall fun _ _=>trivial)
    obtain ⟨id,rfl⟩:=hH r hr
    intro g hg;cases hg
   ·simp;omega
   ·obtain ⟨_,h1⟩:=look_argEnv args 0 i p hi
    obtain ⟨v,h2,h3⟩:=ha.get i p (by simpa using h1)
    have hlt:i<vs.length:=(List.getElem?_eq_some_iff.1 h2).1
    simp only [Array.getD_eq_getD_getElem?]
    rw [Array.getElem?_append_left (by simpa using hlt)]
    simpa [h2] using h3
  refine exec_wp (E:=⟨w,[],[]⟩) (D0:=D) (N:=⟨fn.ntmps,[]⟩) hmix hun (ht.at an) hor hin _ _ _ _ _ _ h h0.1 ⟨D,H,hst,fun k o hk=> .inl hk,Ge.refl _ _⟩ fun x e' bx' hk _ _ a' w' hH'=> ?_
  have fin:(match resPs un tb e' bx' fn.results.toList with
   | some l=>castL un (freezeB (rowsL l) bx') rs l
   | none=>none)=some r→a'.defers=[]∧∃v,(results fn a'.tmps).run P w'= .ok v w'∧∃v',Ending.returned v= .returned v'∧Below w.heap.size w w'∧Rep un [] (newD D w w') w' (one? (injL rs r)) v':=by
   intro hk
   split at hk
   ·rename_i l hl
    obtain ⟨D1,H1,hs1,hD1,hG1⟩:=hH'
    obtain ⟨v,D',H',g1,g2,hs',_,k3,k4⟩:=results_run (P:=P) hun ht hs1 hl hk
    have hD':∀k o,D' k o→D k o∨(⟨w,[],[]⟩:Wl.Ctx).may k:=fun k o hk=>(k4 k o hk).elim (hD1 k o) .inr
    have hg:=hs'.inn.out
    refine ⟨hs'.defers,v,g1,v,rfl,⟨hg.os,hg.tape,hg.output,hg.size,fun k hk=>hg.block k hk (by simp)⟩,?_⟩
    refine g2.ge ⟨fun k o hk=> ?_,fun _ _ _=>rfl⟩ fun _ _ h=>h
    rcases hD' k o hk with h1 | h1
    ·exact .inl h1
    ·rcases h1 with h1 | h1
     ·exact .inr ⟨h1,hs'.inn.lt k o hk⟩
     ·cases h1
   ·cases hk
  cases x with
  | normal=>exact fin hk
  | ret=>exact fin hk
  | exit i=>cases hk
  | goto l=>cases hk
  | panic ch=>cases hk
  | outgrown=>cases hk
theorem lend_end (hun:UniOk un) (hs:St un E N D H e bx a w) {D':Dat} (hge:Ge D w D' w):∀{ts:List TypeId} {lc:List U} {gs ls:List Nat} {c:ElL S lc},lend un bx ts lc ls=some c→BlocksOf H ls gs→LentRep un D' w ts lc c gs
 | [],[],[],[],c,_,_=>by simp [LentRep]
 | T::ts,u::us,g::gs,b::bs,c,h,hb=>by
   unfold lend at h
   split at h
   ·rename_i T' cs hg
    split at h
    ·rename_i x t h1 h2
     obtain ⟨h3,h4⟩:=bif_some h
     cases h4
     simp only [Bool.and_eq_true] at h3
     have hT:=Nat.eq_of_beq_eq_true h3.1.1
     subst hT
     simp only [BlocksOf] at hb
     obtain ⟨⟨T0,cs0,hH⟩,hb2⟩:=hb
     obtain ⟨r,hr1,hr2⟩:=hs.boxes.get hg
     rw [hH] at hr1;cases hr1
     simp only [BoxRep] at hr2
     obtain ⟨rfl,hl⟩:=hr2
     simp only [LentRep]
     exact ⟨⟨cs0,(hs.inn.res _ (List.mem_of_getElem? hH)).2,(lend_one hun hs h1 hl).mono hge⟩,lend_end hun hs hge h2 hb2⟩
    ·cases h
   ·cases h
 | [],[],[],_::_,_,h,_=>by simp [lend] at h
 | [],[],_::_,[],_,_,hb=>by simp [BlocksOf] at hb
 | [],[],_::_,_::_,_,h,_=>by simp [lend] at h
 | [],_::_,_,_,_,h,_=>by simp [lend] at h
 | _::_,[],_,_,_,h,_=>by simp [lend] at h
 | _::_,_::_,_,[],_,h,_=>by simp [lend] at h
 | _::_,_::_,[],_::_,_,_,hb=>by simp [BlocksOf] at hb
def lentRes (w:World):List TypeId→List Nat→List Wl.Res
 | T::ts,g::gs=> .box g T (match w.heap[g]? with | some (.cells cs _ _)=>cs.toList | _=>[])::lentRes w ts gs
 | _,_=>[]
theorem lentRes_spec (hf:Flat un) {c:List U}:∀{ts:List TypeId} {lc:List U} {t:ElL S lc} {gs:List Nat},LentRep un D w ts lc t gs→∀{nu:Nu} {E:Wl.Ctx},
  BxRep un nu D w E (mkLent un ts lc t) (lentRes w ts gs)∧ids (lentRes w ts gs)=ptrIds gs∧(lentRes w ts gs).length=gs.length∧ts.length=gs.length ∧
  ∀r∈lentRes w ts gs,∃g∈gs,∃T cs,r= .box g T cs∧w.heap[g]? =some (.cells cs.toArray T (0,0))
 | [],[],_,[],_,_,_=>by simp [mkLent,lentRes,BxRep,ids]
 | T::ts,u::us,t,g::gs,h,nu,E=>by
   simp only [LentRep] at h
   obtain ⟨⟨cs,h1,h2⟩,h3⟩:=h
   obtain ⟨k1,k2,k3,k4,k5⟩:=lentRes_spec hf (c:=c) h3 (nu:=nu) (E:=E)
   simp only [mkLent,lentRes,h1,BxRep,BoxRep]
   refine ⟨⟨⟨trivial,openEl_rep hf h2⟩,k1⟩,by simpa [ids,resId] using k2,by simp [k3],by simp [k4],fun r hr=> ?_⟩
   rcases List.mem_cons.1 hr with rfl | hr
   ·exact ⟨g,by simp,T,_,rfl,by simpa using h1⟩
   ·obtain ⟨g',m1,m2⟩:=k5 r hr;exact ⟨g',by simp [m1],m2⟩
 | [],[],_,_::_,h,_,_=>by simp [LentRep] at h
 | [],_::_,_,_,h,_,_=>by simp [LentRep] at h
 | _::_,[],_,_,h,_,_=>by simp [LentRep] at h
 | _::_,_::_,_,[],h,_,_=>by simp [LentRep] at h
theorem lentRes_blocks:∀{ts:List TypeId} {gs:List Nat},ts.length=gs.length→(lentRes w ts gs).map Wl.Res.block=gs.map some
 | [],[],_=>rfl
 | T::ts,g::gs,h=>by simp only [lentRes,List.map_cons,Wl.Res.block];rw [lentRes_blocks (by simpa using h)]
 | [],_::_,h=>by simp at h
 | _::_,[],h=>by simp at h
theorem unval_val:∀{ps:List U} {vs:List Value} {p:ElL S ps},unval ps vs=some p→valI ps p=vs
 | [],[],_,_=>rfl
 | .int k::us,v::vs,p,h=>by
   cases v with
   | int k' n =>
     simp only [unval] at h
     split at h
     ·rename_i hk t' h1 h2
      have:=hk.down;subst this
      cases h
      simp only [valI];rw [unval_val h2]
     ·cases h
   | _=>simp [unval] at h
 | [],_::_,_,h=>by simp [unval] at h
 | .int _::_,[],_,h=>by simp [unval] at h
 | .bool::_,_,_,h=>by simp [unval] at h
 | .str::_,_,_,h=>by simp [unval] at h
 | .sl _::_,_,_,h=>by simp [unval] at h
 | .st _::_,_,_,h=>by simp [unval] at h
 | .mp _ _::_,_,_,h=>by simp [unval] at h
 | .rw _::_,_,_,h=>by simp [unval] at h
theorem unpan_eq {pan:TypeId} {ps:List U} {ch:List PanicEntry} {p:ElL S ps} (h:unpan pan ps ch=some p):ch=[panE pan ps p]:=by
 unfold unpan at h
 split at h
 ·rename_i T a
  obtain ⟨h1,h2⟩:=bif_some h
  have:=Nat.eq_of_beq_eq_true h1
  subst this
  simp only [panE,unval_val h2]
 ·cases h
theorem mkLent_var:∀{ts:List TypeId} {lc:List U} {c:ElL S lc} {i:Nat} {b:Box S},getB (mkLent un ts lc c) i=some b→∃T cs,b= .var T cs
 | [],_,_,_,_,h=>by simp [mkLent,getB] at h
 | _::_,[],_,_,_,h=>by simp [mkLent,getB] at h
 | T::ts,u::us,t,0,b,h=>by simp [mkLent,getB] at h;exact ⟨_,_,h.symm⟩
 | T::ts,u::us,t,i+1,b,h=>mkLent_var (ts:=ts) (lc:=us) (c:=t.2) (i:=i) (by simpa [mkLent,getB] using h)
theorem blocks_range:∀{gs:List Nat} {k:Nat},(∀(i g:Nat),gs[i]? =some g→∃T cs,H[k+i]? =some (.box g T cs))→BlocksOf H (List.range' k gs.length) gs
 | [],_,_=>by simp [BlocksOf]
 | g::gs,k,h=>by
   simp only [List.length_cons,List.range'_succ,BlocksOf]
   exact ⟨h 0 g rfl,blocks_range fun i g' hi=>by have:=h (i+1) g' (by simpa using hi);rwa [show k+1+i=k+(i+1) by omega]⟩
theorem fnE_sat (hmix:P.follows .mixedOrders=true) (hun:UniOk un) (ht:TbOk P un tb) (hor:SoundO P un orc) (hin:SoundI P un inl) {fn:Func} {args:List (PV S)} {ts:List TypeId} {lc:List U} {c:ElL S lc} {rs ps:List U} {pan:TypeId} {r:Out S lc rs ps} {f:FuncId}
  (h:fnE un tb orc inl an fn args ts lc c rs ps pan=some r) (hf:P.funcs[f]? =some fn):SatE P un f args ts lc c rs ps pan r:=by
 intro D w vs gs hD hgn hgD hl ha
 unfold fnE at h
 split at h
 ·cases h
 ·rename_i b hb
  obtain ⟨h0,h⟩:=bif_some h
  simp only [Bool.and_eq_true,List.all_eq_true,Nat.blt_eq,Nat.ble_eq] at h0
  obtain ⟨⟨h0,h00⟩,h01⟩:=h0
  refine calls_of_wp hf hb ?_
  have hlen:=ha.len
  obtain ⟨k1,k2,k3,k4,k5⟩:=lentRes_spec hun.flat (c:=[]) hl (nu:=ids (lentRes w ts gs)) (E:=⟨w,gs,gs.map fun g=> .pointer (some ⟨g,0,none⟩)⟩)
  have hblk:=lentRes_blocks (w:=w) k4
  have hst:St un ⟨w,gs,gs.map fun g=> .pointer (some ⟨g,0,none⟩)⟩ ⟨fn.ntmps,[]⟩ D (lentRes w ts gs) (argEnv 0 args) (mkLent un ts lc c) { tmps:=vs.toArray++Array.replicate (fn.ntmps - vs.toArray.size) undef,defers:=[] } w:=by
   refine ⟨⟨Wl.Grow.refl _ _,hD,fun r hr=> ?_,fun r hr g hg o _=> ?_,?_,fun i g hi=> ?_⟩,?_,rfl,k1,fun i p hi=> ?_⟩
   ·obtain ⟨g,hgm,T,cs,rfl,hw⟩:=k5 r hr;exact ⟨.inr hgm,hw⟩
   ·obtain ⟨g',hgm,T,cs,rfl,hw⟩:=k5 r hr
    simp [Wl.Res.block] at hg;subst hg
    exact hgD _ hgm o
   ·have h1:(gs.map some).Pairwise (fun (x y:Option Nat)=>∀g,x=some g→y≠some g):=by
     rw [List.pairwise_map]
     exact List.Pairwise.imp (fun {a b} hab g hg hg'=>by simp at hg hg';exact hab (hg.trans hg'.symm)) hgn
    rw [←hblk,List.pairwise_map] at h1
    exact h1
   ·have hid:(ids (lentRes w ts gs))[i]? =(ptrIds gs)[i]? :=by rw [k2]
    simp only [List.getElem?_map,Option.map_eq_some_iff] at hi
    obtain ⟨g0,hi',rfl⟩:=hi
    simp only [ids,List.getElem?_map,hi',Option.map_some] at hid
    cases hr:(lentRes w ts gs)[i]? with
    | none=>rw [hr] at hid;cases hid
    | some r0 =>
      rw [hr] at hid
      obtain ⟨g1,_,T0,cs0,rfl,_⟩:=k5 r0 (List.mem_of_getElem? hr)
      simp [resId] at hid
      subst hid
      exact ⟨_,rfl,rfl,rfl,keptR.box⟩
   ·simp;omega
   ·obtain ⟨_,h1⟩:=look_argEnv args 0 i p hi
    obtain ⟨v,h2,h3⟩:=ha.get i p (by simpa using h1)
    have hlt:i<vs.length:=(List.getElem?_eq_some_iff.1 h2).1
    rw [k2]
    simp only [Array.getD_eq_getD_getElem?]
    rw [Array.getElem?_append_left (by simpa using hlt)]
    simpa [h2] using h3
  refine exec_wp (E:=⟨w,gs,gs.map fun g=> .pointer (some ⟨g,0,none⟩)⟩) (D0:=D) (N:=⟨fn.ntmps,[]⟩) hmix hun (ht.at an) hor hin _ _ _ _ _ _ h h0 ⟨D,_,hst,fun k o hk=> .inl hk,Ge.refl _ _⟩ fun x e' bx' hk _ hpb a' w' hH'=> ?_
  obtain ⟨D',H',hs',hD',_⟩:=hH'
  have hg:=hs'.inn.out
  have hboxat:∀{H':List Wl.Res} {D':Dat},In ⟨w,gs,gs.map fun g=> .pointer (some ⟨g,0,none⟩)⟩ D' H' w'→∀(i g:Nat),gs[i]? =some g→∃T cs,H'[i]? =some (.box g T cs):=by
   intro H' D' hin i g hi
   obtain ⟨r0,h1,h2,h3,_⟩:=hin.lent i (.pointer (some ⟨g,0,none⟩)) (by simp [hi])
   cases r0 with
   | box g' T cs=>simp [resId] at h3;subst h3;exact ⟨T,cs,h1⟩
   | fix v g' size ob =>
     simp [resId] at h3
     subst h3
     exact absurd (hin.res _ (List.mem_of_getElem? h1)).1 (fixOk_ptr _)
   | _=>simp [isCell] at h2
  have hnogs:∀{H':List Wl.Res} {D':Dat},In ⟨w,gs,gs.map fun g=> .pointer (some ⟨g,0,none⟩)⟩ D' H' w'→∀g∈gs,∀o,¬D' g o:=by
   intro H' D' hin g hgm o
   obtain ⟨i,hi⟩:=List.getElem?_of_mem hgm
   obtain ⟨T,cs,h1⟩:=hboxat hin i g hi
   exact hin.apart _ (List.mem_of_getElem? h1) g rfl o trivial
  have hup:∀{H':List Wl.Res} {D':Dat},In ⟨w,gs,gs.map fun g=> .pointer (some ⟨g,0,none⟩)⟩ D' H' w'→(∀k o,D' k o→D k o∨(⟨w,gs,gs.map fun g=> .pointer (some ⟨g,0,none⟩)⟩:Wl.Ctx).may k)→Ge D' w' (newD D w w') w':=by
   intro H' D' hin hD'
   refine ⟨fun k o hk=> ?_,fun _ _ _=>rfl⟩
   rcases hD' k o hk with h1 | h1
   ·exact .inl h1
   ·rcases h1 with h1 | h1
    ·exact .inr ⟨h1,hin.lt k o hk⟩
    ·exact absurd hk (hnogs hin k h1 o)
  have hbl:∀{H':List Wl.Res} {D':Dat},In ⟨w,gs,gs.map fun g=> .pointer (some ⟨g,0,none⟩)⟩ D' H' w'→BlocksOf H' (List.range ts.length) gs:=by
   intro H' D' hin
   rw [List.range_eq_range',k4]
   exact blocks_range fun i g hi=>by simpa using hboxat hin i g hi
  have hsame:sameLen w w' gs:=by
   intro g hgm T cs hw
   obtain ⟨i,hi⟩:=List.getElem?_of_mem hgm
   have hil:i<gs.length:=(List.getElem?_eq_some_iff.1 hi).1
   obtain ⟨b0,hb0⟩:=getB_some (bx:=mkLent un ts lc c) (i:=i) (by rw [k1.length,k3];exact hil)
   obtain ⟨T1,csP,rfl⟩:=mkLent_var hb0
   obtain ⟨r0,hr1,hr2⟩:=k1.get hb0
   obtain ⟨g0,_,T0,cs0,rfl,hw0⟩:=k5 r0 (List.mem_of_getElem? hr1)
   have hid:(ids (lentRes w ts gs))[i]? =(ptrIds gs)[i]? :=by rw [k2]
   simp only [ids,List.getElem?_map,hr1,hi,Option.map_some,resId] at hid
   simp at hid
   subst hid
   simp only [BoxRep] at hr2
   obtain ⟨rfl,hl2⟩:=hr2
   rw [hw] at hw0
   simp at hw0
   obtain ⟨hcs,rfl⟩:=hw0
   obtain ⟨csP',hb1,hlenP⟩:=hpb.var i _ _ hb0
   obtain ⟨r1,hr3,hr4⟩:=hs'.boxes.get hb1
   obtain ⟨T2,cs2,hr5⟩:=hboxat hs'.inn i _ hi
   rw [hr3] at hr5;cases hr5
   simp only [BoxRep] at hr4
   obtain ⟨rfl,hl3⟩:=hr4
   refine ⟨cs2.toArray,?_,(hs'.inn.res _ (List.mem_of_getElem? hr3)).2⟩
   have e1:=hl2.length
   have e2:=hl3.length
   rw [hcs];simp;omega
  have fin:finE un tb fn e' bx' ts lc rs ps=some r→a'.defers=[]∧∃v,(results fn a'.tmps).run P w'= .ok v w'∧EndE un D w ts lc rs ps pan gs r (.returned v) w':=by
   intro hk
   unfold finE at hk
   split at hk
   ·rename_i l hl'
    split at hk
    ·rename_i t c' hc1 hc2
     cases hk
     obtain ⟨v,D2,H2,g1,g2,hs2,_,_,m4⟩:=results_run (P:=P) hun ht hs' hl' hc1
     have hge:=hup hs2.inn fun k o hk=>(m4 k o hk).elim (hD' k o) .inr
     refine ⟨hs'.defers,v,g1,⟨hg.os,hg.tape,hg.output,hg.size,hg.block⟩,⟨v,rfl,g2.ge hge fun _ _ h=>h⟩,lend_end hun hs2 hge hc2 (hbl hs2.inn)⟩
    ·cases hk
   ·cases hk
  cases x with
  | normal=>exact fin hk
  | ret=>exact fin hk
  | panic ch =>
    simp only at hk
    split at hk
    ·rename_i p hp
     cases hk
     refine ⟨hs'.defers,⟨hg.os,hg.tape,hg.output,hg.size,hg.block⟩,?_,hsame⟩
     rw [unpan_eq hp]
    ·cases hk
  | exit i=>cases hk
  | goto l=>cases hk
  | outgrown=>cases hk
theorem inlN_sound (hmix:P.follows .mixedOrders=true) (hun:UniOk un) (ht:TbOk P un tb) (hor:SoundO P un orc):∀n,SoundI P un (inlN un tb orc n)
 | 0=>⟨fun _ _ _ _ _ _ _ _ _ _ _ h=>by simp [inlN] at h,fun _ _ _ _ _ _ _ h=>by simp [inlN] at h⟩
 | n+1=>⟨fun fn an args ts lc c rs ps pan r f h hf=>fnE_sat hmix hun ht hor (inlN_sound hmix hun ht hor n) h hf,fun fn an args bx rs r f h hf D H w vs hD hH hbx ha=>fnI_back hmix hun ht hor (inlN_sound hmix hun ht hor n) h hf hD hH hbx ha⟩
theorem fnF_sat (hmix:P.follows .mixedOrders=true) (hun:UniOk un) (ht:TbOk P un tb) (hor:SoundO P un orc) {fn:Func} {args:List (PV S)} {ts:List TypeId} {lc:List U} {c:ElL S lc} {rs ps:List U} {pan:TypeId} {r:Out S lc rs ps} {f:FuncId}
  (h:fnF un tb orc an fn args ts lc c rs ps pan=some r) (hf:P.funcs[f]? =some fn):SatE P un f args ts lc c rs ps pan r :=
 fnE_sat hmix hun ht hor (inlN_sound hmix hun ht hor 6) h hf
theorem fnM_sat (hmix:P.follows .mixedOrders=true) (hun:UniOk un) (ht:TbOk P un tb) (hor:SoundO P un orc) {fn:Func} {args:List (PV S)} {rs:List U} {r:ElL S rs} {f:FuncId}
  (h:fnM un tb orc an fn args rs=some r) (hf:P.funcs[f]? =some fn):Sat P un f args rs r :=
 fun D w vs hD ha=>fnI_back (H:=[]) hmix hun ht hor (inlN_sound hmix hun ht hor 6) h hf hD (by simp) (by simp only [BxRep]) ha
end
end Pe
end
section
/- Functions to which rows and maps are handed over. -/
namespace Pe
open Go Go.RowKit
variable {S:Nat→Type}
section
variable {P:Program} {un:Uni S} {tb:Tb S} {orc:Orc S} {inl:Inl S} {an:Ann} {E E':Wl.Ctx} {D D':Dat} {H:List Wl.Res} {N:Wl.Fr} {e:Env S} {bx:Bxs S} {a:Act} {w w':World}
theorem shape_len:∀(as:List Arg) (ps:List (PV S)),(shape as ps).length≤as.length
 | [],_=>by simp [shape]
 | .one _::as,p::ps=>by simp only [shape,List.length_cons];have:=shape_len as ps;omega
 | .one _::as,[]=>by simp only [shape,List.length_cons];have:=shape_len as ([]:List (PV S));omega
 | .agg cs::as,ps=>by simp only [shape,List.length_cons];have:=shape_len as (ps.drop cs.length);omega
 | .ref k::as,ps=>by simp only [shape,List.length_cons];have:=shape_len as ps;omega
 | .ptr k off::as,ps=>by simp only [shape,List.length_cons];have:=shape_len as ps;omega
 | .fn f::as,ps=>by simp only [shape,List.length_cons];have:=shape_len as ps;omega
 | .nil::as,ps=>by simp only [shape,List.length_cons];have:=shape_len as ps;omega
theorem resCells_arg:∀{rs:List Arg} {l ps:List (PV S)},resCells rs l=some ps→argCells [] rs l=some ps
 | [],[],ps,h=>by simpa [resCells,argCells] using h
 | .one c::rs,p::l,ps,h=>by
   unfold resCells at h
   unfold argCells
   split at h
   ·rename_i l' h1;rw [resCells_arg h1];exact h
   ·cases h
 | .agg cs::rs,p::l,ps,h=>by
   cases p with
   | agg q =>
     unfold resCells at h
     unfold argCells
     split at h
     ·rename_i l' h1;rw [resCells_arg h1];exact h
     ·cases h
   | _=>simp [resCells] at h
 | .ref _::_,l,_,h=>by simp [resCells] at h
 | .ptr _ _::_,l,_,h=>by simp [resCells] at h
 | .fn _::_,l,_,h=>by simp [resCells] at h
 | .nil::_,l,_,h=>by simp [resCells] at h
 | [],_::_,_,h=>by simp [resCells] at h
 | .one _::_,[],_,h=>by simp [resCells] at h
 | .agg _::_,[],_,h=>by simp [resCells] at h
theorem mkLin_rep2 {nu nu':Nu}:∀{bs:List (Bool×TypeId×List CTy)} {ls:List Nat} {ps:List (PV S)} {rest:List Value},ls.length=bs.length→(∀(k b:Nat) (fl:Bool) (T:TypeId) (l:List CTy),ls[k]? =some b→bs[k]? =some (fl,T,l)→∃cs,getB bx b=some (.var T cs)∧cs.length=l.length)→BxRep un nu D w E bx H→RepL un nu' D' w' ps (valsOf H (ls.zip (bs.map (·.2.2)))++rest) →
  BxRep un nu' D' w' E' (mkLin bs ps) (ls.map fun b=>(H[b]?).getD (.ref (false,undef)))
 | [],[],_,_,_,_,_,_=>by simp [mkLin,BxRep]
 | (fl,T,l)::bs,b::ls,ps,rest,hl,hb,hx,hr=>by
   obtain ⟨cs,hg,hcl⟩:=hb 0 b fl T l rfl rfl
   obtain ⟨r,g1,g2,g3,g4,g5⟩:=var_cells hx hg
   have h0:(cellsAt H b).length=l.length:=by rw [g3,←g4.length];exact hcl
   simp only [List.map_cons,List.zip_cons_cons,valsOf,List.append_assoc] at hr
   have h1:=hr.take l.length
   have h2:=hr.drop l.length
   rw [←h0,List.take_left] at h1
   rw [←h0,List.drop_left] at h2
   rw [h0] at h1 h2
   simp only [mkLin,List.map_cons,BxRep,g1,Option.getD_some]
   exact ⟨recell g5 (by rw [←g3];exact h1),mkLin_rep2 (by simpa using hl) (fun k b' fl' T' l' k1 k2=>hb (k+1) b' fl' T' l' (by simpa using k1) (by simpa using k2)) hx h2⟩
 | [],_::_,_,_,hl,_,_,_=>by simp at hl
 | _::_,[],_,_,hl,_,_,_=>by simp at hl
theorem mkLin_at:∀{bs:List (Bool×TypeId×List CTy)} {ps:List (PV S)} {k:Nat} {fl:Bool} {T:TypeId} {l:List CTy},bs[k]? =some (fl,T,l)→((bs.map (·.2.2)).flatten).length≤ps.length→∃cs,getB (mkLin bs ps) k=some (.var T cs)∧cs.length=l.length
 | (fl0,T0,l0)::bs,ps,0,fl,T,l,h,hp=>by
   simp at h
   obtain ⟨rfl,rfl,rfl⟩:=h
   simp at hp
   exact ⟨_,rfl,by simp;omega⟩
 | (fl0,T0,l0)::bs,ps,k+1,fl,T,l,h,hp=>by
   simp only [List.map_cons,List.flatten_cons,List.length_append] at hp
   simpa [mkLin,getB] using mkLin_at (bs:=bs) (ps:=ps.drop l0.length) (k:=k) (by simpa using h) (by rw [List.length_drop];omega)
 | [],_,_,_,_,_,h,_=>by simp at h
theorem nrs_zip:∀(bs:List (Bool×TypeId×List CTy)) (n:Nat),nrs n bs=(List.range' n bs.length).zip (bs.map (·.2.2))
 | [],_=>by simp [nrs]
 | (_,_,l)::bs,n=>by simp only [nrs,List.length_cons,List.range'_succ,List.map_cons,List.zip_cons_cons];rw [nrs_zip bs (n+1)]
theorem vals_len:∀{bs:List (List CTy)} {ls:List Nat},ls.length=bs.length→(∀(k b:Nat) l,ls[k]? =some b→bs[k]? =some l→(cellsAt H b).length=l.length)→(valsOf H (ls.zip bs)).length=bs.flatten.length
 | [],[],_,_=>rfl
 | l::bs,b::ls,hl,h=>by
   simp only [List.zip_cons_cons,valsOf,List.length_append,List.flatten_cons]
   rw [h 0 b l rfl rfl,vals_len (by simpa using hl) fun k b' l' k1 k2=>h (k+1) b' l' (by simpa using k1) (by simpa using k2)]
 | [],_::_,hl,_=>by simp at hl
 | _::_,[],hl,_=>by simp at hl
theorem fnL_sat (hmix:P.follows .mixedOrders=true) (hun:UniOk un) (ht:TbOk P un tb) (hor:SoundO P un orc) (hin:SoundI P un inl) {fn:Func} {g:Sg} {t:g.In S} {r:g.Out S} {f:FuncId}
  (h:fnL un tb orc inl an fn g t=some r) (hf:P.funcs[f]? =some fn):SatL P un f g t r:=by
 intro D w vs H fx hfx hI hbx hargs
 unfold fnL at h
 split at h
 ·cases h
 ·rename_i b hb
  obtain ⟨h0,h⟩:=bif_some h
  simp only [Bool.and_eq_true,List.all_eq_true,Nat.blt_eq,Nat.ble_eq] at h0
  obtain ⟨h0,h00⟩:=h0
  refine calls_of_wp hf hb ?_
  have hlen:=hargs.len
  have hle:=shape_len g.as ((mkPs g.ins t g.bs.length).drop g.nb)
  have hst:St un ⟨w,blocksOf H,fx⟩ ⟨fn.ntmps,[]⟩ D H (argEnv 0 (shape g.as ((mkPs g.ins t g.bs.length).drop g.nb))) (mkLin g.bs (mkPs g.ins t g.bs.length)++mkOwn g.ins t) { tmps:=vs.toArray++Array.replicate (fn.ntmps - vs.toArray.size) undef,defers:=[] } w:=by
   refine ⟨hI,?_,rfl,hbx,fun i p hi=> ?_⟩
   ·simp;omega
   ·obtain ⟨_,h1⟩:=look_argEnv _ 0 i p hi
    obtain ⟨v,h2,h3⟩:=hargs.get i p (by simpa using h1)
    have hlt:i<vs.length:=(List.getElem?_eq_some_iff.1 h2).1
    simp only [Array.getD_eq_getD_getElem?]
    rw [Array.getElem?_append_left (by simpa using hlt)]
    simpa [h2] using h3
  have hin0:((g.bs.map (·.2.2)).flatten).length≤(mkPs g.ins t g.bs.length).length:=by rw [mkPs_length];simp [Sg.ins]
  refine exec_wp (E:=⟨w,blocksOf H,fx⟩) (D0:=D) (N:=⟨fn.ntmps,[]⟩) hmix hun (ht.at an) hor hin _ _ _ _ _ _ h h0 ⟨D,H,hst,fun k o hk=> .inl hk,Ge.refl _ _⟩ fun x e' bx' hk _ hpb a' w' hH'=> ?_
  obtain ⟨D1,H1,hs1,hD1,hG1⟩:=hH'
  have hvar:∀(k:Nat) (fl:Bool) (T:TypeId) (l:List CTy),g.bs[k]? =some (fl,T,l)→∃cs,getB bx' k=some (.var T cs)∧cs.length=l.length:=by
   intro k fl T l hkk
   obtain ⟨cs,k1,k2⟩:=mkLin_at hkk hin0
   obtain ⟨cs',k3,k4⟩:=hpb.var k T cs (getB_append k1)
   exact ⟨cs',k3,k4.trans k2⟩
  have hvar2:∀{bx2:Bxs S},(∀{i:Nat} {T:TypeId} {cs:List (PV S)},getB bx' i=some (.var T cs)→getB bx2 i=some (.var T cs))→∀(k b:Nat) (fl:Bool) (T:TypeId) (l:List CTy),(List.range' 0 g.bs.length)[k]? =some b→g.bs[k]? =some (fl,T,l)→∃cs,getB bx2 b=some (.var T cs)∧cs.length=l.length:=by
   intro bx2 h2 k b fl T l k1 k2
   have hkb:b=k:=by
    have hkl:k<g.bs.length:=(List.getElem?_eq_some_iff.1 k2).1
    rw [List.getElem?_range' hkl] at k1;simp at k1;exact k1.symm
   subst hkb
   obtain ⟨cs,k3,k4⟩:=hvar b fl T l k2
   exact ⟨cs,h2 k3,k4⟩
  have fin:finL un tb fn g e' bx'=some r→a'.defers=[]∧∃v,(results fn a'.tmps).run P w'= .ok v w'∧EndL un D w H fx g r (.returned v) w':=by
   intro hk
   unfold finL at hk
   split at hk
   ·rename_i l hl
    split at hk
    ·rename_i ps qs hps hqs
     split at hk
     ·rename_i t' htell
      cases hk
      obtain ⟨vs',h1,h2⟩:=resPs_run (P:=P) hun ht hs1 hl
      unfold tellT at htell
      obtain ⟨hro,hct⟩:=bif_some htell
      obtain ⟨D2,H2,hs2,hids,hG2,hup2⟩:=hs1.freeze (frs g.outs (qs++ps))
      have hqs2:=varsOf_freeze (ks:=frs g.outs (qs++ps)) hqs
      have hv2:=hvar2 (bx2:=freezeB (frs g.outs (qs++ps)) bx') fun hg=>getB_freeze _ hg (by intros;simp)
      generalize freezeB (frs g.outs (qs++ps)) bx'=bx2 at hro hct hs2 hqs2 hv2
      obtain ⟨hq1,hq2⟩:=varsOf_rep hs2.boxes hqs2
      have h2':RepL un (ids H2) D2 w' l vs':=by rw [hids];exact h2.ge hG2 fun _ _ h=>h
      obtain ⟨pv,hpv,hisr⟩:=argCells_is (resCells_arg hps) h2'
      obtain ⟨bs,rs,g1,g2,g3,g4,g5,_⟩:=cut_rows hun hs2 g.outs (qs++ps) _ [] t' g.bs.length hro hct (hq1.append hpv)
      rw [nrs_zip] at hq1 hq2
      simp only [nrs_zip] at g5
      generalize hHl:((List.range' 0 g.bs.length).map fun b=>(H2[b]?).getD (.ref (false,undef)))=Hl
      have hHll:Hl.length=g.bs.length:=by rw [←hHl];simp
      have hHlget:∀(k:Nat),k<g.bs.length→∃r,H2[k]? =some r∧isCell r=true∧Hl[k]? =some r∧(∃T cs,getB bx2 k=some (.var T cs)):=by
       intro k hkl
       obtain ⟨cs,k1,_⟩:=hv2 k k _ _ _ (by rw [List.getElem?_range' hkl];simp) (List.getElem?_eq_getElem hkl)
       obtain ⟨r,k2,k3,_⟩:=var_cells hs2.boxes k1
       exact ⟨r,k2,k3,by rw [←hHl];simp [List.getElem?_range' hkl,k2],_,_,k1⟩
      have hnu:∀(i:Nat) r,rs[i]? =some r→(ids (Hl++rs))[g.bs.length+i]? =some (resId r):=by
       intro i r hr
       simp only [ids,List.getElem?_map]
       rw [List.getElem?_append_right (by omega),hHll,Nat.add_sub_cancel_left,hr];rfl
      have hP:=g5 _ hnu
      have hvl:(valsOf H2 ((List.range' 0 g.bs.length).zip (g.bs.map (·.2.2)))).length=g.nb:=vals_len (by simp) fun k b l k1 k2=>(hq2 b l (zip_get k1 k2)).2
      have hdrop:=hP.drop g.nb
      rw [←hvl,List.drop_left] at hdrop
      rw [hvl] at hdrop
      have hres:=shape_rep (nu':=ids (Hl++rs)) (fun k b x hk _=>by simp at hk) hisr hdrop
      have hone:=rep_one hres
      have hpick:In ⟨w,blocksOf H,fx⟩ D2 (Hl++rs) w':=by
       refine hs2.inn.pick (fun k=>if k<g.bs.length then some k else (bs[k - g.bs.length]?).join) (fun k r hk=> ?_) (fun k k' i hk hk'=> ?_) (fun i v hv=> ?_)
       ·rcases Nat.lt_or_ge k g.bs.length with hlt | hge
        ·rw [List.getElem?_append_left (by omega)] at hk
         obtain ⟨r',k1,_,k3,_⟩:=hHlget k hlt
         rw [hk] at k3;cases k3
         exact .inr ⟨k,by simp only [if_pos hlt],k1⟩
        ·rw [List.getElem?_append_right (by omega),hHll] at hk
         rcases comes_get g1 _ r hk with ⟨b,m1,m2,_⟩ | ⟨m1,T,size,m2⟩
         ·exact .inr ⟨b,by simp only [if_neg (show ¬k<g.bs.length by omega),m1];rfl,m2⟩
         ·left
          rcases m2 with rfl | rfl
          ·exact ⟨rfl,World.ownsRow_nil _ _ _ _,fun g hg=>by simp [Value.ownBlock] at hg⟩
          ·exact ⟨rfl,World.ownsRow_nil _ _ _ _,fun g hg=>by simp [Value.ownBlock] at hg⟩
       ·have second:∀k i,(bs[k - g.bs.length]?).join=some i→bs[k - g.bs.length]? =some (some i):=by
         intro k i h
         cases hx:bs[k - g.bs.length]? with
         | none=>rw [hx] at h;cases h
         | some y=>rw [hx] at h;cases y with
           | none=>cases h
           | some z=>cases h;rfl
        have clash:∀k k',k<g.bs.length→(bs[k' - g.bs.length]?).join=some k→False:=by
         intro k k' hlt hk'
         obtain ⟨_,_,_,_,T,cs,m1⟩:=hHlget k hlt
         obtain ⟨_,x,m2,m3⟩:=g2 k (List.mem_of_getElem? (second k' k hk'))
         rw [m1] at m2;cases m2;simp [isRow] at m3
        split at hk
        ·rename_i hlt
         cases hk
         split at hk'
         ·cases hk';rfl
         ·exact (clash k k' hlt hk').elim
        ·rename_i hge
         split at hk'
         ·rename_i hlt'
          cases hk'
          exact (clash k' k hlt' hk).elim
         ·have:=nodup_inj g3 _ _ i (second k i hk) (second k' i hk')
          omega
       ·obtain ⟨r,m1,m2,m3⟩:=hs2.inn.lent i v hv
        have hil:i<g.bs.length:=by rw [←hfx];exact (List.getElem?_eq_some_iff.1 hv).1
        obtain ⟨r',k1,_,k3,_⟩:=hHlget i hil
        rw [m1] at k1;cases k1
        exact ⟨r,by rw [List.getElem?_append_left (by omega)];exact k3,m2,m3⟩
      refine ⟨hs1.defers,_,by rw [results_eq];simp only [Sem.run_bind,h1,Result.andThen];rfl,D2,Hl++rs,hpick,hG1.trans hG2,fun k o hk=>(hup2 k o hk).elim (hD1 k o) .inr,?_,_,rfl,hone⟩
      refine BxRep.append' ?_ (g4 _ _)
      have:=mkLin_rep2 (E':=⟨w,blocksOf H,fx⟩) (ls:=List.range' 0 g.bs.length) (by simp) hv2 hs2.boxes hP
      rw [hHl] at this
      exact this
     ·cases hk
    ·cases hk
   ·cases hk
  cases x with
  | normal=>exact fin hk
  | ret=>exact fin hk
  | panic ch =>
    simp only at hk
    split at hk
    ·rename_i p hp
     cases hk
     have hv1:=hvar2 (bx2:=bx') fun h=>h
     generalize hHl:((List.range' 0 g.bs.length).map fun b=>(H1[b]?).getD (.ref (false,undef)))=Hl
     have hHll:Hl.length=g.bs.length:=by rw [←hHl];simp
     have hHlget:∀(k:Nat),k<g.bs.length→∃r,H1[k]? =some r∧isCell r=true∧Hl[k]? =some r:=by
      intro k hkl
      obtain ⟨cs,k1,_⟩:=hv1 k k _ _ _ (by rw [List.getElem?_range' hkl];simp) (List.getElem?_eq_getElem hkl)
      obtain ⟨r,k2,k3,_⟩:=var_cells hs1.boxes k1
      exact ⟨r,k2,k3,by rw [←hHl];simp [List.getElem?_range' hkl,k2]⟩
     have hpick:In ⟨w,blocksOf H,fx⟩ D1 Hl w':=by
      refine hs1.inn.pick (fun k=>if k<g.bs.length then some k else none) (fun k r hk=> ?_) (fun k k' i hk hk'=> ?_) (fun i v hv=> ?_)
      ·have hkl:k<g.bs.length:=by rw [←hHll];exact (List.getElem?_eq_some_iff.1 hk).1
       obtain ⟨r',k1,_,k3⟩:=hHlget k hkl
       rw [hk] at k3;cases k3
       exact .inr ⟨k,by simp only [if_pos hkl],k1⟩
      ·split at hk<;>split at hk'<;>first | (cases hk;done) | (cases hk';done) | (cases hk;cases hk';rfl)
      ·obtain ⟨r,m1,m2,m3⟩:=hs1.inn.lent i v hv
       have hil:i<g.bs.length:=by rw [←hfx];exact (List.getElem?_eq_some_iff.1 hv).1
       obtain ⟨r',k1,_,k3⟩:=hHlget i hil
       rw [m1] at k1;cases k1
       exact ⟨r,k3,m2,m3⟩
     have hvl:(valsOf H1 ((List.range' 0 g.bs.length).zip (g.bs.map (·.2.2)))).length=g.nb:=vals_len (by simp) fun k b l k1 k2=>by
      obtain ⟨⟨fl,T,l'⟩,k3,k4⟩:∃x,g.bs[k]? =some x∧x.2.2=l:=by
       simp only [List.getElem?_map,Option.map_eq_some_iff] at k2;exact k2
      simp at k4;subst k4
      obtain ⟨cs,k5,k6⟩:=hv1 k b fl T l' k1 k3
      obtain ⟨r,m1,_,m3,m4,_⟩:=var_cells hs1.boxes k5
      rw [m3,←m4.length];exact k6
     refine ⟨hs1.defers,D1,Hl,hpick,hG1,hD1,?_,?_⟩
     ·have:=mkLin_rep2 (E':=⟨w,blocksOf H,fx⟩) (nu':=ids Hl) (D':=D1) (w':=w') (ls:=List.range' 0 g.bs.length) (rest:=[]) (ps:=List.replicate g.nb .junk) (by simp) hv1 hs1.boxes (by rw [List.append_nil];exact repl_junk hvl)
      rw [hHl] at this
      exact this
     ·rw [unpan_eq hp]
    ·cases hk
  | exit i=>cases hk
  | goto l=>cases hk
  | outgrown=>cases hk
theorem fnG_sat (hmix:P.follows .mixedOrders=true) (hun:UniOk un) (ht:TbOk P un tb) (hor:SoundO P un orc) {fn:Func} {g:Sg} {t:g.In S} {r:g.Out S} {f:FuncId}
  (h:fnG un tb orc an fn g t=some r) (hf:P.funcs[f]? =some fn):SatL P un f g t r :=
 fnL_sat hmix hun ht hor (inlN_sound hmix hun ht hor 6) h hf
end
end Pe
end
section
/- A function that is read with a row that stays where it is writes into the row that it is given. -/
namespace Pe
open Go Go.RowKit
variable {S:Nat→Type}
section
variable {P:Program} {un:Uni S} {D D':Dat} {w w':World}
def inl1 {α β:Type}:Option ((α×Unit)⊕β)→Option α
 | some (.inl r)=>some r.1
 | _=>none
theorem inl1_some {α β:Type} {x:Option ((α×Unit)⊕β)} {a:α} (h:inl1 x=some a):x=some (.inl (a,())):=by
 match x,h with
 | some (.inl (_,())),h=>cases h;rfl
def opt1 {α:Type}:Option α→Option α
 | some a=>some a
 | none=>none
theorem opt1_eq {α:Type}:∀x:Option α,opt1 x=x
 | some _=>rfl
 | none=>rfl
def sgP (u:U) (T:TypeId) (fl:Bool) (k:FuncId) (pan:TypeId):Sg:=⟨[.ref 0,.fn k],[(fl,T,[.fr (.rw u)])],[],[],pan⟩
theorem satP_of_satL (hf:Flat un) {f:FuncId} {u:U} {T T0:TypeId} {fl:Bool} {k:FuncId} {pan:TypeId} {l l':List (El S u)}
  (h:SatL P un f (sgP u T0 fl k pan) (show (sgP u T0 fl k pan).In S from (l,())) (.inl (show ElL S _ from (l',())))):SatP P un f u T [.func (.func k) [] []] l l':=by
 intro D w v xs vs hD hown hfree hseg hargs
 -- the row that is lent
 have key:∃ob,Wl.fixOk v v.ownBlock (U.size un u) ob∧(∀g,v.ownBlock=some g→w.heap[g]? =some ob∧shapeOb ob=some (T,(match ob with | .cells cur _ _=>cur.size | _=>0),(0,0)))∧DR un D w [.rw u] (sg (u:= .rw u) l) [Wl.fixV v (U.size un u) ob]∧isRefV v=true:=by
  obtain ⟨hlen,hn | ⟨g,cap,cur,rfl,hb,hg,hnc,hcm,hcs,htk⟩⟩:=hown
  ·obtain ⟨rfl,hn⟩:=hn
   refine ⟨.cells #[] T (0,0),.inr (.inr (.inl ⟨rfl,rfl⟩)),(fun g hg=>by cases hg),?_,rfl⟩
   have:l=[]:=List.length_eq_zero_iff.1 hn
   subst this
   exact rw_of (xs:=[]) (by simp) fun i x hi=>by simp at hi
  ·refine ⟨.cells cur T (0,0),.inr (.inl ⟨g,l.length,cap,cur,T,(0,0),rfl,rfl,rfl,hnc,hcm,hcs,.inl (Nat.le_refl _)⟩),fun g' hg'=> ?_,?_,rfl⟩
   ·cases hg';exact ⟨hg,rfl⟩
   ·show DR un D w [.rw u] (sg (u:= .rw u) l) [Wl.encV l.length (U.size un u) (cur.toList.take (l.length*U.size un u))]
    rw [htk]
    exact rw_of hlen hseg
 obtain ⟨ob,hok,hat,hdr,hisr⟩:=key
 have hblk:blocksOf [Wl.Res.fix v v.ownBlock (U.size un u) ob]=v.ownBlock.toList:=by
  show List.filterMap _ _=_
  rw [List.filterMap_cons]
  have:(Wl.Res.fix v v.ownBlock (U.size un u) ob).block=v.ownBlock:=rfl
  rw [this]
  cases v.ownBlock<;>rfl
 have hI:In ⟨w,blocksOf [Wl.Res.fix v v.ownBlock (U.size un u) ob],[v]⟩ D [.fix v v.ownBlock (U.size un u) ob] w:=by
  have hh:Wl.Res.holds ⟨w,blocksOf [Wl.Res.fix v v.ownBlock (U.size un u) ob],[v]⟩ w (.fix v v.ownBlock (U.size un u) ob) :=
   ⟨hok,fun g0 hg0=>⟨.inr (by rw [hblk,hg0];simp),(hat g0 hg0).1⟩⟩
  refine ⟨Wl.Grow.refl _ _,hD,fun r hr=> ?_,fun r hr g hg o _=> ?_,List.pairwise_singleton _ _,fun i x hi=> ?_⟩
  ·cases List.mem_singleton.1 hr;exact hh
  ·cases List.mem_singleton.1 hr;exact hfree g hg o
  ·match i,hi with
   | 0,hi=>cases hi;exact ⟨_,rfl,rfl,rfl,keptR.self hh⟩
   | i+1,hi=>simp at hi
 have hnu:(ids [Wl.Res.fix v v.ownBlock (U.size un u) ob])[0]? =some (true,v):=rfl
 refine (h D w (v::vs) [.fix v v.ownBlock (U.size un u) ob] [v] rfl hI ?_ ?_).mono fun x w1 hend=> ?_
 ·show BxRep un _ D w _ [.var T0 [.cont (.rw u) l]] [.fix v v.ownBlock (U.size un u) ob]
  simp only [BxRep,BoxRep,RepL,Rep,and_true]
  exact hdr
 ·show RepL un _ D w [.ref 0,.func (.func k) [] []] (v::vs)
  simp only [RepL]
  exact ⟨by simp only [Rep];exact ⟨hnu,hisr⟩,hargs.ge (Ge.refl _ _) fun i x hx=>by simp at hx⟩
 ·obtain ⟨D',H',hin',hge,hup,hbx,v',rfl,hv'⟩:=hend
  have hbx:BxRep un (ids H') D' w1 ⟨w,blocksOf [Wl.Res.fix v v.ownBlock (U.size un u) ob],[v]⟩ [.var T0 [.cont (.rw u) l']] H':=hbx
  have hv':Rep un (ids H') D' w1 (.tup []) v':=hv'
  obtain ⟨r,hr0,hrc,hrid,hkept⟩:=hin'.lent 0 v rfl
  have hgr:Wl.Grow v.ownBlock.toList w w1:=by have:=hin'.out;rw [hblk] at this;exact this
  have hsub:∀k o,D' k o→newD D w w1 k o:=fun k o hk=>by
   rcases hup k o hk with h1 | h1 | h1
   ·exact .inl h1
   ·exact .inr ⟨h1,hin'.lt k o hk⟩
   ·exfalso
    rw [hblk] at h1
    have hob:v.ownBlock=some k:=by cases hv:v.ownBlock<;>simp_all
    have hrb:r.block=some k:=by
     have:=(block_of_id (r:= .fix v v.ownBlock (U.size un u) ob) (hI.res _ (by simp)) (hin'.res r (List.mem_of_getElem? hr0)) rfl hrc hrid).1
     rw [this];exact hob
    refine hin'.apart r (List.mem_of_getElem? hr0) k hrb o ?_ hk
    cases r<;>simp [isCell] at hrc<;>trivial
  have hup2:Ge D' w1 (newD D w w1) w1:=⟨hsub,fun _ _ _=>rfl⟩
  match H',hbx,hr0 with
  | [],hbx,_=>simp [BxRep] at hbx
  | r0::_,hbx,hr0 =>
    cases hr0
    simp only [BxRep] at hbx
    have hh:=hin'.res r (by simp)
    refine ⟨?_,hgr,?_⟩
    ·simp only [Rep] at hv'
     obtain ⟨cs,rfl,hcs⟩:=hv'
     cases cs with
     | nil=>rfl
     | cons c cs=>simp [RepL] at hcs
    ·cases r with
     | box g T1 cs =>
       simp only [resId,Prod.mk.injEq,true_and] at hrid
       subst hrid
       simp [isRefV] at hisr
     | fix v1 g1 size1 ob1 =>
       simp only [resId,Prod.mk.injEq,true_and] at hrid
       subst hrid
       have hb:=hbx.1
       simp only [BoxRep,RepL,Rep,and_true] at hb
       obtain ⟨hlen,hn | ⟨g,cap,cur,rfl,hb0,hg,hnc,hcm,hcs,htk⟩⟩:=hown
       ·obtain ⟨rfl,hn⟩:=hn
        rcases hh.1 with ⟨_,_,_,h1,_⟩ | ⟨_,_,_,_,_,_,h1,_⟩ | ⟨_,rfl⟩ | ⟨_,_,_,_,_,_,h1,_⟩
        ·cases h1
        ·cases h1
        ·obtain ⟨e1,_,_,e3⟩:=rw_segs hf (show DR un D' w1 [.rw u] (sg (u:= .rw u) l') [Wl.encV 0 size1 []] from hb)
         have:l'=[]:=List.length_eq_zero_iff.1 e1.symm
         subst this
         exact ⟨[],by simp [hn],World.ownsRow_nil _ _ _ _,fun i x hi=>by simp at hi⟩
        ·cases h1
       ·rcases hh.1 with ⟨_,_,_,h1,_⟩ | ⟨g2,n2,cap2,cur2,T2,fz2,h1,rfl,rfl,hnc2,hcm2,hcs2,_⟩ | ⟨h1,_⟩ | ⟨_,_,_,_,_,_,h1,_⟩
        ·cases h1
        ·cases h1
         have hw:=(hh.2 g rfl).2
         obtain ⟨e1,e2,_,e3⟩:=rw_segs hf (show DR un D' w1 [.rw u] (sg (u:= .rw u) l') [Wl.encV l.length size1 (cur2.toList.take (l.length*size1))] from hb)
         subst e2
         have hsh:=hkept g rfl _ hg (T,cur.size,(0,0)) (T2,cur2.size,fz2) rfl rfl
         simp only [Prod.mk.injEq] at hsh
         obtain ⟨rfl,hsz,rfl⟩:=hsh
         refine ⟨_,e1.symm,⟨?_,.inr ⟨g,cap,cur2,by rw [←e1],hb0,hw,by omega,hcm,hcs2,by rw [←e1]⟩⟩,fun i x hi=>(e3 i x hi).mono hup2⟩
         have hl2:cur2.toList.length=cap*U.size un u:=by rw [Array.length_toList];exact hcs2
         rw [List.length_take,hl2,←e1]
         exact Nat.min_eq_left (Nat.mul_le_mul_right (U.size un u) hnc)
        ·cases h1
        ·cases h1
     | _=>simp [isCell] at hrc
end
end Pe
end
section
/- The tables of a program: rows that are read off it tell the truth. -/
namespace Pe
open Go Go.RowKit
variable {S:Nat→Type}
theorem mapM_get {α β:Type} {g:α→Option β}:∀{l:List α} {m:List β},l.mapM g=some m→∀(i:Nat) (y:β),m[i]? =some y→∃x,l[i]? =some x∧g x=some y
 | [],m,h,i,y,hy=>by simp at h;subst h;simp at hy
 | x::l,m,h,i,y,hy=>by
   rw [List.mapM_cons] at h
   cases hg:g x with
   | none=>simp [hg] at h
   | some b =>
     cases hl:l.mapM g with
     | none=>simp [hg,hl] at h
     | some bs =>
       simp [hg,hl] at h
       subst h
       cases i with
       | zero=>simp at hy;subst hy;exact ⟨x,rfl,hg⟩
       | succ i=>simpa using mapM_get hl i y (by simpa using hy)
theorem foldl_splice:∀(vs cs:List Value) (off k:Nat),(vs.zipIdx k).foldl (fun (cs:Array Value) (p:Value×Nat)=>cs.setIfInBounds (off+p.2) p.1) cs.toArray=(fillL.spliceV cs (off+k) vs).toArray
 | [],_,_,_=>rfl
 | v::r,cs,off,k=>by
   simp only [List.zipIdx_cons,List.foldl_cons,fillL.spliceV,List.setIfInBounds_toArray]
   exact foldl_splice r (cs.set (off+k) v) off (k+1)
theorem fillL_mono {p1 p2:Nat→Option (Nat×Nat)} (h:∀i x,p1 i=some x→p2 i=some x):∀{ps:List (Nat×Value)} {cs cs':List Value},fillL p1 cs ps=some cs'→fillL p2 cs ps=some cs'
 | [],cs,cs',hf=>hf
 | (i,v)::r,cs,cs',hf=>by
   simp only [fillL] at hf ⊢
   cases hp:p1 i with
   | none=>rw [hp] at hf;cases hf
   | some os =>
     rw [hp] at hf
     rw [h i os hp]
     obtain ⟨off,size⟩:=os
     simp only at hf ⊢
     cases hb:Nat.beq v.cells.size size&&Nat.ble (off+size) cs.length with
     | false=>rw [hb] at hf;cases hf
     | true=>rw [hb] at hf;exact fillL_mono h hf
theorem fill_of (place:Nat→Option (Nat×Nat)):∀(ps:List (Nat×Value)) (cs cs':List Value),fillL place cs ps=some cs'→Instr.fill place cs.toArray ps=some cs'.toArray
 | [],cs,cs',h=>by simp only [fillL,Option.some.injEq] at h;subst h;rfl
 | (i,v)::r,cs,cs',h=>by
   simp only [fillL] at h
   unfold Instr.fill
   cases hp:place i with
   | none=>rw [hp] at h;cases h
   | some os =>
     obtain ⟨off,size⟩:=os
     rw [hp] at h
     simp only at h ⊢
     obtain ⟨hb,h⟩:=bif_some h
     simp only [Bool.and_eq_true,Nat.ble_eq] at hb
     have hb1:v.cells.size=size:=Nat.eq_of_beq_eq_true hb.1
     have hb2:=hb.2
     rw [if_neg (by simp [hb1];omega)]
     have:=fill_of place r _ _ h
     rw [←this]
     congr 1
     have hf:=foldl_splice v.cells.toList cs off 0
     rw [Nat.add_zero] at hf
     rw [←hf,←Array.foldl_toList]
     simp
def elB (P:Program) (un:Uni S) (T:TypeId) (u:U):Bool :=
 match P.info? T with
 | some i=>(match i.zero with
   | some z=>Nat.beq i.size (U.size un u)&&Nat.beq z.cells.size (U.size un u)&&Nat.blt 0 (U.size un u)&&Nat.ble i.bytes 32768
   | none=>false)
 | none=>false
theorem elB_ok {P:Program} {un:Uni S} {T:TypeId} {u:U} (h:elB P un T u=true):ElOk P un T u:=by
 unfold elB at h
 split at h
 ·rename_i i hi
  split at h
  ·rename_i z hz
   simp only [Bool.and_eq_true] at h
   obtain ⟨⟨⟨h1,h2⟩,h3⟩,h4⟩:=h
   exact ⟨⟨i,z,hi,hz,Nat.eq_of_beq_eq_true h1,Nat.eq_of_beq_eq_true h2,by simpa [Nat.blt_eq] using h3,by simpa [Nat.ble_eq] using h4⟩⟩
  ·cases h
 ·cases h
def natPairsB:List (Nat×Nat)→List (Nat×Nat)→Bool
 | [],[]=>true
 | (a,b)::l,(c,d)::m=>Nat.beq a c&&Nat.beq b d&&natPairsB l m
 | _,_=>false
theorem natPairsB_ok:∀{l m:List (Nat×Nat)},natPairsB l m=true→l=m
 | [],[],_=>rfl
 | (a,b)::l,(c,d)::m,h=>by
   simp only [natPairsB,Bool.and_eq_true] at h
   obtain ⟨⟨h1,h2⟩,h3⟩:=h
   rw [Nat.eq_of_beq_eq_true h1,Nat.eq_of_beq_eq_true h2,natPairsB_ok h3]
 | [],_::_,h=>by cases h
 | _::_,[],h=>by cases h
def fieldsB (P:Program) (fs:List Field) (l:List (Nat×Nat)):Bool :=
 (match fs.mapM (fun f=>(P.info? f.type).map fun i=>(f.offset,i.size)) with
 | some m=>natPairsB m l
 | none=>false)&&l.all fun p=>Nat.blt 0 p.2
def kdB (P:Program) (un:Uni S) (d:TypeDesc) (r:TyRow S):Bool :=
 match r.kd,d,r.elem with
 | 0,_,none=>true
 | 1,.string,none=>true
 | 5,.bool,none=>true
 | 2,.slice T,some (T',u)=>Nat.beq T T'&&elB P un T u
 | 3,.struct fs,none=>fieldsB P fs.toList r.fields
 | 4,.array n el,none=>(match P.info? el with
   | some i=>Nat.blt 0 i.size&&natPairsB ((List.range n).map fun j=>(j*i.size,i.size)) r.fields
   | none=>false)
 | _,_,_=>false
def codeB (r:TyRow S) (d:TypeDesc):Bool:=match r.code,d with
 | some (.int k),.int k'=>(kindEq k k').isSome
 | some (.int _),_=>false
 | _,_=>true
def zB (z:Value) (agg:Bool):Bool:=match z with
 | .agg _=>agg
 | .tuple _=>false
 | _=> !agg
def rowB (P:Program) (un:Uni S) (d:TypeDesc) (r:TyRow S):Bool :=
 codeB r d&&(bif r.agg then aggD d else !aggD d&&Nat.beq r.n 1)&&kdB P un d r&&(match r.code with
  | some (.st n)=>r.agg&&Nat.beq r.n (un.codes n).length
  | _=>true)
def stB:U→Bool
 | .st _=>true
 | _=>false
def arrB (P:Program) (un:Uni S) (d:TypeDesc) (r:TyRow S):Bool:=match r.arr with
 | none=>true
 | some (T,u)=>Nat.beq r.kd 4&&(match d with | .array _ T'=>Nat.beq T T' | _=>false)&&(match P.info? T,P.underlying T with
   | some i,some d'=>Nat.beq i.size (U.size un u)&&bbeq (aggD d') (stB u)&&Nat.blt 0 (U.size un u)
   | _,_=>false)
theorem bbeq_eq {a b:Bool} (h:bbeq a b=true):a=b:=by cases a<;>cases b<;>simp_all [bbeq]
theorem arr_ok {P:Program} {un:Uni S} {t T:TypeId} {u:U} {n:Nat} (hd:P.underlying t=some (.array n T)) {i:TypeInfo} {d':TypeDesc} (hi:P.info? T=some i) (hd':P.underlying T=some d') (hs:i.size=U.size un u) (ha:aggD d'=stB u) (hp:0<U.size un u) {k:Nat} (hk:k<n) (cs:List Value) (kd:IntKind) (w:World) (hl:k*U.size un u+U.size un u≤cs.length) :
  (Instr.index t (.agg cs.toArray) (.int kd (k:Int))).run P w= .ok (valOf u ((cs.drop (k*U.size un u)).take (U.size un u))) w:=by
 have hag:∀w,(isAgg T).run P w= .ok (stB u) w:=by
  intro w
  unfold isAgg
  rw [Sem.run_bind,run_underlying hd' w]
  cases d'<;>simp_all [aggD]
 have h1:(Instr.index t (.agg cs.toArray) (.int kd (k:Int))).run P w=(part T cs.toArray (k*U.size un u)).run P w:=by
  simp [Instr.index,asIntOf,run_underlying hd,Go.sizeOf,typeInfo,hi,hs,hk]
 rw [h1]
 unfold part
 rw [Sem.run_bind,hag w]
 cases u with
 | st m =>
   simp [stB,Go.sizeOf,typeInfo,hi,hs,valOf]
 | _ =>
   simp only [stB,U.size] at hl hp ⊢
   have hlt:k<cs.length:=by omega
   simp [valOf,hlt,List.take_one,List.head?_drop]
theorem row_of {P:Program} {un:Uni S} {t:TypeId} {r:TyRow S} {d:TypeDesc} {z:Value} (hd:P.underlying t=some d) (hz:(P.info? t).bind (·.zero)=some z) (hn:(P.info? t).map (·.size)=some r.n) (hzc:Nat.beq z.cells.size r.n=true)
  (hzz:r.zero=z.cells.toList.map constPV) (hc:rowB P un d r=true) (hzb:zB z r.agg=true) (harr:arrB P un d r=true) (hmp:∀kt k vt v,r.mp=some (kt,k,vt,v)→d= .map kt vt∧KeyOk P un kt k)
  (heq:∀n,r.code=some (.st n)→((un.codes n).all U.scalar&&Nat.beq r.fields.length (un.codes n).length)=true→∀D w t1 t2 c1 c2 op x y,DR un D w (un.codes n) t1 c1→DR un D w (un.codes n) t2 c2→∀b,(op= .eql∧b=eqC (un.codes n) t1 t2∨op= .neq∧b= !eqC (un.codes n) t1 t2) →
   (eqGuard op t x y (.agg c1.toArray) (.agg c2.toArray)).run P w= .ok () w∧(binOp op t (.agg c1.toArray) (.agg c2.toArray)).run P w= .ok (.bool b) w):RowOk P un t r:=by
 unfold rowB at hc
 simp only [Bool.and_eq_true] at hc
 obtain ⟨⟨⟨h0,h1⟩,h2⟩,h3⟩:=hc
 refine ⟨hn,fun ha=>⟨d,hd,by rw [ha] at h1;exact h1⟩,fun ha=> ?_,⟨z,hz,Nat.eq_of_beq_eq_true hzc,hzz⟩,fun hk=> ?_,fun hk=> ?_,fun hk=> ?_,fun T u he=> ?_,fun hk f dd s hf a w=> ?_,fun hk f dd s hf a k w=> ?_,fun hk z' hz' ps cs w hfl=> ?_,fun n hcd=> ?_,fun k hcd=> ?_,⟨d,hd⟩,fun z' hz'=> ?_,fun T u ha n off s' hf=> ?_,fun kt k vt v hm=>by obtain ⟨rfl,h⟩:=hmp kt k vt v hm;exact ⟨hd,h⟩,heq⟩
 ·rw [ha] at h1
  simp only [cond_false,Bool.and_eq_true,Bool.not_eq_true'] at h1
  refine ⟨Nat.eq_of_beq_eq_true h1.2,fun w=> ?_⟩
  unfold isAgg
  rw [Sem.run_bind,run_underlying hd w]
  cases d<;>simp_all [aggD]
 ·unfold kdB at h2;rw [hk] at h2;split at h2<;>first | (rename_i hx _;cases hx;done) | simp_all
 ·unfold kdB at h2;rw [hk] at h2;split at h2<;>first | (rename_i hx _;cases hx;done) | simp_all
 ·unfold kdB at h2
  rw [hk] at h2
  split at h2<;>first | (simp_all;done) | skip
  rename_i T T' u _ he
  simp only [Bool.and_eq_true] at h2
  have:=Nat.eq_of_beq_eq_true h2.1
  subst this
  exact ⟨T,u,he,hd,elB_ok h2.2⟩
 ·unfold kdB at h2;rw [he] at h2;split at h2<;>first | assumption | (simp_all;done)
 ·have hfs:∃fs,d= .struct fs∧fieldsB P fs.toList r.fields=true:=by
   unfold kdB at h2
   rw [hk] at h2
   split at h2<;>first | (simp_all;done) | exact ⟨_,rfl,h2⟩
  clear h2
  obtain ⟨fs,rfl,h2⟩:=hfs
  unfold fieldsB at h2
  simp only [Bool.and_eq_true,List.all_eq_true,Nat.blt_eq] at h2
  obtain ⟨h2,hpos⟩:=h2
  split at h2
  ·rename_i m hm
   have:=natPairsB_ok h2
   subst this
   obtain ⟨fd,g1,g2⟩:=mapM_get hm f _ hf
   have hs:=hpos _ (List.mem_of_getElem? hf)
   simp only [Option.map_eq_some_iff,Prod.mk.injEq] at g2
   obtain ⟨i,g3,g4,g5⟩:=g2
   subst g4 g5
   obtain ⟨k,hk'⟩:∃k,i.size=k+1:=⟨i.size - 1,by simp only at hs;omega⟩
   simp [Instr.fieldAt,run_underlying hd,show fs[f]? =some fd by simpa using g1,fieldPlace,Go.sizeOf,typeInfo,g3,hk',Instr.sureAddr]
  ·cases h2
 ·have hfs:∃n el i,d= .array n el∧P.info? el=some i∧0<i.size∧((List.range n).map fun j=>(j*i.size,i.size))=r.fields:=by
   unfold kdB at h2
   rw [hk] at h2
   split at h2<;>first | (simp_all;done) | skip
   rename_i n el _ _
   split at h2
   ·rename_i i hi
    simp only [Bool.and_eq_true,Nat.blt_eq] at h2
    exact ⟨n,el,i,rfl,hi,h2.1,natPairsB_ok h2.2⟩
   ·cases h2
  obtain ⟨n,el,i,rfl,hi,hpos,hfl⟩:=hfs
  rw [←hfl] at hf
  simp only [List.getElem?_map,Option.map_eq_some_iff,Prod.mk.injEq] at hf
  obtain ⟨j,g1,g2,g3⟩:=hf
  obtain ⟨hlt,hj⟩:=List.getElem?_eq_some_iff.1 g1
  simp only [List.getElem_range] at hj
  simp only [List.length_range] at hlt
  subst hj g2 g3
  simp [Instr.indexAt,asIntOf,run_underlying hd,Instr.sureAddr,Go.sizeOf,typeInfo,hi,hlt]
 ·rcases hk with hk | hk
  ·have hfs:∃fs,d= .struct fs∧fieldsB P fs.toList r.fields=true:=by
    unfold kdB at h2
    rw [hk] at h2
    split at h2<;>first | (simp_all;done) | exact ⟨_,rfl,h2⟩
   clear h2
   obtain ⟨fs,rfl,h2⟩:=hfs
   unfold fieldsB at h2
   simp only [Bool.and_eq_true] at h2
   obtain ⟨h2,_⟩:=h2
   split at h2
   ·rename_i m hm
    have:=natPairsB_ok h2
    subst this
    refine run_build w t ps.toArray cs.toArray ?_
    unfold Program.built
    cases hi:P.info? t with
    | none=>simp [hi] at hz'
    | some it =>
      simp only [hi,Option.bind_some] at hz'
      simp only [hd,hz',hm]
      have:=fill_of _ ps _ cs hfl
      simpa using this
   ·cases h2
  ·have hfs:∃n el i,d= .array n el∧P.info? el=some i∧0<i.size∧((List.range n).map fun j=>(j*i.size,i.size))=r.fields:=by
    unfold kdB at h2
    rw [hk] at h2
    split at h2<;>first | (simp_all;done) | skip
    rename_i n el _ _
    split at h2
    ·rename_i i hi
     simp only [Bool.and_eq_true,Nat.blt_eq] at h2
     exact ⟨n,el,i,rfl,hi,h2.1,natPairsB_ok h2.2⟩
    ·cases h2
   obtain ⟨n,el,i,rfl,hi,hpos,hfl2⟩:=hfs
   refine run_build w t ps.toArray cs.toArray ?_
   unfold Program.built
   cases hit:P.info? t with
   | none=>simp [hit] at hz'
   | some it =>
     simp only [hit,Option.bind_some] at hz'
     simp only [hd,hz',hi]
     have:=fill_of (fun i'=>some (i'*i.size,i.size)) ps _ cs (fillL_mono (fun k x hx=>by
      rw [←hfl2,List.getElem?_map,Option.map_eq_some_iff] at hx
      obtain ⟨j,hj,rfl⟩:=hx
      obtain ⟨hlt,hj⟩:=List.getElem?_eq_some_iff.1 hj
      simp only [List.getElem_range] at hj
      rw [hj]) hfl)
     simpa using this
 ·rw [hcd] at h3
  simp only [Bool.and_eq_true] at h3
  exact ⟨h3.1,Nat.eq_of_beq_eq_true h3.2⟩
 ·unfold codeB at h0
  rw [hcd] at h0
  cases d with
  | int k' =>
    simp only at h0
    cases hk:kindEq k k' with
    | none=>rw [hk] at h0;cases h0
    | some x=>rw [x.down];exact hd
  | _=>cases h0
 ·rw [hz] at hz'
  cases hz'
  unfold zB at hzb
  refine ⟨fun ha=> ?_,fun ha=> ?_⟩
  ·rw [ha] at hzb
   cases z<;>first | exact ⟨_,rfl⟩ | cases hzb
  ·rw [ha] at hzb
   cases z<;>first | (cases hzb;done) | rfl
 ·unfold arrB at harr
  rw [ha] at harr
  simp only [Bool.and_eq_true] at harr
  obtain ⟨⟨hk4,hd4⟩,hi4⟩:=harr
  have hk4:=Nat.eq_of_beq_eq_true hk4
  have hfs:∃n el i,d= .array n el∧P.info? el=some i∧0<i.size∧((List.range n).map fun j=>(j*i.size,i.size))=r.fields:=by
   unfold kdB at h2
   rw [hk4] at h2
   split at h2<;>first | (simp_all;done) | skip
   rename_i n el _ _
   split at h2
   ·rename_i i hi
    simp only [Bool.and_eq_true,Nat.blt_eq] at h2
    exact ⟨n,el,i,rfl,hi,h2.1,natPairsB_ok h2.2⟩
   ·cases h2
  obtain ⟨m,el,i,rfl,hi,hpos,hfl⟩:=hfs
  have hT:=Nat.eq_of_beq_eq_true hd4
  subst hT
  rw [←hfl] at hf
  simp only [List.getElem?_map,Option.map_eq_some_iff,Prod.mk.injEq] at hf
  obtain ⟨j,g1,g2,g3⟩:=hf
  obtain ⟨hlt,hj⟩:=List.getElem?_eq_some_iff.1 g1
  simp only [List.getElem_range] at hj
  simp only [List.length_range] at hlt
  subst hj g2 g3
  rw [hi] at hi4
  split at hi4
  ·rename_i i' d' hi' hd'
   cases hi'
   simp only [Bool.and_eq_true,Nat.blt_eq] at hi4
   have hs:=Nat.eq_of_beq_eq_true hi4.1.1
   refine ⟨hs,fun cs k w hl=> ?_⟩
   rw [hs] at hl ⊢
   exact arr_ok hd hi hd' hs (bbeq_eq hi4.1.2) hi4.2 hlt cs k w hl
  ·cases hi4
end Pe
end
