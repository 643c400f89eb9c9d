/- PROVED HERE: a part of the seat's proofs; see the text that holds the claim's theorem. -/
import Derived.Test.YteimbekcnkogoaaGreatDoorNm
import Derived.MapKept
import Derived.Deep.Upon
import Derived.Laws.OwnMore
import Derived.Deep.AppendSrc
import Derived.Test.YteimbekcnkogoaaGreatDoorPeA
section
/- Quiet operations on maps, and on rows to which one za2. -/
namespace Pe
open Go Go.RowKit
variable {S:Nat→Type}
theorem znA {cs:Nat→List Value} {m:Nat}:∀(n k i:Nat),(∀j,k≤j→j<k+n→(cs j).length=m)→i<n→(((List.range' k n).flatMap cs).drop (i*m)).take m=cs (k+i)
 | 0,_,_,_,h=>by omega
 | n+1,k,0,hl,_=>by
   have h0:=hl k (by omega) (by omega)
   simp only [yBj,yBn,yB0,yBa,yBG]
   rw [←h0,yBP]
 | n+1,k,i+1,hl,h=>by
   have h0:=hl k (by omega) (by omega)
   simp only [yBj,yBn]
   rw [show (i+1)*m=(cs k).length+i*m by rw [h0,yAw,yAN,yCd],yCm,yBt (yCo _ _),yA7,yBe]
   rw [znA n (k+1) i (fun j h1 h2=>hl j (by omega) (by omega)) (by omega)]
   rw [show k+1+i=k+(i+1) by omega]
theorem zlw {cs:Nat→List Value} {m n i:Nat} (hl:∀j,j<n→(cs j).length=m) (h:i<n):(((List.range n).flatMap cs).drop (i*m)).take m=cs i:=by
 have:=znA (cs:=cs) (m:=m) n 0 i (fun j _ h2=>hl j (by omega)) h
 rw [yBz];simpa using this
section
variable {P:Program} {un:Uni S} {tb:Tb S} {orc:Orc S} {inl:Inl S} {E:Wl.Ctx} {N:Wl.Fr} {D:Dat} {H:List Wl.Res} {e:Env S} {bx:Bxs S} {a:Act} {w:World} {o:Oper} {R:Type} {K:PV S→Option R} {r:R}
def zoR (un:Uni S) (D:Dat) (w:World) (v:Value) (u:U) (l:List (El S u)):Prop :=
 (v= .slice none 0 0∧l=[])∨∃g cap,v= .slice (some ⟨g,0,none⟩) l.length cap∧l.length≤cap∧∀i x,l[i]? =some x→∃cs,w.rangeAt g (i*U.size un u) cs∧DR un D w [u] (sg x) cs
theorem zrR {u:U} {T:TypeId} {l:List (El S u)} {v:Value} {T':TypeId} {size n:Nat} {xs:List Value} {nu:Nu} (hh:Wl.Res.holds E w (.wr v T' size n xs)) (h:BoxRep un nu D w E false (.wr u T l) (.wr v T' size n xs)):zoR un D w v u l:=by
 simp only [BoxRep] at h
 obtain ⟨rfl,rfl,rfl,hx⟩:=h
 obtain ⟨⟨hlen,hh⟩,_⟩:=hh
 rcases hh with ⟨rfl,hn⟩ | ⟨g,cap,cur,rfl,hb,hg,hnc,hcm,hcs,htk⟩
 ·exact .inl ⟨rfl,yAJ.1 hn⟩
 ·refine .inr ⟨g,cap,rfl,hnc,fun i x hi=>⟨_,fun j v hj=> ?_,hx i x hi⟩⟩
  have hil:i<l.length:=(yAb.1 hi).1
  rw [yAF] at hj
  split at hj
  ·rename_i hjs
   rw [yAu] at hj
   have h1:i*U.size un u+j<l.length*U.size un u:=by
    have h2:(i+1)*U.size un u≤l.length*U.size un u:=yAm _ hil
    have h3:(i+1)*U.size un u=i*U.size un u+U.size un u:=by rw [yAw,yAN]
    omega
   rw [cell_of_row w g _ _ _ _ hg]
   subst htk
   rw [yAq h1] at hj
   simpa using hj
  ·cases hj
theorem zjy (hf:znX un) {u:U} {l:List (El S u)} {v:Value} {g:Option Nat} {size:Nat} {ob:Obj} (h1:Wl.fixOk v g size ob) (h2:∀g0,g=some g0→w.heap[g0]? =some ob) (h:DR un D w [.rw u] (sg (u:= .rw u) l) [Wl.fixV v size ob]):zoR un D w v u l∧(∀A n c,v= .slice A n c→n=l.length∧size=U.size un u)∧∀m,v≠ .map m:=by
 generalize hv:Wl.fixV v size ob=val at h
 cases h with
 | rw cs hc h =>
   cases h
   have hc':∀i x,l[i]? =some x→DR un D w [u] (sg x) (cs i):=hc
   change Wl.fixV v size ob=Wl.encV l.length (U.size un u) ((List.range l.length).flatMap cs) at hv
   rcases h1 with ⟨g0,es,c,rfl,rfl,rfl⟩ | ⟨g0,n,cap,cur,T,fz,rfl,rfl,rfl,hnc,hcm,hcs,hfz⟩ | ⟨rfl,rfl⟩ | ⟨g0,T,pp,A0,n0,c0,rfl,rfl,rfl,_⟩
   ·simp [Wl.fixV,Wl.encM,Wl.encV] at hv
   ·simp only [Wl.fixV,Wl.encV,Value.func.injEq,Fn.func.injEq,yCi,yBI,Value.int.injEq,true_and,and_true] at hv
    obtain ⟨rfl,hl,hs⟩:=hv
    have hs:size=U.size un u:=by exact_mod_cast hs
    subst hs
    have hlen:∀j,j<l.length→(cs j).length=U.size un u:=fun j hj=>by rw [(hc' j _ (yAe hj)).length hf];simp [zfF]
    refine ⟨.inr ⟨g0,cap,rfl,hnc,fun i x hi=>⟨cs i,fun j y hj=> ?_,hc' i x hi⟩⟩,fun A n c he=>by cases he;exact ⟨rfl,rfl⟩,fun m hm=>by cases hm⟩
    have hil:i<l.length:=(yAb.1 hi).1
    have hjl:j<U.size un u:=by rw [←hlen i hil];exact (yAb.1 hj).1
    rw [←zlw hlen hil,←hl,yAq hjl,yAu] at hj
    have h3:i*U.size un u+j<l.length*U.size un u:=by
     have h4:(i+1)*U.size un u≤l.length*U.size un u:=yAm _ hil
     have h5:(i+1)*U.size un u=i*U.size un u+U.size un u:=by rw [yAw,yAN]
     omega
    rw [yAq h3] at hj
    rw [cell_of_row w g0 _ _ _ _ (h2 g0 rfl)]
    simpa using hj
   ·simp only [Wl.fixV,Wl.encV,Value.func.injEq,Fn.func.injEq,yCi,yBI,Value.int.injEq,true_and,and_true] at hv
    obtain ⟨h3,_,h4⟩:=hv
    have h3:l=[]:=yAJ.1 h3.symm
    refine ⟨.inl ⟨rfl,h3⟩,fun A n c he=> ?_,fun m hm=>by cases hm⟩
    cases he
    exact ⟨by rw [h3];rfl,by exact_mod_cast h4⟩
   ·simp [Wl.fixV,Wl.encV] at hv
theorem zeh {u:U} {x:El S u} {nu:Nu} {v:Value} (h:RepL un nu D w [.cont u x] [v]):DR un D w [u] (sg x) [v]:=by
 simp only [RepL,Rep] at h;exact h.1
theorem zjz (hun:UniOk un) (hs:St un E N D H e bx a w) {p:PV S} {b:Nat} {u:U} {l:List (El S u)} {v:Value} (h:zpj bx p=some (b,⟨u,l⟩)) (hr:Rep un (ids H) D w p v):(∃fl,(ids H)[b]? =some (fl,v))∧zoR un D w v u l:=by
 unfold zpj at h
 split at h
 ·rename_i b0
  split at h
  ·rename_i u0 T l0 hb
   cases h
   cases hg:zar bx b with
   | none=>rw [hg] at hb;cases hb
   | some x =>
     rw [hg] at hb
     simp only [yAg,yAf] at hb
     obtain ⟨r,hr1,hr2⟩:=hs.boxes.get hg
     obtain ⟨ro,hb2⟩:=hr2.base
     rw [hb] at hb2
     simp only [Rep] at hr
     refine ⟨⟨_,hr.1⟩,?_⟩
     have h1:=hr.1
     simp only [ids,yAh,hr1,yAg,yAf] at h1
     cases r<;>cases ro<;>simp only [BoxRep] at hb2
     rename_i v0 T0 size n xs
     simp [zap] at h1
     subst h1
     exact zrR (nu:=ids H) (hs.inn.res _ (yAc hr1)) (by simpa only [BoxRep] using hb2)
  ·cases h
 ·rename_i b0
  split at h
  ·rename_i T u0 l0 hb
   cases h
   cases hg:zar bx b with
   | none=>rw [hg] at hb;cases hb
   | some x =>
     rw [hg] at hb
     simp only [yAg,yAf] at hb
     obtain ⟨r,hr1,hr2⟩:=hs.boxes.get hg
     obtain ⟨ro,hb2⟩:=hr2.base
     rw [hb] at hb2
     simp only [Rep] at hr
     refine ⟨⟨_,hr.1⟩,?_⟩
     have h1:=hr.1
     simp only [ids,yAh,hr1,yAg,yAf] at h1
     cases r<;>cases ro<;>simp only [BoxRep] at hb2
     ·exfalso
      rename_i g T0 cs
      simp [zap] at h1
      subst h1
      simp [zfT] at hr
     ·rename_i v0 g size ob
      simp [zap] at h1
      subst h1
      have hh:=hs.inn.res _ (yAc hr1)
      exact (zjy hun.flat hh.1 (fun g0 hg0=>(hh.2 g0 hg0).2) (zeh hb2)).1
     ·rename_i id
      obtain ⟨vs,hse,hl⟩:=hb2
      simp only [zap] at h1
      subst h1
      cases hse with
      | box g T' vs h1 h2 h3=>simp [zfT] at hr
      | fix v g size ob T' h1 h2=>exact (zjy hun.flat h1 (fun g0 hg0=>(h2 g0 hg0).2.2) (zeh hl)).1
  ·cases h
 ·cases h
theorem zj6 (hun:UniOk un) (hs:St un E N D H e bx a w) {b:Nat} {u:U} {l:List (El S u)} {v:Value} {fl:Bool} (h:zpY bx b u=some l) (hr:(ids H)[b]? =some (fl,v)) (hv:∃A n c,v= .slice A n c):zoR un D w v u l:=by
 unfold zpY at h
 split at h
 ·rename_i u0 T l0 hb
  split at h
  ·rename_i heq _
   subst heq
   cases h
   cases hg:zar bx b with
   | none=>rw [hg] at hb;cases hb
   | some x =>
     rw [hg] at hb
     simp only [yAg,yAf] at hb
     obtain ⟨r,hr1,hr2⟩:=hs.boxes.get hg
     obtain ⟨ro,hb2⟩:=hr2.base
     rw [hb] at hb2
     simp only [ids,yAh,hr1,yAg,yAf] at hr
     cases r<;>cases ro<;>simp only [BoxRep] at hb2
     rename_i v0 T0 size n xs
     simp [zap] at hr
     obtain ⟨_,rfl⟩:=hr
     exact zrR (nu:=ids H) (hs.inn.res _ (yAc hr1)) (by simpa only [BoxRep] using hb2)
  ·cases h
 ·rename_i T u0 l0 hb
  split at h
  ·rename_i heq _
   subst heq
   cases h
   cases hg:zar bx b with
   | none=>rw [hg] at hb;cases hb
   | some x =>
     rw [hg] at hb
     simp only [yAg,yAf] at hb
     obtain ⟨r,hr1,hr2⟩:=hs.boxes.get hg
     obtain ⟨ro,hb2⟩:=hr2.base
     rw [hb] at hb2
     simp only [ids,yAh,hr1,yAg,yAf] at hr
     obtain ⟨A,n,c,rfl⟩:=hv
     cases r<;>cases ro<;>simp only [BoxRep] at hb2
     ·exfalso
      simp [zap] at hr
     ·rename_i v0 g size ob
      simp [zap] at hr
      obtain ⟨_,rfl⟩:=hr
      have hh:=hs.inn.res _ (yAc hr1)
      exact (zjy hun.flat hh.1 (fun g0 hg0=>(hh.2 g0 hg0).2) (zeh hb2)).1
     ·rename_i id
      obtain ⟨vs,hse,hl⟩:=hb2
      simp only [zap] at hr
      subst hr
      generalize hid:(fl,Value.slice A n c)=id at hse
      cases hse with
      | box g T' vs h1 h2 h3=>cases hid
      | fix v g size ob T' h1 h2=>cases hid;exact (zjy hun.flat h1 (fun g0 hg0=>(h2 g0 hg0).2.2) (zeh hl)).1
  ·cases h
 ·cases h
theorem zlL {nu:Nu} {u:U} {x:El S u} {cs:List Value} (h:DR un D w [u] (sg x) cs):Rep un nu D w (inj u x) (zbv u cs):=by
 cases u with
 | st n=>simp only [inj,Rep,zbv];exact ⟨cs,rfl,h⟩
 | int k=>cases h with | int h=>cases h;simp only [inj,Rep,zbv];rfl
 | bool=>cases h with | bool h=>cases h;simp only [inj,Rep,zbv];rfl
 | str=>cases h with | str h=>cases h;simp only [inj,Rep,zbv];rfl
 | sl u =>
   cases h with
   | sl0 A c h0 h=>cases h;simp only [inj,Rep,zbv];exact .sl0 A c h0 .nil
   | sl b off c cs hc h1 h2 h=>cases h;simp only [inj,Rep,zbv];exact .sl b off c cs hc h1 h2 .nil
 | mp k v=>cases h with | mp kc vc h1 h2 h=>cases h;simp only [inj,Rep,zbv];exact .mp kc vc h1 h2 .nil
 | rw u=>cases h with | rw cs h1 h=>cases h;simp only [inj,Rep,zbv];exact .rw cs h1 .nil
def ValsRep (un:Uni S) (D:Dat) (w:World) (v:U):List (El S v)→List MapEntry→Prop
 | [],[]=>True
 | y::l,e::es=>Rep un [] D w (inj v y) e.val∧ValsRep un D w v l es
 | _,_=>False
theorem zja:∀{es:List MapEntry} {n k:Nat} {f g:Nat→Value},(List.range' k n).flatMap (fun i=>[f i,g i])=es.flatMap (fun e=>[e.key,e.val])→es.length=n∧∀i e,es[i]? =some e→e.key=f (k+i)∧e.val=g (k+i)
 | [],0,_,_,_,_=>⟨rfl,fun i e h=>by simp at h⟩
 | e::es,n+1,k,f,g,h=>by
   simp only [yBj,yBn,yBb,yBe,yBI] at h
   obtain ⟨h1,h2,h3⟩:=h
   obtain ⟨g1,g2⟩:=zja h3
   refine ⟨by simp [g1],fun i e' hi=> ?_⟩
   cases i with
   | zero=>simp at hi;subst hi;exact ⟨h1.symm,h2.symm⟩
   | succ i=>have:=g2 i e' (by simpa using hi);rwa [show k+1+i=k+(i+1) by omega] at this
 | [],n+1,k,_,_,h=>by simp [yBj] at h
 | e::es,0,k,_,_,h=>by simp at h
theorem ziY {k:U} {f:Nat→List Value}:∀{l:List (El S k)} {es:List MapEntry} (m:Nat),es.length=l.length→(∀i x,l[i]? =some x→DR un D w [k] (sg x) (f (m+i)))→(∀i e,es[i]? =some e→e.key=zbv k (f (m+i)))→KeysRep un D w k l es
 | [],[],_,_,_,_=>trivial
 | x::l,e::es,m,hl,h1,h2=>by
   refine ⟨by rw [h2 0 e rfl];exact zlL (h1 0 x rfl),ziY (f:=f) (m+1) (by simpa using hl) (fun i y hi=> ?_) fun i y hi=> ?_⟩
   ·have:=h1 (i+1) y (by simpa using hi);rwa [show m+(i+1)=m+1+i by omega] at this
   ·have:=h2 (i+1) y (by simpa using hi);rwa [show m+(i+1)=m+1+i by omega] at this
 | [],_::_,_,hl,_,_=>by simp at hl
 | _::_,[],_,hl,_,_=>by simp at hl
theorem ziy {k:U} {f:Nat→List Value}:∀{l:List (El S k)} {es:List MapEntry} (m:Nat),es.length=l.length→(∀i x,l[i]? =some x→DR un D w [k] (sg x) (f (m+i)))→(∀i e,es[i]? =some e→e.val=zbv k (f (m+i)))→ValsRep un D w k l es
 | [],[],_,_,_,_=>trivial
 | x::l,e::es,m,hl,h1,h2=>by
   refine ⟨by rw [h2 0 e rfl];exact zlL (h1 0 x rfl),ziy (f:=f) (m+1) (by simpa using hl) (fun i y hi=> ?_) fun i y hi=> ?_⟩
   ·have:=h1 (i+1) y (by simpa using hi);rwa [show m+(i+1)=m+1+i by omega] at this
   ·have:=h2 (i+1) y (by simpa using hi);rwa [show m+(i+1)=m+1+i by omega] at this
 | [],_::_,_,hl,_,_=>by simp at hl
 | _::_,[],_,hl,_,_=>by simp at hl
theorem KeysRep.length {k:U}:∀{l:List (El S k)} {es:List MapEntry},KeysRep un D w k l es→l.length=es.length
 | [],[],_=>rfl
 | _::_,_::_,h=>by simp [h.2.length]
 | [],_::_,h=>h.elim
 | _::_,[],h=>h.elim
theorem zjP {k v:U} {l:List (El S k×El S v)} {val:Value} {g:Option Nat} {size:Nat} {ob:Obj} (h1:Wl.fixOk val g size ob) (h:DR un D w [.mp k v] (sg (u:= .mp k v) l) [Wl.fixV val size ob]) :
  ∃g0 es c,val= .map (some g0)∧g=some g0∧ob= .map es c∧KeysRep un D w k (l.map (·.1)) es.toList∧ValsRep un D w v (l.map (·.2)) es.toList:=by
 generalize hv:Wl.fixV val size ob=x at h
 cases h with
 | mp kc vc hk hw h =>
   cases h
   have hk':∀(i:Nat) x,l[i]? =some x→DR un D w [k] (sg x.1) (kc i):=hk
   have hw':∀(i:Nat) x,l[i]? =some x→DR un D w [v] (sg x.2) (vc i):=hw
   change Wl.fixV val size ob=Wl.encM ((List.range l.length).flatMap fun i=>[zbv k (kc i),zbv v (vc i)]) at hv
   rcases h1 with ⟨g0,es,c,rfl,rfl,rfl⟩ | ⟨g0,n,cap,cur,T,fz,rfl,rfl,rfl,hnc,hcm,hcs,hfz⟩ | ⟨rfl,rfl⟩ | ⟨g0,T,pp,A0,n0,c0,rfl,rfl,rfl,_⟩
   ·simp only [Wl.fixV,Wl.encM,Value.func.injEq,yCi,true_and,and_true] at hv
    rw [yBz] at hv
    obtain ⟨e1,e2⟩:=zja hv.symm
    refine ⟨g0,es,c,rfl,rfl,rfl,ziY (f:=kc) 0 (by simpa using e1) (fun i x hi=> ?_) (fun i e he=> ?_),ziy (f:=vc) 0 (by simpa using e1) (fun i x hi=> ?_) fun i e he=> ?_⟩
    ·rw [yAh] at hi
     cases hl:l[i]? with
     | none=>rw [hl] at hi;cases hi
     | some y=>rw [hl] at hi;cases hi;rw [yA0];exact hk' i y hl
    ·exact (e2 i e he).1
    ·rw [yAh] at hi
     cases hl:l[i]? with
     | none=>rw [hl] at hi;cases hi
     | some y=>rw [hl] at hi;cases hi;rw [yA0];exact hw' i y hl
    ·exact (e2 i e he).2
   ·simp [Wl.fixV,Wl.encM,Wl.encV] at hv
   ·simp [Wl.fixV,Wl.encM,Wl.encV] at hv
   ·simp [Wl.fixV,Wl.encM] at hv
theorem zne (hs:St un E N D H e bx a w) {p:PV S} {k v:U} {l:List (El S k×El S v)} {val:Value} (h:zrd bx k v p=some l) (hr:Rep un (ids H) D w p val) :
  ∃g0 es c,val= .map (some g0)∧w.heap[g0]? =some (.map es c)∧KeysRep un D w k (l.map (·.1)) es.toList∧ValsRep un D w v (l.map (·.2)) es.toList:=by
 unfold zrd at h
 split at h
 ·rename_i b
  split at h
  ·rename_i T u0 l0 hb
   split at h
   ·rename_i heq _
    subst heq
    cases h
    cases hg:zar bx b with
    | none=>rw [hg] at hb;cases hb
    | some x =>
      rw [hg] at hb
      simp only [yAg,yAf] at hb
      obtain ⟨r,hr1,hr2⟩:=hs.boxes.get hg
      obtain ⟨ro,hb2⟩:=hr2.base
      rw [hb] at hb2
      simp only [Rep] at hr
      have h1:=hr.1
      simp only [ids,yAh,hr1,yAg,yAf] at h1
      cases r<;>cases ro<;>simp only [BoxRep] at hb2
      ·exfalso
       simp [zap] at h1
       subst h1
       simp [zfT] at hr
      ·rename_i v0 g size ob
       simp [zap] at h1
       subst h1
       have hh:=hs.inn.res _ (yAc hr1)
       obtain ⟨g0,es,c,e1,e2,e3,e4,e5⟩:=zjP hh.1 (zeh hb2)
       subst e3
       exact ⟨g0,es,c,e1,(hh.2 g0 e2).2,e4,e5⟩
      ·rename_i id
       obtain ⟨vs,hse,hl⟩:=hb2
       simp only [zap] at h1
       subst h1
       cases hse with
       | box g T' vs h1 h2 h3=>simp [zfT] at hr
       | fix v0 g size ob T' h1 h2 =>
         obtain ⟨g0,es,c,e1,e2,e3,e4,e5⟩:=zjP h1 (zeh hl)
         subst e3
         exact ⟨g0,es,c,e1,(h2 g0 e2).2.2,e4,e5⟩
   ·cases h
  ·cases h
 ·cases h
theorem zly {k v:U} {x:El S k} {z:El S v}:∀{l:List (El S k×El S v)} {es:List MapEntry} (i:Nat),ValsRep un D w v (l.map (·.2)) es→l.length=es.length →
  (zeW ((l.map (·.1)).map (keq un k x)) es i=none∧zsH (keq un k) x l=false∧znc (keq un k) x z l=z)∨∃j y,zeW ((l.map (·.1)).map (keq un k x)) es i=some (j,y)∧zsH (keq un k) x l=true∧Rep un [] D w (inj v (znc (keq un k) x z l)) y
 | [],[],i,_,_=> .inl ⟨rfl,rfl,rfl⟩
 | (k0,v0)::l,e::es,i,h,hl=>by
   simp only [yAn,ValsRep] at h
   simp only [yAn,zsH,znc]
   cases hk:keq un k x k0 with
   | true=>exact .inr ⟨i,e.val,rfl,rfl,h.1⟩
   | false=>simpa only [zeW,cond_false] using zly (i+1) h.2 (by simpa using hl)
 | [],_::_,_,_,hl=>by simp at hl
 | _::_,[],_,_,hl=>by simp at hl
theorem zg8 (hun:UniOk un) (ht:TbOk P un tb) {t:TypeId} {u:U} {z:El S u} (h:zfv un tb t u=some z):∃v,(zeroValue t).run P w= .ok v w∧Rep un [] D w (inj u z) v:=by
 unfold zfv at h
 split at h
 ·rename_i r hr
  have hrow:=ht.ty t r hr
  obtain ⟨v,g1,g2,g3⟩:=hrow.zero
  have hrun:(zeroValue t).run P w= .ok v w:=by
   cases hi:P.info? t with
   | none=>rw [hi] at g1;cases g1
   | some i =>
     rw [hi] at g1
     simp only [yAs] at g1
     simp [zeroValue,typeInfo,hi,g1]
  refine ⟨v,hrun,?_⟩
  obtain ⟨za,zb⟩:=hrow.zagg v g1
  split at h
  ·rename_i n
   obtain ⟨h1,h2⟩:=zag h
   obtain ⟨cs,rfl⟩:=za h1
   refine (zcc (nu:=[]) (D:=D) (w:=w) hun h2 ?_).2
   simp only [Rep]
   refine ⟨cs.toList,by simp,?_⟩
   rw [g3];exact zeK _
  ·cases ha:r.agg with
   | true=>rw [ha] at h;cases h
   | false =>
     rw [ha] at h
     simp only [cond_false] at h
     have hc:=zb ha
     rw [hc] at g3
     simp at g3
     rw [g3] at h
     simp only at h
     exact (zf3 (un:=un) (nu:=[]) (D:=D) (w:=w) h (zhF v)).2.2
 ·cases h
theorem zlr {α:Type} {l:List α} {n:Int} {k:Nat} (h:zeb l n=some k):n=k∧k<l.length:=by
 unfold zeb at h
 split at h
 ·obtain ⟨h1,h2⟩:=zag h
  cases h2
  exact ⟨rfl,by simpa [yA4] using h1⟩
 ·cases h
theorem zhE {u:U} {l:List (El S u)} {v:Value} (h:zoR un D w v u l) {i:Nat} {x:El S u} (hi:l[i]? =some x):∃g cap cs,v= .slice (some ⟨g,0,none⟩) l.length cap∧w.rangeAt g (i*U.size un u) cs∧DR un D w [u] (sg x) cs:=by
 rcases h with ⟨_,rfl⟩ | ⟨g,cap,rfl,hc,h⟩
 ·simp at hi
 ·obtain ⟨cs,h1,h2⟩:=h i x hi
  exact ⟨g,cap,cs,rfl,h1,h2⟩
theorem znx (l:List Int) (i:Nat) (h:i<l.length):l.getD i 0=l[i]:=by rw [yBu,yAe h];rfl
theorem zhX (ht:TbOk P un tb) {T:TypeId} (h:zsS tb T=true):P.underlying T=some (.int .u8):=by
 unfold zsS at h
 split at h
 ·rename_i hc
  cases hr:tb.ty.get T with
  | none=>rw [hr] at hc;cases hc
  | some r=>rw [hr] at hc;exact (ht.ty T r hr).int _ hc
 ·cases h
theorem zrk (hun:UniOk un) (ht:TbOk P un tb) {t:TypeId} {u:U} {y:El S u} {off g p:Nat} {cs:List Value} {q:PV S} {nu:Nu} (hl:load un tb t (.elp u y off) bx=some q) (hd:w.rangeAt g p cs) (hx:DR un D w [u] (sg y) cs) :
  ∃v,(Instr.loadAt t (.pointer (some ⟨g,p+off,none⟩))).run P w= .ok v w∧Rep un nu D w q v:=by
 unfold load at hl
 split at hl
 ·cases hl
 ·rename_i r hrow
  have hrow:=ht.ty t r hrow
  dsimp only at hl
  have hor:=zcj (nu:=nu) hun.flat hx
  split at hl
  ·rename_i m y m' hcode
   cases hbb:(Nat.beq m m'&&r.agg&&Nat.beq r.n (un.codes m).length) with
   | false=>rw [hbb] at hl;exact zdO (off:=0) hrow hd hor hl
   | true =>
     rw [hbb] at hl
     cases hl
     simp only [yAd] at hbb
     obtain ⟨d,hd1,hd2⟩:=hrow.agg hbb.1.2
     refine ⟨_,run_loadAt_mid (P:=P) w g p t cs d hd hd1 (by cases d<;>simp_all [zqk]) ?_,?_⟩
     ·rw [hrow.size,yAa hbb.2,hx.length hun.flat];simp [zfF,U.size]
     ·simp only [Rep];exact ⟨cs,rfl,hx⟩
  ·exact zdO hrow hd hor hl
theorem ztx:∀{l:List (El S (.int .u8))} {v:Value},zoR un D w v (.int .u8) l→(v= .slice none 0 0∧l=[])∨∃g cap,v= .slice (some ⟨g,0,none⟩) l.length cap∧∀i,i<l.length→w.cell? ⟨g,i,none⟩=some (.int .u8 (List.getD (α:=Int) l i 0)):=by
 intro l v h
 rcases h with h | ⟨g,cap,rfl,hc,h⟩
 ·exact .inl h
 ·refine .inr ⟨g,cap,rfl,fun i hi=> ?_⟩
  obtain ⟨cs,h1,h2⟩:=h i _ (yAe hi)
  cases h2 with
  | int h2 =>
    cases h2
    have:=h1 0 _ rfl
    simp only [U.size,yBq,yBG] at this
    rw [this]
    exact congrArg (fun z=>some (Value.int .u8 z)) (znx l i hi).symm
theorem zdU {s d T:TypeId} {l:List Int} {v:Value} (hs:P.underlying s=some (.slice T)) (hT:P.underlying T=some (.int .u8)) (hd:P.underlying d=some .string)
  (h:(∃A c,v= .slice A 0 c∧l=[])∨∃g off cap,v= .slice (some ⟨g,off,none⟩) l.length cap∧∀i,i<l.length→w.cell? ⟨g,off+i,none⟩=some (.int .u8 (l.getD i 0))):(convert s d v).run P w= .ok (.string ⟨(zjo l).toArray⟩) w:=by
 rcases h with ⟨A,c,rfl,rfl⟩ | ⟨g,off,cap,rfl,h⟩
 ·cases A with
  | none=>rw [run_convert_bytes_nil w s T hs hT 0 c d hd];rfl
  | some ad=>rw [run_convert_bytes_string w s d T _ _ _ hs hT hd];simp [Conv.bytesToString,loadCells,loadCellsFrom,zjo];rfl
 ·rw [run_convert_bytes_arg w s T hs hT g off l.length cap l rfl h d hd]
  congr 2
theorem zqo {nu:Nu} {l:List (El S (.int .u8))} {v:Value} (h:Rep un nu D w (.sl (.int .u8) l) v):(∃A c,v= .slice A 0 c∧l=[])∨∃g off cap,v= .slice (some ⟨g,off,none⟩) (List.length l) cap∧∀i,i<l.length→w.cell? ⟨g,off+i,none⟩=some (.int .u8 (List.getD (α:=Int) l i 0)):=by
 simp only [Rep] at h
 cases h with
 | sl0 A c h0 h =>
   have h0':l=[]:=h0
   exact .inl ⟨A,c,rfl,h0'⟩
 | sl b off c cs hc h1 h2 h =>
   refine .inr ⟨b,off,c,rfl,fun i hi=> ?_⟩
   have hi':i<(eL (hd (sg (u:= .sl (.int .u8)) l))).length:=hi
   have a1:=h1 i _ (yAe hi')
   have a2:=h2 i _ (yAe hi')
   generalize cs i=cc at a1 a2
   cases a2 with
   | int a2 =>
     cases a2
     have:=(a1 0 _ rfl).2
     simp only [U.size,yBq,yBG] at this
     rw [this]
     exact congrArg (fun z=>some (Value.int .u8 z)) (znx l i hi).symm
theorem zaX {p:PV S} (h:∀E N D H a w,St un E N D H e bx a w→∃v,(execOp a.eval o).run P w= .ok (.value v) w∧Rep un (ids H) D w p v):Gives P un o e bx p :=
 fun E N D H a w hs=> .inl (h E N D H a w hs)
theorem zl4 (hun:UniOk un) (ht:TbOk P un tb) (hor:SoundO P un orc) (hin:SoundI P un inl) (h:zdW un tb orc inl o e bx K=some r):∃p,K p=some r∧Gives P un o e bx p:=by
 have old:zdD un tb orc inl o e bx K=some r→∃p,K p=some r∧Gives P un o e bx p:=zl7 hun ht hor hin
 unfold zdW at h
 split at h
 ·-- indexAddr
  rename_i t x i ho
  split at h
  ·rename_i b u l hrow
   cases hx:ev e x with
   | none=>rw [hx] at hrow;cases hrow
   | some p =>
     rw [hx] at hrow
     simp only [yAs] at hrow
     split at h
     ·rename_i k n row hi hty
      obtain ⟨h1,h2⟩:=zag h
      simp only [yAd] at h1
      obtain ⟨j,h3,h4⟩:=zaK h2
      obtain ⟨rfl,hj⟩:=zlr h3
      refine ⟨_,h4,zaX fun E N D H a w hs=> ?_⟩
      obtain ⟨⟨fl,hid⟩,hra⟩:=zjz hun hs hrow (hs.ev hx)
      obtain ⟨g,cap,cs,hv,h5,h6⟩:=zhE hra (yAe hj)
      have hiv:=hs.ev hi;simp only [Rep] at hiv
      obtain ⟨T,u',e1,e2,e3⟩:=(ht.ty t row hty).slice (yAa h1.1)
      have hu:=zhr h1.2
      rw [e1] at hu
      simp at hu;subst hu
      refine ⟨.pointer (some ⟨g,0+j*U.size un u',none⟩),?_,?_⟩
      ·simp only [execOp,ho,hv,hiv]
       simp [zc2 (un:=un) (k:=k) (off:=0) (b:=g) (c:=cap) e2 e3 hj w]
      ·simp only [Rep];rw [hv] at hid;exact ⟨fl,g,_,_,hid,by simp⟩
     ·cases h
  ·exact old h
 ·-- fieldAddr
  rename_i s x f ho
  split at h
  ·rename_i b u i off hx
   split at h
   ·rename_i row hrow
    obtain ⟨h1,h2⟩:=zag h
    split at h2
    ·rename_i d sz hf
     refine ⟨_,h2,zaX fun E N D H a w hs=> ?_⟩
     have hv:=hs.ev hx;simp only [Rep] at hv
     obtain ⟨fl,g,n,c,g1,g2⟩:=hv
     have hrun:=(ht.ty s row hrow).field (yAa h1) f d sz hf ⟨g,i*U.size un u+off,none⟩ w
     exact ⟨_,by simp [execOp,ho,g2,hrun,Addr.add_mid];rfl,by simp only [Rep];exact ⟨fl,g,n,c,g1,by rw [yBK]⟩⟩
    ·cases h2
   ·cases h
  ·exact old h
 ·-- nilCheck
  rename_i x ho
  split at h
  ·rename_i b u i off hx
   refine ⟨_,h,zaX fun E N D H a w hs=> ?_⟩
   have hv:=hs.ev hx
   have hv':=hv
   simp only [Rep] at hv'
   obtain ⟨fl,g,n,c,g1,g2⟩:=hv'
   exact ⟨.pointer (some ⟨g,i*U.size un u+off,none⟩),by simp [execOp,ho,g2],g2▸hv⟩
  ·exact old h
 ·-- load
  rename_i t x ho
  split at h
  ·rename_i b u i off hx
   split at h
   ·rename_i l hel
    obtain ⟨y,h1,h2⟩:=zaK h
    have h1:l[i]? =some y:=h1
    split at h2
    ·rename_i q hq
     refine ⟨_,h2,zaX fun E N D H a w hs=> ?_⟩
     have hv:=hs.ev hx;simp only [Rep] at hv
     obtain ⟨fl,g,n,c,g1,g2⟩:=hv
     have hra:=zj6 hun hs hel g1 ⟨_,_,_,rfl⟩
     obtain ⟨g',cap,cs,hvv,h5,h6⟩:=zhE hra h1
     cases hvv
     obtain ⟨z,k1,k2⟩:=zrk (P:=P) (nu:=ids H) hun ht hq h5 h6
     exact ⟨z,by simp [execOp,ho,g2,k1],k2⟩
    ·cases h2
   ·cases h
  ·exact old h
 ·-- lookup
  rename_i t m x ok ho
  split at h
  ·rename_i p q kt k vt v hp hq hmp
   split at h
   ·rename_i l key z hl hkey hz
    obtain ⟨h1,h2⟩:=zag h
    cases hrow:tb.ty.get t with
    | none=>rw [hrow] at hmp;cases hmp
    | some row =>
      rw [hrow] at hmp
      simp only [yAs] at hmp
      obtain ⟨hu,hk⟩:=(ht.ty t row hrow).mp _ _ _ _ hmp
      refine ⟨_,h2,zaX fun E N D H a w hs=> ?_⟩
      obtain ⟨g0,es,c,e1,e2,e3,e4⟩:=zne hs hl (hs.ev hp)
      have hkr:=zdy (nu':=[]) (zcc hun hkey (hs.fz hun (hs.ev hq))).2
      obtain ⟨zv,z1,z2⟩:=zg8 (P:=P) (D:=D) (w:=w) hun ht hz
      have hfind:=hk.find D w key _ _ _ hkr e3
      have hlen:l.length=es.toList.length:=by have:=e3.length;simpa using this
      have hlk:∃y b,(Instr.lookup t (.map (some g0)) (a.eval x) ok).run P w= .ok (if ok then .tuple #[y,.bool b] else y) w∧b=zsH (keq un k) key l∧Rep un [] D w (inj v (znc (keq un k) key z l)) y:=by
       rcases zly (x:=key) (z:=z) 0 e4 hlen with ⟨f1,f2,f3⟩ | ⟨j,y,f1,f2,f3⟩
       ·refine ⟨zv,false,?_,f2.symm,by rw [f3];exact z2⟩
        rw [f1] at hfind
        simp [Instr.lookup,run_underlying hu,MapKept.run_getObj_map e2,hk.check D w key _ _ hkr,hfind,z1,Result.andThen]
       ·refine ⟨y,true,?_,f2.symm,f3⟩
        rw [f1] at hfind
        simp [Instr.lookup,run_underlying hu,MapKept.run_getObj_map e2,hk.check D w key _ _ hkr,hfind,Result.andThen]
      obtain ⟨y,b,f1,rfl,f3⟩:=hlk
      cases ok with
      | true=>exact ⟨_,by simp [execOp,ho,e1,f1];rfl,by simp only [cond_true,Rep];exact ⟨[y,.bool (zsH (keq un k) key l)],rfl,by simp only [RepL,Rep];exact ⟨zdy f3,trivial,trivial⟩⟩⟩
      | false=>exact ⟨y,by simp [execOp,ho,e1,f1],by simp only [cond_false];exact zdy f3⟩
   ·cases h
  ·cases h
 ·-- convert
  rename_i s d x ho
  split at h
  ·rename_i k0 n rs rd hx hs0 hd0
   split at h
   ·rename_i k hcode
    refine ⟨_,h,zaX fun E N D H a w hs=>⟨.int k (k.wrap n),?_,by simp only [Rep]⟩⟩
    have hv:=hs.ev hx;simp only [Rep] at hv
    obtain ⟨ds,hds⟩:=(ht.ty s rs hs0).und
    have hdd:=(ht.ty d rd hd0).int k hcode
    simp [execOp,ho,hv,convert,run_underlying hds,run_underlying hdd,Conv.intToInt]
   ·cases h
  ·rename_i l rs rd hx hs0 hd0
   obtain ⟨h1,h2⟩:=zag h
   simp only [yAd] at h1
   refine ⟨_,h2,zaX fun E N D H a w hs=>⟨.string ⟨l.toArray⟩,?_,by simp only [Rep]⟩⟩
   have hv:=hs.ev hx;simp only [Rep] at hv
   have hds:=(ht.ty s rs hs0).str (yAa h1.1)
   have hdd:=(ht.ty d rd hd0).str (yAa h1.2)
   simp [execOp,ho,hv,convert,run_underlying hds,run_underlying hdd]
  ·rename_i p rs rd _ _ hx hs0 hd0
   split at h
   ·rename_i _ T b l hel hrw
    obtain ⟨h1,h2⟩:=zag h
    simp only [yAd] at h1
    refine ⟨_,h2,zaX fun E N D H a w hs=>⟨.string ⟨(zjo l).toArray⟩,?_,by simp only [Rep]⟩⟩
    obtain ⟨_,hra⟩:=zjz hun hs hrw (hs.ev hx)
    obtain ⟨T',u',e1,e2,e3⟩:=(ht.ty s rs hs0).slice (yAa h1.1.2)
    rw [hel] at e1;cases e1
    have hdd:=(ht.ty d rd hd0).str (yAa h1.1.1)
    have:=zdU (P:=P) (w:=w) (l:=l) e2 (zhX ht h1.2) hdd (by
     rcases ztx hra with ⟨h5,h6⟩ | ⟨g,cap,h5,h6⟩
     ·exact .inl ⟨none,0,h5,h6⟩
     ·exact .inr ⟨g,0,cap,h5,fun i hi=>by rw [yA0];exact h6 i hi⟩)
    simp [execOp,ho,this]
   ·rename_i T l hel hrw hfz
    obtain ⟨h1,h2⟩:=zag h
    simp only [yAd] at h1
    refine ⟨_,h2,zaX fun E N D H a w hs=>⟨.string ⟨(zjo l).toArray⟩,?_,by simp only [Rep]⟩⟩
    have hv:=hs.fz1 hun (hs.ev hx)
    rw [hfz] at hv
    obtain ⟨T',u',e1,e2,e3⟩:=(ht.ty s rs hs0).slice (yAa h1.1.2)
    rw [hel] at e1;cases e1
    have hdd:=(ht.ty d rd hd0).str (yAa h1.1.1)
    have:=zdU (P:=P) (w:=w) (l:=l) e2 (zhX ht h1.2) hdd (zqo hv)
    simp [execOp,ho,this]
   ·rename_i T hel hrw hfz
    obtain ⟨h1,h2⟩:=zag h
    simp only [yAd] at h1
    refine ⟨_,h2,zaX fun E N D H a w hs=>⟨.string ⟨#[]⟩,?_,by simp only [Rep]⟩⟩
    have hv:=hs.fz1 hun (hs.ev hx)
    rw [hfz] at hv
    simp only [Rep] at hv
    obtain ⟨T',u',e1,e2,e3⟩:=(ht.ty s rs hs0).slice (yAa h1.1.2)
    rw [hel] at e1;cases e1
    have hdd:=(ht.ty d rd hd0).str (yAa h1.1.1)
    have:=zdU (P:=P) (w:=w) (l:=[]) e2 (zhX ht h1.2) hdd (.inl ⟨none,0,hv,rfl⟩)
    simp [execOp,ho,this,zjo]
   ·cases h
  ·cases h
 ·-- call
  rename_i c ho
  split at h
  ·rename_i hc
   split at h
   ·rename_i p row hargs hrow
    have hbuilt:∀{E N D H a w} (hs:St un E N D H e bx a w),∃v t,c.args.map a.eval= #[v]∧c.argTypes[0]? =some t∧tb.ty.get t=some row∧Rep un (ids H) D w p v:=by
     intro E N D H a w hs
     have g1:=hs.evs hargs
     cases hl:c.args.toList.map a.eval with
     | nil=>rw [hl] at g1;simp [RepL] at g1
     | cons v vs =>
       rw [hl] at g1
       simp only [RepL] at g1
       cases vs with
       | cons _ _=>simp [RepL] at g1
       | nil =>
         cases ht2:c.argTypes[0]? with
         | none=>rw [ht2] at hrow;cases hrow
         | some t =>
           rw [ht2] at hrow
           exact ⟨v,t,by cases hca:c.args;rw [hca] at hl;simpa using congrArg List.toArray hl,rfl,hrow,g1.1⟩
    split at h
    ·rename_i b u l hrw
     obtain ⟨h1,h2⟩:=zag h
     refine ⟨_,h2,zaX fun E N D H a w hs=> ?_⟩
     obtain ⟨v,t,g1,g2,g3,g4⟩:=hbuilt hs
     obtain ⟨_,hra⟩:=zjz hun hs hrw g4
     have hsl:∃A c,v= .slice A l.length c:=by
      rcases hra with ⟨rfl,rfl⟩ | ⟨g,cap,rfl,_⟩
      ·exact ⟨_,_,rfl⟩
      ·exact ⟨_,_,rfl⟩
     obtain ⟨A,cc,rfl⟩:=hsl
     obtain ⟨T,u',_,hu,_⟩:=(ht.ty t row g3).slice (yAa h1)
     refine ⟨.int .i64 (l.length:Int),?_,by simp only [Rep];rfl⟩
     simp [execOp,ho,hc,resolve,invoke,builtin,g1,g2,Builtin.len_,goInt,run_underlying hu]
    ·split at h
     ·rename_i kt k vt v0 hmp
      split at h
      ·rename_i l hl
       refine ⟨_,h,zaX fun E N D H a w hs=> ?_⟩
       obtain ⟨v,t,g1,g2,g3,g4⟩:=hbuilt hs
       obtain ⟨g0,es,c',e1,e2,e3,e4⟩:=zne hs hl g4
       subst e1
       obtain ⟨hu,_⟩:=(ht.ty t row g3).mp _ _ _ _ hmp
       have hlen:l.length=es.size:=by have:=e3.length;simpa using this
       refine ⟨.int .i64 (l.length:Int),?_,by simp only [Rep];rfl⟩
       simp [execOp,ho,hc,resolve,invoke,builtin,g1,g2,Builtin.len_,goInt,run_underlying hu,MapKept.run_getObj_map e2,hlen,Result.andThen]
      ·cases h
     ·exact old h
   ·cases h
  ·exact old h
 ·exact old h
theorem zcU (hun:UniOk un) (ht:TbOk P un tb) (hor:SoundO P un orc) (hin:SoundI P un inl) (h:zfj un tb orc inl o e bx K=some r):∃p,K p=some r∧Gives P un o e bx p:=by
 have old:zdW un tb orc inl o e bx K=some r→∃p,K p=some r∧Gives P un o e bx p:=zl4 hun ht hor hin
 unfold zfj at h
 split at h
 ·-- indexAddr
  rename_i t x i ho
  split at h
  ·rename_i b u j hx
   split at h
   ·rename_i l k n row hel hi hty
    obtain ⟨h1,h2⟩:=zag h
    simp only [yAd] at h1
    obtain ⟨q,h3,h4⟩:=zaK h2
    obtain ⟨rfl,hq⟩:=zlr h3
    refine ⟨_,h4,zaX fun E N D H a w hs=> ?_⟩
    have hv:=hs.ev hx
    simp only [Rep] at hv
    obtain ⟨fl,g,n,c,off,g1,g2,g3⟩:=hv
    have hra:=zj6 hun hs hel g1 ⟨_,_,_,rfl⟩
    rw [yA2] at hq
    obtain ⟨g',cap,cs,e1,_,_⟩:=zhE hra (yAe (show j<l.length by omega))
    cases e1
    have hiv:=hs.ev hi;simp only [Rep] at hiv
    obtain ⟨T,u',f1,f2,f3⟩:=(ht.ty t row hty).slice (yAa h1.1)
    have hu:=zhr h1.2
    rw [f1] at hu
    simp at hu;subst hu
    have ho:=g3 (by omega)
    subst ho
    refine ⟨.pointer (some ⟨g,j*U.size un u'+q*U.size un u',none⟩),?_,?_⟩
    ·simp only [execOp,‹o.op=_›,g2,hiv]
     simp [zc2 (un:=un) (k:=k) (off:=j*U.size un u') (b:=g) (c:=c - j) f2 f3 hq w]
    ·simp only [Rep];exact ⟨fl,g,_,_,g1,by simp [yAw]⟩
   ·cases h
  ·exact old h
 ·-- slice
  rename_i t x hi ho
  split at h
  ·rename_i hx
   split at h
   ·rename_i k row hhi hty
    obtain ⟨h1,h2⟩:=zag h
    refine ⟨_,h2,zaX fun E N D H a w hs=> ?_⟩
    have hv:=hs.ev hx;simp only [Rep] at hv
    have hiv:=hs.ev hhi;simp only [Rep] at hiv
    obtain ⟨T,u',f1,f2,f3⟩:=(ht.ty t row hty).slice (yAa h1)
    obtain ⟨jn,z,q1,q2,q3,q4,q5,q6⟩:=f3.info
    refine ⟨.slice none 0 0,?_,by simp only [Rep]⟩
    simp [execOp,ho,hv,hiv,Instr.sliceAt,run_underlying f2,Instr.slice,Instr.sliceBounds,Instr.sliceBound,asIntOf,Go.sizeOf,typeInfo,q1]
   ·cases h
  ·exact old h
 ·-- call
  rename_i c ho
  have hbuilt:∀{E N D H a w} {p:PV S} {row:TyRow S} (hargs:evs e c.args.toList=some [p]) (hrow:(c.argTypes[0]?).bind tb.ty.get=some row) (hs:St un E N D H e bx a w),∃v t,c.args.map a.eval= #[v]∧c.argTypes[0]? =some t∧tb.ty.get t=some row∧Rep un (ids H) D w p v:=by
   intro E N D H a w p row hargs hrow hs
   have g1:=hs.evs hargs
   cases hl:c.args.toList.map a.eval with
   | nil=>rw [hl] at g1;simp [RepL] at g1
   | cons v vs =>
     rw [hl] at g1
     simp only [RepL] at g1
     cases vs with
     | cons _ _=>simp [RepL] at g1
     | nil =>
       cases ht2:c.argTypes[0]? with
       | none=>rw [ht2] at hrow;cases hrow
       | some t =>
         rw [ht2] at hrow
         exact ⟨v,t,by cases hca:c.args;rw [hca] at hl;simpa using congrArg List.toArray hl,rfl,hrow,g1.1⟩
  split at h
  ·rename_i hcal
   split at h
   ·rename_i b u j hev
    split at h
    ·rename_i l row hel hty
     obtain ⟨h1,h2⟩:=zag h
     refine ⟨_,h2,zaX fun E N D H a w hs=> ?_⟩
     obtain ⟨v,t,k1,k2,k3,k4⟩:=hbuilt hev hty hs
     simp only [Rep] at k4
     obtain ⟨fl,g,n,cc,off,g1,rfl,g3⟩:=k4
     obtain ⟨T,u',hu,hu2,_⟩:=(ht.ty t row k3).slice (yAa h1)
     have hra:=zj6 hun hs hel g1 ⟨_,_,_,rfl⟩
     have hn:n=l.length:=by
      rcases hra with ⟨e1,_⟩ | ⟨g',cap,e1,_⟩
      ·cases e1
      ·cases e1;rfl
     subst hn
     refine ⟨.int .i64 ((l.length - j:Nat):Int),?_,by simp only [Rep,len,yA2]⟩
     simp [execOp,ho,hcal,resolve,invoke,builtin,k1,k2,Builtin.len_,goInt,run_underlying hu2]
    ·cases h
   ·exact old h
  ·rename_i hcal
   split at h
   ·rename_i row hev hty
    obtain ⟨h1,h2⟩:=zag h
    refine ⟨_,h2,zaX fun E N D H a w hs=> ?_⟩
    obtain ⟨v,t,k1,k2,k3,k4⟩:=hbuilt hev hty hs
    simp only [Rep] at k4
    subst k4
    obtain ⟨T,u',_,hu,_⟩:=(ht.ty t row k3).slice (yAa h1)
    refine ⟨.int .i64 0,?_,by simp only [Rep]⟩
    simp [execOp,ho,hcal,resolve,invoke,builtin,k1,k2,Builtin.cap_,goInt,run_underlying hu]
   ·cases h
  ·exact old h
 ·exact old h
end
end Pe
end
section
/- Steps: what becomes of a state. -/
namespace Pe
open Go Go.RowKit
variable {S:Nat→Type}
def Holds (un:Uni S) (E:Wl.Ctx) (D0:Dat) (N:Wl.Fr) (e:Env S) (bx:Bxs S) (a:Act) (w:World):Prop :=
 ∃D H,St un E N D H e bx a w∧(∀k o,D k o→D0 k o∨E.may k)∧Ge D0 E.w D w
section
variable {P:Program} {un:Uni S} {tb:Tb S} {orc:Orc S} {inl:Inl S} {E:Wl.Ctx} {D0:Dat} {N:Wl.Fr} {D D':Dat} {H:List Wl.Res} {e:Env S} {bx:Bxs S} {a:Act} {w w':World} {o:Oper} {R:Type} {r:R}
theorem Ge.below (h:In E D H w) (hb:Below w.heap.size w w'):Ge D w (zk5 D w w') w' :=
 ⟨fun _ _ hk=> .inl hk,fun k o hk=>World.cell?_of_block (hb.block k (h.lt k o hk))⟩
theorem In.below (h:In E D H w) (hb:Below w.heap.size w w'):In E (zk5 D w w') H w':=by
 refine ⟨h.out.trans (Wl.Grow.of_below hb),fun k o hk=> ?_,fun r hr=>Wl.Res.holds_of (h.res r hr) fun g hg=>hb.block g (Wl.Res.holds_lt (h.res r hr) hg).2,fun r hr g hg o hf hD=> ?_,h.disj,h.lent⟩
 ·rcases hk with hk | hk
  ·exact yAy (h.lt k o hk) hb.size
  ·exact hk.2
 ·rcases hD with hD | hD
  ·exact h.apart r hr g hg o hf hD
  ·have:=(Wl.Res.holds_lt (h.res r hr) hg).2;omega
theorem BoxRep.mono {nu nu':Nu} {w w':World} (hg:Ge D w D' w') (hgr:∀g,g<E.w.heap.size→g∉E.lent→w'.heap[g]? =w.heap[g]?) (hn:∀(i:Nat) x,nu[i]? =some x→nu'[i]? =some x):∀{ro:Bool} {b:Box S} {r:Wl.Res},BoxRep un nu D w E ro b r→BoxRep un nu' D' w' E ro b r:=by
 intro ro b
 induction b generalizing ro with
 | var T cs =>
   intro r h
   cases r<;>cases ro<;>simp only [BoxRep] at h ⊢
   ·exact ⟨h.1,h.2.ge hg hn⟩
   ·exact h.ge hg hn
   ·obtain ⟨vs,h1,h5⟩:=h
    exact ⟨vs,h1.of hgr,h5.ge hg hn⟩
 | own u T l =>
   intro r h
   cases r<;>cases ro<;>simp only [BoxRep] at h ⊢
   ·obtain ⟨h1,h2,h3,h4,h5⟩:=h
    exact ⟨h1,h2,h3,fun g hg' o ho=>hg.dom _ _ (h4 g hg' o ho),fun i x hi=>(h5 i x hi).mono hg⟩
   ·exact ⟨h.1,h.2.ge hg hn⟩
 | wr u T l =>
   intro r h
   cases r<;>cases ro<;>simp only [BoxRep] at h ⊢
   obtain ⟨h1,h2,h3,h5⟩:=h
   exact ⟨h1,h2,h3,fun i x hi=>(h5 i x hi).mono hg⟩
 | lk b ih=>intro r h;simp only [BoxRep] at h ⊢;exact ih h
 | ro b ih=>intro r h;simp only [BoxRep] at h ⊢;exact ih h
 | gone=>intro r h;cases r<;>cases ro<;>simp only [BoxRep]
theorem BxRep.mono {nu nu':Nu} {w w':World} (hg:Ge D w D' w') (hgr:∀g,g<E.w.heap.size→g∉E.lent→w'.heap[g]? =w.heap[g]?) (hn:∀(i:Nat) x,nu[i]? =some x→nu'[i]? =some x):∀{bx:Bxs S} {H:List Wl.Res},BxRep un nu D w E bx H→BxRep un nu' D' w' E bx H
 | [],[],_=>by simp only [BxRep]
 | b::bs,r::rs,h=>by simp only [BxRep] at h ⊢;exact ⟨h.1.mono hg hgr hn,BxRep.mono hg hgr hn h.2⟩
 | [],_::_,h=>by simp [BxRep] at h
 | _::_,[],h=>by simp [BxRep] at h
theorem zaA (h:Wl.Grow E.lent E.w w) (h':Wl.Grow E.lent E.w w'):∀g,g<E.w.heap.size→g∉E.lent→w'.heap[g]? =w.heap[g]? :=
 fun g hg hn=>(h'.block g hg hn).trans (h.block g hg hn).symm
theorem zsw {a:Act} {N:Wl.Fr} (hs:a.tmps.size=N.n) {dst:Option Nat} (hd:∀d,dst=some d→d<N.n) (v:Value) {e:Env S} {p:PV S} {nu:Nu} (hp:Rep un nu D w p v)
  (h:∀i q,look e i=some q→Rep un nu D w q (a.tmps.getD i undef)):∀i q,look (push dst p e) i=some q→Rep un nu D w q ((a.put dst v).tmps.getD i undef):=by
 intro i q hi
 cases dst with
 | none=>exact h i q hi
 | some d =>
   have hdn:=hd d rfl
   simp only [push,look] at hi
   cases hb:Nat.beq d i with
   | true =>
     rw [hb] at hi
     have:d=i:=yAa hb
     subst this
     simp at hi;subst hi
     have:(a.put (some d) v).tmps.getD d undef=v:=by simp [Act.put,Array.getD,hs,hdn]
     rw [this];exact hp
   | false =>
     rw [hb] at hi
     have hne:d≠i:=Nat.ne_of_beq_eq_false hb
     have:(a.put (some d) v).tmps.getD i undef=a.tmps.getD i undef:=by simp [Act.put,hne]
     rw [this];exact h i q hi
theorem zm0 (a:Act) (d:Option Nat) (v:Value):(a.put d v).tmps.size=a.tmps.size:=by cases d<;>simp [Act.put]
theorem zoi (a:Act) (d:Option Nat) (v:Value):(a.put d v).defers=a.defers:=by cases d<;>rfl
theorem St.step {H':List Wl.Res} {bx':Bxs S} {e':Env S} (h:St un E N D H e bx a w) (hin:In E D' H' w') (hbx:BxRep un (ids H') D' w' E bx' H') (he:∀i q,look e' i=some q→Rep un (ids H') D' w' q (a.tmps.getD i undef))
  {dst:Option Nat} (hd:∀d,dst=some d→d<N.n) {p:PV S} {v:Value} (hp:Rep un (ids H') D' w' p v):St un E N D' H' (push dst p e') bx' (a.put dst v) w' :=
 ⟨hin,by rw [zm0];exact h.size,by rw [zoi];exact h.defers,hbx,zsw h.size hd v hp he⟩
theorem zbx {Q:Exit→Act→World→Prop} {K:Act→World→Prop} {p:PV S} (hg:Gives P un o e bx p) (hd:∀d,o.dst=some d→d<N.n) (h:Holds un E D0 N e bx a w)
  (hk:∀a' w',Holds un E D0 N (push o.dst p e) bx a' w'→K a' w'):o.wp P a w K Q:=by
 obtain ⟨D,H,hs,hD,hG⟩:=h
 unfold Oper.wp
 rcases hg E N D H a w hs with ⟨v,h1,h2⟩ | ⟨f,vs,h1,h2⟩
 ·rw [h1]
  exact hk _ _ ⟨D,H,hs.step hs.inn hs.boxes hs.slots hd h2,hD,hG⟩
 ·rw [h1]
  refine h2.mono fun x w1 ⟨v,hx,hb,hr⟩=> ?_
  subst hx
  have hin:=hs.inn.below hb
  have hge:=Ge.below hs.inn hb
  have hkept:=zaA hs.inn.out hin.out
  refine hk _ _ ⟨_,H,hs.step hin (hs.boxes.mono hge hkept fun _ _ h=>h) (fun i q hi=>(hs.slots i q hi).ge hge fun _ _ h=>h) hd (hr.ge (Ge.refl _ _) fun i x h=>by simp at h),fun k o hk=> ?_,hG.trans hge⟩
  rcases hk with hk | hk
  ·exact hD k o hk
  ·exact .inr (.inl (yAk hs.inn.out.size hk.1))
theorem In.push {E:Wl.Ctx} (h:In E D H w) {r:Wl.Res} (hb:Below w.heap.size w w') (hh:Wl.Res.holds E w' r) (hr:∀g,r.block=some g→w.heap.size≤g)
  (hD:∀k o,D' k o→D k o∨(r.block=some k∧¬zoA r o)) (hlt:∀k o,D' k o→k<w'.heap.size) (hap:∀g,r.block=some g→∀o,zoA r o→¬D' g o):In E D' (H++[r]) w':=by
 refine ⟨h.out.trans (Wl.Grow.of_below hb),hlt,?_,?_,?_,fun i v hi=>(h.lent i v hi).imp fun s h3=>⟨by rw [yAo (yAb.1 h3.1).1];exact h3.1,h3.2⟩⟩
 ·intro s hs
  rcases yAv.1 hs with hs | hs
  ·exact Wl.Res.holds_of (h.res s hs) fun g hg=>hb.block g (Wl.Res.holds_lt (h.res s hs) hg).2
  ·simp at hs;subst hs;exact hh
 ·intro s hs g hg o hf hd
  rcases yAv.1 hs with hs | hs
  ·have hlt2:=(Wl.Res.holds_lt (h.res s hs) hg).2
   rcases hD g o hd with h1 | h1
   ·exact h.apart s hs g hg o hf h1
   ·have:=hr g h1.1;omega
  ·simp at hs;subst hs;exact hap g hg o hf hd
 ·rw [yAX]
  refine ⟨h.disj,yAT _ _,fun s hs t ht g hg hg'=> ?_⟩
  simp at ht;subst ht
  have:=(Wl.Res.holds_lt (h.res s hs) hg).2
  have:=hr g hg'
  omega
theorem In.turn (h:In E D H w) {i:Nat} {r r':Wl.Res} (hi:H[i]? =some r) (hg:w.grownBy w' r.block) (hh:Wl.Res.holds E w' r') (hbl:∀g,r'.block=some g→r.block=some g∨w.heap.size≤g)
  (hD:∀k o,D' k o→D k o∨(r'.block=some k∧¬zoA r' o)) (hlt:∀k o,D' k o→k<w'.heap.size) (hap:∀g,r'.block=some g→∀o,zoA r' o→¬D' g o) (hbox:zaM r=true→zaM r'=true∧zap r'=zap r∧(zeg r'=none∨(r'.block=r.block∧zeg r'=zeg r))):In E D' (H.set i r') w':=by
 have hmem:r∈H:=yAc hi
 have hil:i<H.length:=(yAb.1 hi).1
 have hget:H[i]=r:=(yAb.1 hi).2
 have hr:=h.res r hmem
 have keepBlock:∀k,k<w.heap.size→r.block≠some k→w'.heap[k]? =w.heap[k]? :=fun k hk hne=>hg.block k hk (fun e=>hne e.symm)
 have other:∀s j,H[j]? =some s→j≠i→∀g,s.block=some g→r.block≠some g:=by
  intro s j hj hne g hgs hgr
  have hjl:j<H.length:=(yAb.1 hj).1
  have hsj:H[j]=s:=(yAb.1 hj).2
  rcases yBk i j with hlt | hge
  ·have:=(yAH.1 h.disj) i j hil hjl hlt
   rw [hget,hsj] at this
   exact this g hgr hgs
  ·have:=(yAH.1 h.disj) j i hjl hil (by omega)
   rw [hget,hsj] at this
   exact this g hgs hgr
 refine ⟨?_,hlt,?_,?_,?_,fun j g hj=> ?_⟩
 rotate_left 4
 ·obtain ⟨s,h2,h3,h4,h5⟩:=h.lent j g hj
  by_cases hij:i=j
  ·subst hij
   rw [hi] at h2;cases h2
   refine ⟨r',yAV hil,(hbox h3).1,(hbox h3).2.1.trans h4,?_⟩
   rcases (hbox h3).2.2 with k | ⟨k1,k2⟩
   ·intro _ _ _ _ s s' _ h;rw [k] at h;cases h
   ·intro g hg ob ho s s' e1 e2
    exact h5 g (k1▸hg) ob ho s s' e1 (k2▸e2)
  ·exact ⟨s,by rw [yAS hij];exact h2,h3,h4,h5⟩
 ·refine ⟨hg.os.trans h.out.os,hg.tape.trans h.out.tape,hg.output.trans h.out.output,yAk h.out.size hg.size,fun k hk hn=> ?_⟩
  refine (keepBlock k (yAy hk h.out.size) fun e=> ?_).trans (h.out.block k hk hn)
  rcases (Wl.Res.holds_lt hr e).1 with h1 | h1
  ·omega
  ·exact hn h1
 ·intro s hs
  rcases yAA hs with ⟨j,hj⟩
  by_cases hij:i=j
  ·subst hij
   rw [yAV hil] at hj
   simp at hj;subst hj;exact hh
  ·rw [yAS hij] at hj
   have hsm:s∈H:=yAc hj
   exact Wl.Res.holds_of (h.res s hsm) fun g hgs=>keepBlock g (Wl.Res.holds_lt (h.res s hsm) hgs).2 (other s j hj (fun e=>hij e.symm) g hgs)
 ·intro s hs g hgs o hf hd
  rcases yAA hs with ⟨j,hj⟩
  by_cases hij:i=j
  ·subst hij
   rw [yAV hil] at hj
   simp at hj;subst hj
   exact hap g hgs o hf hd
  ·rw [yAS hij] at hj
   have hsm:s∈H:=yAc hj
   have hlt2:=(Wl.Res.holds_lt (h.res s hsm) hgs).2
   rcases hD g o hd with h1 | h1
   ·exact h.apart s hsm g hgs o hf h1
   ·rcases hbl g h1.1 with h2 | h2
    ·exact other s j hj (fun e=>hij e.symm) g hgs h2
    ·omega
 ·rw [yAH]
  intro x y hx hy hxy
  have hx':x<H.length:=by simpa using hx
  have hy':y<H.length:=by simpa using hy
  have old:=(yAH.1 h.disj) x y hx' hy' hxy
  rw [List.getElem_set,List.getElem_set]
  by_cases h1:i=x
  ·subst h1
   rw [if_pos rfl,if_neg (by omega)]
   intro g hgs e
   rcases hbl g hgs with e' | e'
   ·rw [hget] at old;exact old g e' e
   ·exact absurd (Wl.Res.holds_lt (h.res H[y] (yAl hy')) e).2 (by omega)
  ·rw [if_neg h1]
   by_cases h2:i=y
   ·subst h2
    rw [if_pos rfl]
    intro g hgs e
    rcases hbl g e with e' | e'
    ·rw [hget] at old;exact old g hgs e'
    ·exact absurd (Wl.Res.holds_lt (h.res H[x] (yAl hx')) hgs).2 (by omega)
   ·rw [if_neg h2];exact old
theorem BxRep.push {nu:Nu} {b:Box S} {r:Wl.Res}:∀{bx:Bxs S} {H:List Wl.Res},BxRep un nu D w E bx H→BoxRep un nu D w E false b r→BxRep un nu D w E (bx++[b]) (H++[r])
 | [],[],_,h=>by simp only [yBe,BxRep];exact ⟨h,trivial⟩
 | c::bs,s::rs,hh,h=>by simp only [BxRep,yBb] at hh ⊢;exact ⟨hh.1,hh.2.push h⟩
 | [],_::_,hh,_=>by simp [BxRep] at hh
 | _::_,[],hh,_=>by simp [BxRep] at hh
theorem BxRep.set {nu:Nu} {b:Box S} {r:Wl.Res}:∀{bx:Bxs S} {H:List Wl.Res} {i:Nat},BxRep un nu D w E bx H→BoxRep un nu D w E false b r→BxRep un nu D w E (zb1 bx i b) (H.set i r)
 | [],[],_,_,_=>by simp only [zb1,List.set_nil,BxRep]
 | c::bs,s::rs,0,hh,h=>by simp only [zb1,List.set_cons_zero,BxRep] at hh ⊢;exact ⟨h,hh.2⟩
 | c::bs,s::rs,i+1,hh,h=>by simp only [zb1,List.set_cons_succ,BxRep] at hh ⊢;exact ⟨hh.1,hh.2.set h⟩
 | [],_::_,_,hh,_=>by simp [BxRep] at hh
 | _::_,[],_,hh,_=>by simp [BxRep] at hh
theorem znu (H:List Wl.Res) (r:Wl.Res):ids (H++[r])=ids H++[zap r]:=by simp [ids]
theorem zcD (H:List Wl.Res) (r:Wl.Res):∀(i:Nat) x,(ids H)[i]? =some x→(ids (H++[r]))[i]? =some x:=by
 intro i x h
 rw [znu,yAo (yAb.1 h).1,h]
theorem zgz (H:List Wl.Res) (r:Wl.Res):(ids (H++[r]))[H.length]? =some (zap r):=by
 rw [znu,yAI (by simp [ids])];simp [ids]
theorem zaR {H:List Wl.Res} {i:Nat} {r r':Wl.Res} (hi:H[i]? =some r) (h:zap r'=zap r):ids (H.set i r')=ids H:=by
 simp only [ids,List.map_set]
 rw [h]
 apply yAP
 intro j
 by_cases hij:i=j
 ·subst hij
  have:i<H.length:=(yAb.1 hi).1
  rw [yAV (by simpa using this)]
  simp [hi]
 ·rw [yAS hij]
theorem St.newBox (h:St un E N D H e bx a w) (T:TypeId) {cs:List (PV S)} {vs:List Value} (hl:RepL un (ids H) D w cs vs) {dst:Option Nat} (hd:∀d,dst=some d→d<N.n) :
  ∃H',St un E N D H' (push dst (.ptr bx.length 0) e) (bx++[.var T cs]) (a.put dst (.pointer (some ⟨w.heap.size,0,none⟩))) (w.alloc (.cells vs.toArray T)):=by
 have hb:Below w.heap.size w (w.alloc (.cells vs.toArray T)):=(Below.refl _ _).alloc (yAi _) _
 have hin:In E D (H++[.box w.heap.size T vs]) (w.alloc (.cells vs.toArray T)):=by
  refine h.inn.push hb ⟨.inl h.inn.out.size,heap_alloc_new w _⟩ (fun g hg=>by simp [Wl.Res.block] at hg;omega) (fun k o hk=> .inl hk) (fun k o hk=>yAy (h.inn.lt k o hk) hb.size) (fun g hg o _ hk=> ?_)
  simp [Wl.Res.block] at hg
  have:=h.inn.lt g o hk;omega
 have hge:Ge D w D (w.alloc (.cells vs.toArray T)):=⟨fun _ _ hk=>hk,fun k o hk=>World.cell?_of_block (hb.block k (h.inn.lt k o hk))⟩
 have hlen:=h.boxes.length
 refine ⟨_,h.step hin ?_ (fun i q hi=>(h.slots i q hi).ge hge (zcD H _)) hd ?_⟩
 ·refine (h.boxes.mono hge (zaA h.inn.out hin.out) (zcD H _)).push ?_
  simp only [BoxRep]
  exact ⟨trivial,hl.ge hge (zcD H _)⟩
 ·simp only [Rep]
  exact ⟨w.heap.size,by rw [hlen,zgz];rfl,rfl⟩
end
end Pe
end
section
/- Operations that make or write memory. -/
namespace Pe
open Go Go.RowKit
variable {S:Nat→Type}
def Pres (W:List Nat) (e e':Env S):Prop:=∀i p,i∉W→look e i=some p→p.rowless=true→look e' i=some p
theorem Pres.refl (W:List Nat) (e:Env S):Pres W e e:=fun _ _ _ h _=>h
theorem Pres.trans {W W':List Nat} {e e' e'':Env S} (h:Pres W e e') (k:Pres W' e' e''):Pres (W++W') e e'' :=
 fun i p hi hp hr=>k i p (fun h'=>hi (by simp [h'])) (h i p (fun h'=>hi (by simp [h'])) hp hr) hr
theorem Pres.mono {W W':List Nat} {e e':Env S} (h:Pres W e e') (hw:∀i∈W,i∈W'):Pres W' e e':=fun i p hi hp hr=>h i p (fun h'=>hi (hw i h')) hp hr
theorem Pres.push (_:List Nat) (e:Env S) (d:Option Nat) (v:PV S):Pres d.toList e (push d v e):=by
 intro i p hi hp _
 cases d with
 | none=>exact hp
 | some k =>
   simp only [Pe.push,look]
   have:Nat.beq k i=false:=by
    cases hb:Nat.beq k i with
    | true=>have:=yAa hb;subst this;simp at hi
    | false=>rfl
   rw [this];exact hp
def zns:PV S→Bool
 | .junk=>true
 | _=>false
def zqr (cs cs':List (PV S)):Prop:=cs.length=cs'.length∧∀(j:Nat) p,cs[j]? =some p→p.rowless=true→zns p=false→cs'[j]? =some p
def CPres:Box S→Box S→Prop
 | .var T cs,.var T' cs'=>T'=T∧zqr cs cs'
 | .lk b,.lk b'=>CPres b b'
 | .ro b,.ro b'=>CPres b b'
 | .own u T l,.own u' T' l'=>Box.own u' T' l'=Box.own u T l
 | .wr u T l,.wr u' T' l'=>Box.wr u' T' l'=Box.wr u T l
 | .gone,.gone=>True
 | _,_=>False
theorem CPres.refl:∀(b:Box S),CPres b b
 | .var _ _=>⟨rfl,rfl,fun _ _ h _ _=>h⟩
 | .lk b=>CPres.refl b
 | .ro b=>CPres.refl b
 | .own _ _ _=>rfl
 | .wr _ _ _=>rfl
 | .gone=>trivial
theorem CPres.trans {a b c:Box S} (h:CPres a b) (k:CPres b c):CPres a c:=by
 induction a generalizing b c with
 | var T cs =>
   cases b<;>simp only [CPres] at h
   cases c<;>simp only [CPres] at k ⊢
   exact ⟨k.1.trans h.1,h.2.1.trans k.2.1,fun j p hp hr hj=>k.2.2 j p (h.2.2 j p hp hr hj) hr hj⟩
 | lk a ih =>
   cases b<;>simp only [CPres] at h
   cases c<;>simp only [CPres] at k ⊢
   exact ih h k
 | ro a ih =>
   cases b<;>simp only [CPres] at h
   cases c<;>simp only [CPres] at k ⊢
   exact ih h k
 | own u T l =>
   cases b<;>simp only [CPres] at h
   cases c<;>simp only [CPres] at k ⊢
   rw [k,h]
 | wr u T l =>
   cases b<;>simp only [CPres] at h
   cases c<;>simp only [CPres] at k ⊢
   rw [k,h]
 | gone =>
   cases b<;>simp only [CPres] at h
   cases c<;>simp only [CPres] at k ⊢
def fixed:Box S→Bool
 | .lk _=>true
 | .ro _=>true
 | .gone=>true
 | _=>false
structure PresB (bx bx':Bxs S):Prop where
 len:bx.length≤bx'.length
 box:∀i b,zar bx i=some b→fixed b=true→∃b',zar bx' i=some b'∧CPres b b'
 var:∀i T cs,zar bx i=some (.var T cs)→∃cs',zar bx' i=some (.var T cs')∧cs'.length=cs.length
theorem CPres.fixed {b b':Box S} (h:CPres b b') (hf:fixed b=true):Pe.fixed b'=true:=by
 cases b<;>cases b'<;>simp_all [CPres,Pe.fixed]
theorem PresB.refl (bx:Bxs S):PresB bx bx:=⟨yAi _,fun _ b h _=>⟨b,h,CPres.refl b⟩,fun _ _ cs h=>⟨cs,h,rfl⟩⟩
theorem PresB.trans {a b c:Bxs S} (h:PresB a b) (k:PresB b c):PresB a c :=
 ⟨yAk h.len k.len,fun i x hx hf=>by
  obtain ⟨y,hy,hxy⟩:=h.box i x hx hf
  obtain ⟨z,hz,hyz⟩:=k.box i y hy (hxy.fixed hf)
  exact ⟨z,hz,hxy.trans hyz⟩,fun i T cs hi=>by
  obtain ⟨cs',h',hl⟩:=h.var i T cs hi
  obtain ⟨cs'',h'',hl'⟩:=k.var i T cs' h'
  exact ⟨cs'',h'',hl'.trans hl⟩⟩
theorem zgB:∀{bx:Bxs S} {i:Nat} {b:Box S},zar bx i=some b→i<bx.length
 | [],_,_,h=>by simp [zar] at h
 | _::_,0,_,_=>by simp
 | _::r,n+1,_,h=>by simp only [zar] at h;have:=zgB h;simp;omega
theorem zcm {bs:Bxs S}:∀{bx:Bxs S} {i:Nat} {b:Box S},zar bx i=some b→zar (bx++bs) i=some b
 | [],_,_,h=>by simp [zar] at h
 | _::_,0,_,h=>h
 | _::r,n+1,_,h=>by simp only [zar,yBb] at h ⊢;exact zcm h
theorem PresB.append (bx bs:Bxs S):PresB bx (bx++bs):=⟨by simp,fun i b h _=>⟨b,zcm h,CPres.refl b⟩,fun i T cs h=>⟨cs,zcm h,rfl⟩⟩
theorem zbK:∀(bx:Bxs S) (i:Nat) (b:Box S),(zb1 bx i b).length=bx.length
 | [],_,_=>rfl
 | _::_,0,_=>rfl
 | _::r,n+1,b=>by simp [zb1,zbK r n b]
theorem zaE:∀{bx:Bxs S} {i j:Nat} {b:Box S},i≠j→zar (zb1 bx j b) i=zar bx i
 | [],_,_,_,_=>rfl
 | _::_,0,0,_,h=>absurd rfl h
 | _::_,0,_+1,_,_=>rfl
 | _::_,_+1,0,_,_=>rfl
 | _::r,i+1,j+1,_,h=>by simp only [zb1,zar];exact zaE (by omega)
theorem zeR:∀{bx:Bxs S} {j:Nat} {b b':Box S},zar bx j=some b→zar (zb1 bx j b') j=some b'
 | [],_,_,_,h=>by simp [zar] at h
 | _::_,0,_,_,_=>rfl
 | _::r,n+1,_,_,h=>by simp only [zar,zb1] at h ⊢;exact zeR h
theorem PresB.set {bx:Bxs S} {j:Nat} {b b':Box S} (hj:zar bx j=some b) (hf:Pe.fixed b=false) (hv:∀T cs,b= .var T cs→∃cs',b'= .var T cs'∧cs'.length=cs.length):PresB bx (zb1 bx j b') :=
 ⟨by rw [zbK];exact yAi _,fun i x hx hfx=>by
  by_cases hij:i=j
  ·subst hij;rw [hj] at hx;cases hx;rw [hf] at hfx;cases hfx
  ·exact ⟨x,by rw [zaE hij];exact hx,CPres.refl x⟩,fun i T cs hi=>by
  by_cases hij:i=j
  ·subst hij;rw [hj] at hi;cases hi
   obtain ⟨cs',rfl,hl⟩:=hv T cs rfl
   exact ⟨cs',zeR hj,hl⟩
  ·exact ⟨cs,by rw [zaE hij];exact hi,rfl⟩⟩
mutual
theorem zek (b:Nat):∀(p:PV S),p.rowless=true→p.says b=false
 | .row _,h=>by simp [PV.rowless] at h
 | .agg l,h=>by simp only [PV.rowless,PV.says] at h ⊢;exact zb5 b l h
 | .tup l,h=>by simp only [PV.rowless,PV.says] at h ⊢;exact zb5 b l h
 | .func _ l r,h=>by simp only [PV.rowless,PV.says,yAd,yBc] at h ⊢;exact ⟨zb5 b l h.1,zb5 b r h.2⟩
 | .iface _ v,h=>by simp only [PV.rowless,PV.says] at h ⊢;exact zek b v h
 | .int _ _,_=>rfl
 | .bool _,_=>rfl
 | .str _,_=>rfl
 | .sl _ _,_=>rfl
 | .nils,_=>rfl
 | .st _ _,_=>rfl
 | .elp _ _ _,_=>rfl
 | .ptr _ _,_=>rfl
 | .nilp,_=>rfl
 | .nilFunc,_=>rfl
 | .nilIface,_=>rfl
 | .ref _,_=>rfl
 | .elr _ _ _ _,h=>by simp [PV.rowless] at h
 | .rsl _ _ _,h=>by simp [PV.rowless] at h
 | .cont _ _,_=>rfl
 | .bref _ _,_=>rfl
 | .junk,_=>rfl
theorem zb5 (b:Nat):∀(l:List (PV S)),zcJ l=true→saysL b l=false
 | [],_=>rfl
 | p::r,h=>by simp only [zcJ,saysL,yAd,yBc] at h ⊢;exact ⟨zek b p h.1,zb5 b r h.2⟩
end
theorem zeu (b:Nat) (y p:PV S) (h:p.rowless=true):PV.kill b y p=p:=by
 have hs:=zek b p h
 cases p<;>first | (simp [PV.rowless] at h;done) | (simp only [PV.kill,hs,cond_false])
theorem zbm (b:Nat) (y:PV S):∀(e:Env S) (i:Nat),look (zd8 b y e) i=(look e i).map (PV.kill b y)
 | [],_=>rfl
 | (j,p)::r,i=>by
   simp only [zd8,look]
   cases Nat.beq j i with
   | true=>rfl
   | false=>exact zbm b y r i
theorem Pres.kill (b:Nat) (y:PV S) (e:Env S):Pres [] e (zd8 b y e):=by
 intro i p _ hp hr
 rw [zbm,hp];simp [zeu b y p hr]
theorem CPres.kill (b:Nat) (y:PV S):∀(x:Box S),CPres x (x.kill b y)
 | .var T cs=>⟨rfl,by simp,fun j p hp hr _=>by simp [hp,zeu b y p hr]⟩
 | .lk x=>CPres.kill b y x
 | .ro x=>CPres.kill b y x
 | .own _ _ _=>rfl
 | .wr _ _ _=>rfl
 | .gone=>trivial
theorem zbH (f:Box S→Box S):∀(bx:Bxs S) (i:Nat),zar (bx.map f) i=(zar bx i).map f
 | [],_=>rfl
 | _::_,0=>rfl
 | _::r,n+1=>by simp only [yAn,zar];exact zbH f r n
theorem PresB.kill (b:Nat) (y:PV S) (bx:Bxs S):PresB bx (bx.map (Box.kill b y)) :=
 ⟨by simp,fun i x hx _=>⟨x.kill b y,by rw [zbH,hx];rfl,CPres.kill b y x⟩,fun i T cs h=>⟨_,by rw [zbH,h];rfl,by simp⟩⟩
section
variable {P:Program} {un:Uni S} {tb:Tb S} {orc:Orc S} {inl:Inl S} {E:Wl.Ctx} {D0:Dat} {N:Wl.Fr} {D D':Dat} {H:List Wl.Res} {e:Env S} {bx:Bxs S} {a:Act} {w w':World} {o:Oper} {R:Type} {r:R}
theorem zdl {nu nu':Nu} {b:Nat} {vo:Value} {y:PV S} (hg:Ge D w D' w') (hb:nu[b]? =some (false,vo)) (hy:Rep un nu' D' w' y vo) (hn:∀(i:Nat) x,nu[i]? =some x→nu'[i]? =some x∨(i=b∧x.1=false)) {p:PV S} {v:Value} (h:Rep un nu D w p v):Rep un nu' D' w' (PV.kill b y p) v:=by
 have gen:p.says b=false→Rep un nu' D' w' p v:=fun hs=>Rep.mono hg b p v (fun i x hx=>(hn i x hx).imp id fun k=>⟨k.1,k.2,hs⟩) h
 cases p with
 | row j =>
   simp only [PV.kill]
   cases hjb:Nat.beq j b with
   | true =>
     have:j=b:=yAa hjb
     subst this
     simp only [Rep] at h
     rw [hb] at h
     have hv:vo=v:=by have:=h.1;simp at this;exact this
     subst hv
     exact hy
   | false=>exact gen (by simp [PV.says,hjb])
 | _ =>
   simp only [PV.kill]
   cases hs:PV.says b _ with
   | true=>simp [Rep]
   | false=>exact gen hs
theorem zfS {nu nu':Nu} {b:Nat} {vo:Value} {y:PV S} (hg:Ge D w D' w') (hb:nu[b]? =some (false,vo)) (hy:Rep un nu' D' w' y vo) (hn:∀(i:Nat) x,nu[i]? =some x→nu'[i]? =some x∨(i=b∧x.1=false)):∀{ps:List (PV S)} {vs:List Value},RepL un nu D w ps vs→RepL un nu' D' w' (ps.map (PV.kill b y)) vs
 | [],[],_=>by simp [RepL]
 | p::ps,v::vs,h=>by simp only [RepL,yAn] at h ⊢;exact ⟨zdl hg hb hy hn h.1,zfS hg hb hy hn h.2⟩
 | [],_::_,h=>by simp [RepL] at h
 | _::_,[],h=>by simp [RepL] at h
theorem zmn {nu nu':Nu} {b:Nat} {vo:Value} {y:PV S} (hg:Ge D w D' w') (hgr:∀g,g<E.w.heap.size→g∉E.lent→w'.heap[g]? =w.heap[g]?) (hb:nu[b]? =some (false,vo)) (hy:Rep un nu' D' w' y vo) (hn:∀(i:Nat) x,nu[i]? =some x→nu'[i]? =some x∨(i=b∧x.1=false)) :
  ∀{ro:Bool} {x:Box S} {r:Wl.Res},BoxRep un nu D w E ro x r→BoxRep un nu' D' w' E ro (x.kill b y) r:=by
 intro ro x
 induction x generalizing ro with
 | var T cs =>
   intro r h
   cases r<;>cases ro<;>simp only [BoxRep,Box.kill] at h ⊢
   ·exact ⟨h.1,zfS hg hb hy hn h.2⟩
   ·exact zfS hg hb hy hn h
   ·obtain ⟨vs,h1,h5⟩:=h
    exact ⟨vs,h1.of hgr,zfS hg hb hy hn h5⟩
 | own u T l =>
   intro r h
   cases r<;>cases ro<;>simp only [BoxRep,Box.kill] at h ⊢
   ·obtain ⟨h1,h2,h3,h4,h5⟩:=h
    exact ⟨h1,h2,h3,fun g hg' o ho=>hg.dom _ _ (h4 g hg' o ho),fun i x hi=>(h5 i x hi).mono hg⟩
   ·refine ⟨h.1,?_⟩
    have:=h.2
    simp only [Rep] at this ⊢
    exact this.mono hg
 | wr u T l =>
   intro r h
   cases r<;>cases ro<;>simp only [BoxRep,Box.kill] at h ⊢
   obtain ⟨h1,h2,h3,h5⟩:=h
   exact ⟨h1,h2,h3,fun i x hi=>(h5 i x hi).mono hg⟩
 | lk x ih=>intro r h;simp only [BoxRep,Box.kill] at h ⊢;exact ih h
 | ro x ih=>intro r h;simp only [BoxRep,Box.kill] at h ⊢;exact ih h
 | gone=>intro r h;cases r<;>cases ro<;>simp only [BoxRep,Box.kill]
theorem zbU {nu nu':Nu} {b:Nat} {vo:Value} {y:PV S} (hg:Ge D w D' w') (hgr:∀g,g<E.w.heap.size→g∉E.lent→w'.heap[g]? =w.heap[g]?) (hb:nu[b]? =some (false,vo)) (hy:Rep un nu' D' w' y vo) (hn:∀(i:Nat) x,nu[i]? =some x→nu'[i]? =some x∨(i=b∧x.1=false)) :
  ∀{bx:Bxs S} {H:List Wl.Res},BxRep un nu D w E bx H→BxRep un nu' D' w' E (bx.map (Box.kill b y)) H
 | [],[],_=>by simp [BxRep]
 | x::bs,r::rs,h=>by simp only [BxRep,yAn] at h ⊢;exact ⟨zmn hg hgr hb hy hn h.1,zbU hg hgr hb hy hn h.2⟩
 | [],_::_,h=>by simp [BxRep] at h
 | _::_,[],h=>by simp [BxRep] at h
theorem zkE (hf:znX un) {u:U} {b:Nat}:∀(l:List (El S u)) (off:Nat) (cs:Nat→List Value),(∀(i:Nat) x,l[i]? =some x→dat D w b (off+i*U.size un u) (cs i))→(∀(i:Nat) x,l[i]? =some x→DR un D w [u] (sg x) (cs i)) →
  ∃news:List Value,news.length=l.length*U.size un u∧(∀(j:Nat) v,news[j]? =some v→w.cell? ⟨b,off+j,none⟩=some v)∧(∀(i:Nat) x,l[i]? =some x→(news.drop (i*U.size un u)).take (U.size un u)=cs i)∧∀v∈news,v.oneCell'=true
 | [],_,_,_,_=>⟨[],by simp,by simp,by simp,by simp⟩
 | x::l,off,cs,h1,h2=>by
   have hlen:(cs 0).length=U.size un u:=by rw [(h2 0 x rfl).length hf];simp [zfF]
   obtain ⟨n',g1,g2,g3,g4⟩:=zkE hf l (off+U.size un u) (fun i=>cs (i+1))
    (fun i y hi=>by have:=h1 (i+1) y (by simpa using hi);rwa [yAw,yAN,yCd (i*_),←yBK] at this)
    (fun i y hi=>h2 (i+1) y (by simpa using hi))
   refine ⟨cs 0++n',by rw [yAG,hlen,g1,yAt,yAw,yAN,yCd],fun j v hj=> ?_,fun i y hi=> ?_,fun v hv=> ?_⟩
   ·rcases yBk j (cs 0).length with hlt | hge
    ·rw [yAo hlt] at hj
     have:=(h1 0 x rfl j v hj).2
     simpa using this
    ·rw [yAI hge] at hj
     have:=g2 _ v hj
     rwa [show off+U.size un u+(j - (cs 0).length)=off+j by omega] at this
   ·cases i with
    | zero=>simp [←hlen]
    | succ i =>
      have hi':l[i]? =some y:=by simpa using hi
      rw [yAw,yAN,show i*U.size un u+U.size un u=(cs 0).length+i*U.size un u by omega,yCm,yBt (yCo _ _),yA7,yBe]
      exact g3 i y hi'
   ·rcases yAv.1 hv with hv | hv
    ·exact (h2 0 x rfl).one v hv
    ·exact g4 v hv
theorem zim (hf:znX un) {nu:Nu} {u:U} {l:List (El S u)} {v:Value} (h:Rep un nu D w (.sl u l) v) :
  ∃(A:Option Addr) (c:Nat) (news:List Value),v= .slice A l.length c∧news.length=l.length*U.size un u∧(A=none→l=[])∧(∀ad,A=some ad→∀(j:Nat) x,news[j]? =some x→w.cell? (ad.add j)=some x)∧(∀(i:Nat) x,l[i]? =some x→DR un D w [u] (sg x) ((news.drop (i*U.size un u)).take (U.size un u)))∧∀x∈news,x.oneCell'=true:=by
 simp only [Rep] at h
 cases h with
 | sl0 A c h0 h =>
   have h0':l=[]:=h0
   subst h0'
   exact ⟨A,c,[],rfl,by simp,fun _=>rfl,by simp,by simp,by simp⟩
 | sl b off c cs hc h1 h2 h =>
   obtain ⟨news,g1,g2,g3,g4⟩:=zkE hf l off cs h1 h2
   refine ⟨_,c,news,rfl,g1,by simp,fun ad had j x hj=> ?_,fun i x hi=> ?_,g4⟩
   ·cases had;rw [Addr.add_mid];exact g2 j x hj
   ·rw [g3 i x hi];exact h2 i x hi
theorem zeT {T:TypeId} {u:U} {t ty:TypeId} (hu:P.underlying t=some (.slice T)) (hT:ElOk P un T u) {base n:Nat} {v:Value} {xs:List Value} (hown:w.ownsRow base T (U.size un u) v n xs)
  {A:Option Addr} {m c:Nat} {news:List Value} (hl:news.length=m*U.size un u) (hA:A=none→m=0) (hc:∀ad,A=some ad→∀(j:Nat) x,news[j]? =some x→w.cell? (ad.add j)=some x) (h1:∀x∈news,x.oneCell'=true) (hm:n+m≤lim) (hbase:base≤w.heap.size) :
  ∃v' w',(Builtin.append_ #[t,t] ty #[v,.slice A m c]).run P w= .ok v' w'∧w'.ownsRow base T (U.size un u) v' (n+m) (xs++news)∧w.grownBy w' v.ownBlock∧(v'.ownBlock=v.ownBlock∨v'.ownBlock=some w.heap.size) ∧
   (∀k o,k<w.heap.size→(v.ownBlock=some k→o<n*U.size un u)→w'.cell? ⟨k,o,none⟩=w.cell? ⟨k,o,none⟩):=by
 obtain ⟨inf,z,e1,e2,e3,e4,e5,e6⟩:=hT.info
 have hbytes:(n+m)*inf.bytes≤140737488355328:=by
  have:(n+m)*inf.bytes≤4294967296*32768:=yB1 (by unfold lim at hm;exact hm) e6
  omega
 have h63:n+m≤maxLen:=by unfold lim at hm;unfold maxLen;omega
 cases A with
 | none =>
   have:=hA rfl
   subst this
   have hn:news=[]:=List.eq_nil_of_length_eq_zero (by simpa using hl)
   subst hn
   have hs:Src P inf.size t (.slice none 0 c) 0 [] w:=Src.ofNil w hu c
   obtain ⟨B,l,k,rfl,hlk⟩:∃B l k,v= .slice B l k∧l≤k:=by
    rcases hown.2 with ⟨rfl,_⟩ | ⟨g,cap,cur,rfl,_,_,h,_⟩
    ·exact ⟨none,0,0,rfl,yAi _⟩
    ·exact ⟨_,_,_,rfl,h⟩
   refine ⟨_,w,run_append_nothing w t t ty T inf hu e1 B l k hlk _ hs,by simpa using hown,⟨rfl,rfl,rfl,yAi _,fun _ _ _=>rfl⟩,.inl rfl,fun _ _ _ _=>rfl⟩
 | some ad =>
   obtain ⟨v',w',hrun,r1,r2,_,r4⟩:=run_append_own_at (P:=P) w base t ty T inf z (U.size un u) inf.bytes hu e1 e2 e3 rfl e4 e5 v n xs hown ad m c news hl (hc ad rfl) h1 h63 hbytes hbase
   refine ⟨v',w',hrun,r1,r2,r4,fun k o hk ho=> ?_⟩
   by_cases hkb:v.ownBlock=some k
   ·have ho':=ho hkb
    rcases hown.2 with ⟨rfl,_⟩ | ⟨g,cap,cur,rfl,hbg,hg,hnc,hcm,hcs,htake⟩
    ·simp [Value.ownBlock] at hkb
    ·have hgk:g=k:=by simpa [Value.ownBlock] using hkb
     subst hgk
     have hcell:w.cell? ⟨g,o,none⟩=xs[o]? :=by
      rw [cell_of_row w g _ _ _ _ hg,←htake,yAq ho'];simp
     rw [hcell]
     have hox:o<xs.length:=by rw [hown.1];exact ho'
     by_cases hroom:n+m≤cap
     ·obtain ⟨w2,f1,f2,f3⟩:=run_append_fits (P:=P) w base t ty T inf (U.size un u) hu e1 e3 g n cap xs hown ad m c news hl (hc ad rfl) h1 hroom
      rw [f1] at hrun
      cases hrun
      rcases f2.2 with ⟨hne,_⟩ | ⟨g',cap',cur',hv',_,hg',_,_,_,htake'⟩
      ·simp at hne
      ·simp only [Value.slice.injEq,yAf,Addr.mk.injEq,and_true,true_and] at hv'
       obtain ⟨rfl,rfl⟩:=hv'
       have h2:o<(n+m)*U.size un u:=yAy ho' (yAm _ (by omega))
       have hc2:cur'[o]? =(xs++news)[o]? :=by rw [←htake',yAq h2];simp
       rw [cell_of_row _ g _ _ _ _ hg',hc2,yAo hox]
     ·have holds:∀j x,xs[j]? =some x→w.cell? ((⟨g,0,none⟩:Addr).add j)=some x:=hown.cells (g:=g) rfl
      have hr:=run_append_grow (P:=P) w t ty T inf z hu e1 e2 ⟨g,0,none⟩ n cap xs (by rw [hown.1,e3]) holds ad m c news (by rw [hl,e3]) (hc ad rfl) (by omega) (by unfold maxLen at h63;omega) (growslice_fits (by omega) hbytes)
      rw [hr] at hrun
      cases hrun
      rw [←hcell]
      exact World.cell?_of_block (Below.heap_alloc w.drew _ g hk)
   ·exact World.cell?_of_block (r2.block k hk fun h=>hkb h.symm)
end
end Pe
end
section
/- Any operation: a state goes over into a state. -/
namespace Pe
open Go Go.RowKit
variable {S:Nat→Type}
section
variable {P:Program} {un:Uni S} {tb:Tb S} {orc:Orc S} {inl:Inl S} {E:Wl.Ctx} {D0:Dat} {N:Wl.Fr} {D D':Dat} {H:List Wl.Res} {e:Env S} {bx:Bxs S} {a:Act} {w w':World} {o:Oper} {R:Type} {r:R}
theorem zeX {α:Type} (xs ys:List α) {k m:Nat} (h:k+m≤xs.length):((xs++ys).drop k).take m=(xs.drop k).take m:=by
 rw [List.drop_append_of_le_length (by omega),List.take_append_of_le_length (by simp;omega)]
theorem zc0 {α:Type} (xs ys:List α) (k m:Nat):((xs++ys).drop (xs.length+k)).take m=(ys.drop k).take m:=by
 rw [yCm,yBt (yCo _ _),yA7,yBe]
theorem zhD {u:U} {old new:List (El S u)} {xs news:List Value} (hx:xs.length=old.length*U.size un u)
  (h1:∀(i:Nat) x,old[i]? =some x→DR un D w [u] (sg x) ((xs.drop (i*U.size un u)).take (U.size un u))) (h2:∀(i:Nat) x,new[i]? =some x→DR un D w [u] (sg x) ((news.drop (i*U.size un u)).take (U.size un u))) :
  ∀(i:Nat) x,(old++new)[i]? =some x→DR un D w [u] (sg x) (((xs++news).drop (i*U.size un u)).take (U.size un u)):=by
 intro i x hi
 rcases yBk i old.length with hlt | hge
 ·rw [yAo hlt] at hi
  have:(i+1)*U.size un u≤old.length*U.size un u:=yAm _ hlt
  rw [yAw,yAN] at this
  rw [zeX _ _ (by omega)]
  exact h1 i x hi
 ·rw [yAI hge] at hi
  have he:i*U.size un u=xs.length+(i - old.length)*U.size un u:=by
   rw [hx,←yAw];congr 1;omega
  rw [he,zc0]
  exact h2 _ x hi
def zkX (D:Dat) (v:Value) (k:Nat):Dat:=fun b o=>D b o∨(v.ownBlock=some b∧o<k)
theorem zh1 {i:Nat} {r r':Wl.Res} (hi:H[i]? =some r) (h1:(zap r).1=false):∀(j:Nat) x,(ids H)[j]? =some x→(ids (H.set i r'))[j]? =some x∨(j=i∧x.1=false):=by
 intro j x hj
 by_cases hij:i=j
 ·subst hij
  right
  simp [ids,hi] at hj
  subst hj
  exact ⟨rfl,h1⟩
 ·left
  simp only [ids,List.map_set,yAS hij]
  exact hj
theorem zhg {b:Nat} {r:Wl.Res} (hin:In E D H w) (hb:H[b]? =some r) {v':Value} (r4:v'.ownBlock=r.block∨v'.ownBlock=some w.heap.size):∀g,v'.ownBlock=some g→E.may g:=by
 intro g hg
 rcases r4 with r4 | r4
 ·exact (Wl.Res.holds_lt (hin.res _ (yAc hb)) (r4.symm.trans hg)).1
 ·rw [r4] at hg;cases hg;exact .inl hin.out.size
theorem zm3 {T:TypeId} {u:U} {v v':Value} {n m:Nat} {xs news:List Value} {b:Nat} (hin:In E D H w) (hb:H[b]? =some (.own v T (U.size un u) n xs)) (r1:w'.ownsRow 0 T (U.size un u) v' (n+m) (xs++news)) (r2:w.grownBy w' v.ownBlock) (r4:v'.ownBlock=v.ownBlock∨v'.ownBlock=some w.heap.size)
  (r5:∀k o,k<w.heap.size→(v.ownBlock=some k→o<n*U.size un u)→w'.cell? ⟨k,o,none⟩=w.cell? ⟨k,o,none⟩) :
  In E (zkX D v' ((n+m)*U.size un u)) (H.set b (.own v' T (U.size un u) (n+m) (xs++news))) w'∧Ge D w (zkX D v' ((n+m)*U.size un u)) w':=by
 have hmem:=yAc hb
 have hle:n*U.size un u≤(n+m)*U.size un u:=yAm _ (by omega)
 refine ⟨hin.turn hb r2 ⟨r1,zhg hin hb r4⟩ (fun g hg=> ?_) (fun k o hk=> ?_) (fun k o hk=> ?_) (fun g hg o hf hd=> ?_) (fun he=>by cases he),⟨fun _ _ h=> .inl h,fun k o hk=>r5 k o (hin.lt k o hk) fun hkb=> ?_⟩⟩
 ·rcases r4 with r4 | r4
  ·exact .inl (r4.symm.trans hg)
  ·right
   have h2:v'.ownBlock=some g:=hg
   rw [r4] at h2;simp at h2;omega
 ·rcases hk with hk | hk
  ·exact .inl hk
  ·exact .inr ⟨hk.1,by simp only [zoA];omega⟩
 ·rcases hk with hk | hk
  ·exact yAy (hin.lt k o hk) r2.size
  ·exact (World.ownsRow.lt r1 k hk.1).2
 ·have hg':v'.ownBlock=some g:=hg
  simp only [zoA] at hf
  rcases hd with hd | hd
  ·rcases r4 with r4 | r4
   ·exact hin.apart _ hmem g (r4.symm.trans hg') o (by simp only [zoA];omega) hd
   ·rw [r4] at hg';simp at hg';have:=hin.lt g o hd;omega
  ·omega
 ·rcases yBk o (n*U.size un u) with h | h
  ·exact h
  ·exact absurd hk (hin.apart _ hmem k hkb o h)
theorem ze6 {T:TypeId} {size:Nat} {v v':Value} {n n':Nat} {xs xs':List Value} {b:Nat} (hin:In E D H w) (hb:H[b]? =some (.wr v T size n xs)) (r1:w'.ownsRow 0 T size v' n' xs') (r2:w.grownBy w' v.ownBlock) (r4:v'.ownBlock=v.ownBlock∨v'.ownBlock=some w.heap.size) :
  In E D (H.set b (.wr v' T size n' xs')) w'∧Ge D w D w':=by
 have hmem:=yAc hb
 refine ⟨hin.turn hb r2 ⟨r1,zhg hin hb r4⟩ (fun g hg=> ?_) (fun k o hk=> .inl hk) (fun k o hk=>yAy (hin.lt k o hk) r2.size) (fun g hg o hf hd=> ?_) (fun he=>by cases he),⟨fun _ _ h=>h,fun k o hk=>World.cell?_of_block (r2.block k (hin.lt k o hk) fun hkb=>hin.apart _ hmem k hkb.symm o trivial hk)⟩⟩
 ·rcases r4 with r4 | r4
  ·exact .inl (r4.symm.trans hg)
  ·right
   have h2:v'.ownBlock=some g:=hg
   rw [r4] at h2;simp at h2;omega
 ·have hg':v'.ownBlock=some g:=hg
  rcases r4 with r4 | r4
  ·exact hin.apart _ hmem g (r4.symm.trans hg') o trivial hd
  ·rw [r4] at hg';simp at hg';have:=hin.lt g o hd;omega
theorem zeq {v:Value} {base n size:Nat} {T:TypeId} {xs:List Value} (h:w.ownsRow base T size v n xs):v.oneCell'=true∧v.cells= #[v]:=by
 rcases h.2 with ⟨rfl,_⟩ | ⟨g,cap,cur,rfl,_⟩<;>exact ⟨rfl,rfl⟩
theorem In.ownNil (h:In E D H w) (T:TypeId) (size:Nat):In E D (H++[.own (.slice none 0 0) T size 0 []]) w :=
 h.push (Below.refl _ _) ⟨World.ownsRow_nil _ _ _ _,fun g hg=>by simp [Value.ownBlock] at hg⟩ (fun g hg=>by simp [Wl.Res.block,Value.ownBlock] at hg) (fun k o hk=> .inl hk) h.lt (fun g hg=>by simp [Wl.Res.block,Value.ownBlock] at hg)
theorem In.wrNil (h:In E D H w) (T:TypeId) (size:Nat):In E D (H++[.wr (.slice none 0 0) T size 0 []]) w :=
 h.push (Below.refl _ _) ⟨World.ownsRow_nil _ _ _ _,fun g hg=>by simp [Value.ownBlock] at hg⟩ (fun g hg=>by simp [Wl.Res.block,Value.ownBlock] at hg) (fun k o hk=> .inl hk) h.lt (fun g hg=>by simp [Wl.Res.block,Value.ownBlock] at hg)
theorem zhb {v:Value} {k:Nat} (h1:∀b o,D b o→D0 b o∨E.may b) (h2:∀g,v.ownBlock=some g→E.may g):∀b o,zkX D v k b o→D0 b o∨E.may b:=by
 intro b o h
 rcases h with h | h
 ·exact h1 b o h
 ·exact .inr (h2 b h.1)
theorem zoP (hun:UniOk un) {T:TypeId} {u:U} {t ty:TypeId} (hu:P.underlying t=some (.slice T)) (hT:ElOk P un T u) {b:Nat} {old new:List (El S u)} {v x:Value} (hs:St un E N D H e bx a w) (hg:zar bx b=some (.own u T old)) (hv:Rep un (ids H) D w (.row b) v)
  (hx:Rep un (ids H) D w (.sl u new) x) (hlim:old.length+new.length≤lim) (hD:∀k o,D k o→D0 k o∨E.may k) (hG:Ge D0 E.w D w) {dst:Option Nat} (hd:∀d,dst=some d→d<N.n) :
  ∃v' w',(Builtin.append_ #[t,t] ty #[v,x]).run P w= .ok v' w'∧Holds un E D0 N (push dst (.row b) (zd8 b (.sl u old) e)) (zb1 (bx.map (Box.kill b (.sl u old))) b (.own u T (old++new))) (a.put dst v') w':=by
 obtain ⟨r,hr1,hr2⟩:=hs.boxes.get hg
 have hh:=hs.inn.res _ (yAc hr1)
 cases r with
 | box=>simp [BoxRep] at hr2
 | ref=>simp [BoxRep] at hr2
 | wr=>simp [BoxRep] at hr2
 | fix=>simp [BoxRep] at hr2
 | own v0 T' size n xs =>
   have hor:=zmf hun.flat hh hr2
   simp only [BoxRep] at hr2
   obtain ⟨rfl,rfl,rfl,hDo,hel⟩:=hr2
   have hv0:v0=v:=by
    simp only [Rep,ids,yAh,hr1,yAg,zap,yAf,Prod.mk.injEq,true_and] at hv
    exact hv.1
   subst hv0
   obtain ⟨A,c,news,rfl,g1,g2,g3,g4,g5⟩:=zim hun.flat hx
   obtain ⟨v',w',hrun,r1,r2,r4,r5⟩:=zeT (P:=P) (ty:=ty) hu hT hh.1 g1 (fun h=>by rw [g2 h];rfl) g3 g5 hlim (yAD _)
   obtain ⟨hin,hge⟩:=zm3 (un:=un) hs.inn hr1 r1 r2 r4 r5
   have hkept:=zaA hs.inn.out hin.out
   have hn:=zh1 (H:=H) (r':= .own v' T' (U.size un u) (old.length+new.length) (xs++news)) hr1 rfl
   have hnb:(ids H)[b]? =some (false,v0):=by simp [ids,hr1,zap]
   have hy:Rep un (ids (H.set b (.own v' T' (U.size un u) (old.length+new.length) (xs++news)))) (zkX D v' ((old.length+new.length)*U.size un u)) w' (.sl u old) v0:=by
    simp only [Rep] at hor ⊢;exact hor.mono hge
   have hbl:b<H.length:=(yAb.1 hr1).1
   refine ⟨v',w',hrun,_,_,hs.step hin ?_ (fun i q hi=> ?_) hd ?_,zhb hD (zhg hs.inn hr1 r4),hG.trans hge⟩
   ·refine (zbU hge hkept hnb hy hn hs.boxes).set ?_
    simp only [BoxRep]
    refine ⟨trivial,trivial,by simp,fun g hg' o ho=> .inr ⟨hg',ho⟩,?_⟩
    exact zhD hh.1.1 (fun i y hi=>(hel i y hi).mono hge) (fun i y hi=>(g4 i y hi).mono hge)
   ·rw [zbm] at hi
    cases hl:look e i with
    | none=>rw [hl] at hi;cases hi
    | some p0 =>
      rw [hl] at hi
      simp only [yAg,yAf] at hi
      subst hi
      exact zdl hge hnb hy hn (hs.slots i p0 hl)
   ·simp only [Rep]
    refine ⟨?_,zeq r1⟩
    simp [ids,hbl,zap]
theorem zmA (hun:UniOk un) {T:TypeId} {u:U} {t ty:TypeId} (hu:P.underlying t=some (.slice T)) (hT:ElOk P un T u) {new:List (El S u)} {x:Value} (hs:St un E N D H e bx a w)
  (hx:Rep un (ids H) D w (.sl u new) x) (hlim:new.length≤lim) (hD:∀k o,D k o→D0 k o∨E.may k) (hG:Ge D0 E.w D w) {dst:Option Nat} (hd:∀d,dst=some d→d<N.n) :
  ∃v' w',(Builtin.append_ #[t,t] ty #[.slice none 0 0,x]).run P w= .ok v' w'∧Holds un E D0 N (push dst (.row bx.length) e) (bx++[.own u T new]) (a.put dst v') w':=by
 obtain ⟨A,c,news,rfl,g1,g2,g3,g4,g5⟩:=zim hun.flat hx
 obtain ⟨v',w',hrun,r1,r2,r4,r5⟩:=zeT (P:=P) (ty:=ty) hu hT (World.ownsRow_nil w 0 T (U.size un u)) g1 (fun h=>by rw [g2 h];rfl) g3 g5 (by omega) (yAD _)
 have hnil:=hs.inn.ownNil T (U.size un u)
 have hb:(H++[.own (.slice none 0 0) T (U.size un u) 0 []])[H.length]? =some (.own (.slice none 0 0) T (U.size un u) 0 []):=by simp
 obtain ⟨hin,hge⟩:=zm3 (un:=un) hnil hb r1 r2 r4 r5
 have hset:(H++[Wl.Res.own (.slice none 0 0) T (U.size un u) 0 []]).set H.length (.own v' T (U.size un u) (0+new.length) ([]++news))=H++[.own v' T (U.size un u) (0+new.length) ([]++news)]:=by
  rw [List.set_append];simp
 rw [hset] at hin
 have hkept:=zaA hs.inn.out hin.out
 refine ⟨v',w',hrun,_,_,hs.step hin ?_ (fun i q hi=>(hs.slots i q hi).ge hge (zcD H _)) hd ?_,zhb hD (zhg hnil hb r4),hG.trans hge⟩
 ·refine (hs.boxes.mono hge hkept (zcD H _)).push ?_
  simp only [BoxRep]
  exact ⟨trivial,trivial,by simp,fun g hg' o ho=> .inr ⟨hg',ho⟩,fun i y hi=>by simpa using (g4 i y hi).mono hge⟩
 ·simp only [Rep]
  refine ⟨?_,zeq r1⟩
  rw [hs.boxes.length,zgz];rfl
theorem zqj (hun:UniOk un) {T:TypeId} {u:U} {t ty:TypeId} (hu:P.underlying t=some (.slice T)) (hT:ElOk P un T u) {b:Nat} {old new:List (El S u)} {v x:Value} (hs:St un E N D H e bx a w) (hg:zar bx b=some (.wr u T old)) (hv:Rep un (ids H) D w (.row b) v)
  (hx:Rep un (ids H) D w (.sl u new) x) (hlim:old.length+new.length≤lim) (hD:∀k o,D k o→D0 k o∨E.may k) (hG:Ge D0 E.w D w) {dst:Option Nat} (hd:∀d,dst=some d→d<N.n) :
  ∃v' w',(Builtin.append_ #[t,t] ty #[v,x]).run P w= .ok v' w'∧Holds un E D0 N (push dst (.row b) (zd8 b .junk e)) (zb1 (bx.map (Box.kill b .junk)) b (.wr u T (old++new))) (a.put dst v') w':=by
 obtain ⟨r,hr1,hr2⟩:=hs.boxes.get hg
 have hh:=hs.inn.res _ (yAc hr1)
 cases r with
 | wr v0 T' size n xs =>
   simp only [BoxRep] at hr2
   obtain ⟨rfl,rfl,rfl,hel⟩:=hr2
   have hv0:v0=v:=by
    simp only [Rep,ids,yAh,hr1,yAg,zap,yAf,Prod.mk.injEq,true_and] at hv
    exact hv.1
   subst hv0
   obtain ⟨A,c,news,rfl,g1,g2,g3,g4,g5⟩:=zim hun.flat hx
   obtain ⟨v',w',hrun,r1,r2,r4,r5⟩:=zeT (P:=P) (ty:=ty) hu hT hh.1 g1 (fun h=>by rw [g2 h];rfl) g3 g5 hlim (yAD _)
   obtain ⟨hin,hge⟩:=ze6 hs.inn hr1 r1 r2 r4
   have hkept:=zaA hs.inn.out hin.out
   have hn:=zh1 (H:=H) (r':= .wr v' T' (U.size un u) (old.length+new.length) (xs++news)) hr1 rfl
   have hnb:(ids H)[b]? =some (false,v0):=by simp [ids,hr1,zap]
   have hy:Rep un (ids (H.set b (.wr v' T' (U.size un u) (old.length+new.length) (xs++news)))) D w' .junk v0:=by simp only [Rep]
   have hbl:b<H.length:=(yAb.1 hr1).1
   refine ⟨v',w',hrun,_,_,hs.step hin ?_ (fun i q hi=> ?_) hd ?_,hD,hG.trans hge⟩
   ·refine (zbU hge hkept hnb hy hn hs.boxes).set ?_
    simp only [BoxRep]
    refine ⟨trivial,trivial,by simp,?_⟩
    exact zhD hh.1.1 (fun i y hi=>(hel i y hi).mono hge) (fun i y hi=>(g4 i y hi).mono hge)
   ·rw [zbm] at hi
    cases hl:look e i with
    | none=>rw [hl] at hi;cases hi
    | some p0 =>
      rw [hl] at hi
      simp only [yAg,yAf] at hi
      subst hi
      exact zdl hge hnb hy hn (hs.slots i p0 hl)
   ·simp only [Rep]
    refine ⟨?_,zeq r1⟩
    simp [ids,hbl,zap]
 | _=>simp [BoxRep] at hr2
theorem ziu (hun:UniOk un) {T:TypeId} {u:U} {t ty:TypeId} (hu:P.underlying t=some (.slice T)) (hT:ElOk P un T u) {new:List (El S u)} {x:Value} (hs:St un E N D H e bx a w)
  (hx:Rep un (ids H) D w (.sl u new) x) (hlim:new.length≤lim) (hD:∀k o,D k o→D0 k o∨E.may k) (hG:Ge D0 E.w D w) {dst:Option Nat} (hd:∀d,dst=some d→d<N.n) :
  ∃v' w',(Builtin.append_ #[t,t] ty #[.slice none 0 0,x]).run P w= .ok v' w'∧Holds un E D0 N (push dst (.row bx.length) e) (bx++[.wr u T new]) (a.put dst v') w':=by
 obtain ⟨A,c,news,rfl,g1,g2,g3,g4,g5⟩:=zim hun.flat hx
 obtain ⟨v',w',hrun,r1,r2,r4,r5⟩:=zeT (P:=P) (ty:=ty) hu hT (World.ownsRow_nil w 0 T (U.size un u)) g1 (fun h=>by rw [g2 h];rfl) g3 g5 (by omega) (yAD _)
 have hnil:=hs.inn.wrNil T (U.size un u)
 have hb:(H++[.wr (.slice none 0 0) T (U.size un u) 0 []])[H.length]? =some (.wr (.slice none 0 0) T (U.size un u) 0 []):=by simp
 obtain ⟨hin,hge⟩:=ze6 hnil hb r1 r2 r4
 have hset:(H++[Wl.Res.wr (.slice none 0 0) T (U.size un u) 0 []]).set H.length (.wr v' T (U.size un u) (0+new.length) ([]++news))=H++[.wr v' T (U.size un u) (0+new.length) ([]++news)]:=by
  rw [List.set_append];simp
 rw [hset] at hin
 have hkept:=zaA hs.inn.out hin.out
 refine ⟨v',w',hrun,_,_,hs.step hin ?_ (fun i q hi=>(hs.slots i q hi).ge hge (zcD H _)) hd ?_,hD,hG.trans hge⟩
 ·refine (hs.boxes.mono hge hkept (zcD H _)).push ?_
  simp only [BoxRep]
  exact ⟨trivial,trivial,by simp,fun i y hi=>by simpa using (g4 i y hi).mono hge⟩
 ·simp only [Rep]
  refine ⟨?_,zeq r1⟩
  rw [hs.boxes.length,zgz];rfl
theorem zsZ {b:Nat} {u:U} {T:TypeId} {l:List (El S u)} (hs:St un E N D H e bx a w) (hg:zar bx b=some (.wr u T l)):∃D' H',St un E N D' H' e (zb1 bx b (.own u T l)) a w∧ids H'=ids H∧Ge D w D' w∧∀k o,D' k o→D k o∨E.may k:=by
 obtain ⟨r,hr1,hr2⟩:=hs.boxes.get hg
 have hh:=hs.inn.res _ (yAc hr1)
 cases r with
 | wr v T' size n xs =>
   simp only [BoxRep] at hr2
   obtain ⟨rfl,rfl,rfl,hel⟩:=hr2
   have hmem:=yAc hr1
   have hge:Ge D w (zkX D v (l.length*U.size un u)) w:=⟨fun _ _ h=> .inl h,fun _ _ _=>rfl⟩
   have hin:In E (zkX D v (l.length*U.size un u)) (H.set b (.own v T' (U.size un u) l.length xs)) w:=by
    refine hs.inn.turn hr1 ⟨rfl,rfl,rfl,yAi _,fun _ _ _=>rfl⟩ hh (fun g hg=> .inl hg) (fun k o hk=> ?_) (fun k o hk=> ?_) (fun g hg o hf hd=> ?_) (fun he=>by cases he)
    ·rcases hk with hk | hk
     ·exact .inl hk
     ·exact .inr ⟨hk.1,by simp only [zoA];omega⟩
    ·rcases hk with hk | hk
     ·exact hs.inn.lt k o hk
     ·exact (World.ownsRow.lt hh.1 k hk.1).2
    ·simp only [zoA] at hf
     rcases hd with hd | hd
     ·exact hs.inn.apart _ hmem g hg o trivial hd
     ·omega
   have hids:ids (H.set b (.own v T' (U.size un u) l.length xs))=ids H:=zaR hr1 rfl
   refine ⟨_,_,⟨hin,hs.size,hs.defers,?_,fun i q hi=> ?_⟩,hids,hge,zhb (D0:=D) (fun _ _ h=> .inl h) hh.2⟩
   ·rw [hids]
    refine (hs.boxes.mono hge (fun _ _ _=>rfl) fun _ _ h=>h).set ?_
    simp only [BoxRep]
    exact ⟨trivial,trivial,trivial,fun g hg o ho=> .inr ⟨hg,ho⟩,fun i x hi=>(hel i x hi).mono hge⟩
   ·rw [hids];exact (hs.slots i q hi).ge hge fun _ _ h=>h
 | _=>simp [BoxRep] at hr2
theorem St.freeze:∀(l:List Nat) {bx:Bxs S} {D:Dat} {H:List Wl.Res},St un E N D H e bx a w→∃D' H',St un E N D' H' e (zas l bx) a w∧ids H'=ids H∧Ge D w D' w∧∀k o,D' k o→D k o∨E.may k
 | [],_,D,H,h=>⟨D,H,h,rfl,Ge.refl _ _,fun _ _ h=> .inl h⟩
 | b::l,bx,D,H,h=>by
   simp only [zas]
   split
   ·rename_i u T x hg
    obtain ⟨D1,H1,h1,h2,h3,h4⟩:=zsZ h hg
    obtain ⟨D2,H2,k1,k2,k3,k4⟩:=St.freeze l h1
    exact ⟨D2,H2,k1,k2.trans h2,h3.trans k3,fun k o hk=>(k4 k o hk).elim (h4 k o) .inr⟩
   ·exact St.freeze l h
theorem Holds.freeze (l:List Nat) {bx:Bxs S} (h:Holds un E D0 N e bx a w):Holds un E D0 N e (zas l bx) a w:=by
 obtain ⟨D,H,hs,hD,hG⟩:=h
 obtain ⟨D',H',k1,_,k3,k4⟩:=hs.freeze l
 exact ⟨D',H',k1,fun k o hk=>(k4 k o hk).elim (hD k o) .inr,hG.trans k3⟩
theorem zgg:∀(vs cs:List Value) (off:Nat),off+vs.length≤cs.length→za1.spliceV cs off vs=cs.take off++vs++cs.drop (off+vs.length)
 | [],cs,off,_=>by simp [za1.spliceV]
 | v::vs,cs,off,h=>by
   simp only [yAt] at h
   rw [za1.spliceV,zgg vs (cs.set off v) (off+1) (by simp;omega)]
   have h1:(cs.set off v).take (off+1)=cs.take off++[v]:=by
    rw [List.take_set,yBQ (by omega)]
    have:(cs.take off).length=off:=by simp;omega
    rw [List.set_append,if_neg (by omega),this];simp
   have h2:(cs.set off v).drop (off+1+vs.length)=cs.drop (off+1+vs.length):=by
    rw [List.drop_set];rw [if_pos (by omega)]
   rw [h1,h2]
   simp [yBK,yCd 1]
theorem zfV:∀(vs cs:List Value) (off k:Nat),(vs.zipIdx k).foldl (fun (cs:Array Value) (p:Value×Nat)=>cs.setIfInBounds (off+p.2) p.1) cs.toArray=(za1.spliceV cs (off+k) vs).toArray
 | [],_,_,_=>rfl
 | v::r,cs,off,k=>by
   simp only [List.zipIdx_cons,yAW,za1.spliceV,List.setIfInBounds_toArray]
   exact zfV r (cs.set (off+k) v) off (k+1)
theorem zmW {sz:Nat}:∀(ps:List (Nat×Value)) (k:Nat) (cs:List Value) (l:List (Nat×PV S)),zew k l=true→ps.map (·.1)=l.map (·.1)→(∀p∈ps,p.2.cells.size=sz)→(k+ps.length)*sz≤cs.length →
  Instr.fill (fun i=>some (i*sz,sz)) cs.toArray ps=some (cs.take (k*sz)++(ps.map (·.2.cells.toList)).flatten++cs.drop ((k+ps.length)*sz)).toArray
 | [],k,cs,l,_,_,_,_=>by simp [Instr.fill]
 | (i,v)::ps,k,cs,[],_,h,_,_=>by simp at h
 | (i,v)::ps,k,cs,(j,p)::l,ho,hm,hsz,hlen=>by
   simp only [zew,yAd] at ho
   have hj:j=k:=yAa ho.1
   simp only [yAn,yBI] at hm
   have hik:i=k:=hm.1.trans hj
   subst hik
   have hv:v.cells.size=sz:=hsz (i,v) (by simp)
   simp only [yAt] at hlen
   have hmul:(i+(ps.length+1))*sz=i*sz+sz+ps.length*sz:=by rw [yAw,yAw,yAN];omega
   unfold Instr.fill
   simp only
   rw [if_neg (by simp [hv];omega)]
   have hf:=zfV v.cells.toList cs (i*sz) 0
   rw [yBG] at hf
   have hsv:=zgg v.cells.toList cs (i*sz) (by simp [hv];omega)
   have hl2:v.cells.toList.length=sz:=by simp [hv]
   rw [hl2] at hsv
   have hlen2:(cs.take (i*sz)++v.cells.toList++cs.drop (i*sz+sz)).length=cs.length:=by simp [hv];omega
   have ih:=zmW ps (i+1) (cs.take (i*sz)++v.cells.toList++cs.drop (i*sz+sz)) l ho.2 hm.2 (fun p hp=>hsz p (by simp [hp])) (by rw [hlen2,show i+1+ps.length=i+(ps.length+1) by omega];exact hlen)
   have hfold:(Array.foldl (fun (cs:Array Value) (x:Value×Nat)=>match x with | (c,j)=>cs.setIfInBounds (i*sz+j) c) cs.toArray v.cells.zipIdx)=(cs.take (i*sz)++v.cells.toList++cs.drop (i*sz+sz)).toArray:=by
    rw [←hsv,←hf,←Array.foldl_toList]
    simp
   rw [hfold,ih]
   congr 2
   have e1:(cs.take (i*sz)++v.cells.toList++cs.drop (i*sz+sz)).take ((i+1)*sz)=cs.take (i*sz)++v.cells.toList:=by
    have:(cs.take (i*sz)++v.cells.toList).length=(i+1)*sz:=by rw [yAw,yAN];simp [hv];omega
    rw [←this,yBP]
   have e2:(cs.take (i*sz)++v.cells.toList++cs.drop (i*sz+sz)).drop ((i+1+ps.length)*sz)=cs.drop ((i+(ps.length+1))*sz):=by
    have h3:(cs.take (i*sz)++v.cells.toList).length=i*sz+sz:=by simp [hv];omega
    have h4:(i+1+ps.length)*sz=(cs.take (i*sz)++v.cells.toList).length+ps.length*sz:=by rw [h3,yAw,yAw,yAN]
    rw [h4,yCm,yBt (yCo _ _),yA7,yBe,yBF,hmul]
   rw [e1,e2]
   simp
end
end Pe
end
section
/- Calls to which boxes are lent. -/
namespace Pe
open Go Go.RowKit
variable {S:Nat→Type}
section
variable {P:Program} {un:Uni S} {E:Wl.Ctx} {D0:Dat} {N:Wl.Fr} {D D':Dat} {H:List Wl.Res} {e:Env S} {bx:Bxs S} {a:Act} {w w':World} {o:Oper} {R:Type} {r:R}
theorem zkW {b:Nat}:∀{ls:List Nat} {k j:Nat},zq1 b ls k=some j→∃i,j=k+i∧ls[i]? =some b
 | [],_,_,h=>by cases h
 | i::r,k,j,h=>by
   unfold zq1 at h
   cases hb:Nat.beq i b with
   | true=>rw [hb] at h;cases h;exact ⟨0,rfl,by rw [yAa hb];rfl⟩
   | false =>
     rw [hb] at h
     obtain ⟨i',h1,h2⟩:=zkW h
     exact ⟨i'+1,by omega,by simpa using h2⟩
theorem zjG:∀(l sn:List Nat),∀i∈nub sn l,i∈l
 | [],_,_,h=>by cases h
 | j::r,sn,i,h=>by
   unfold nub at h
   cases hc:sn.contains j with
   | true=>rw [hc] at h;exact yBL _ (zjG r sn i h)
   | false =>
     rw [hc] at h
     rcases yAj.1 h with h | h
     ·rw [h];exact List.mem_cons_self
     ·exact yBL _ (zjG r _ i h)
theorem zfO:∀(l sn:List Nat),(nub sn l).Nodup∧∀i∈nub sn l,i∉sn
 | [],_=>⟨List.nodup_nil,fun _ h=>by cases h⟩
 | i::r,sn=>by
   unfold nub
   by_cases hc:sn.contains i=true
   ·rw [hc];exact zfO r sn
   ·rw [Bool.not_eq_true] at hc
    rw [hc]
    obtain ⟨h1,h2⟩:=zfO r (i::sn)
    have hi:i∉sn:=by simpa using hc
    refine ⟨yBg.2 ⟨fun h=>h2 i h (by simp),h1⟩,fun j hj=> ?_⟩
    rcases yAj.1 hj with rfl | hj
    ·exact hi
    ·exact fun h=>h2 j hj (by simp [h])
def BlocksOf (H:List Wl.Res):List Nat→List Nat→Prop
 | [],[]=>True
 | b::bs,g::gs=>(∃T cs,H[b]? =some (.box g T cs))∧BlocksOf H bs gs
 | _,_=>False
theorem BlocksOf.get:∀{ls gs:List Nat},BlocksOf H ls gs→∀{i b:Nat},ls[i]? =some b→∃g,gs[i]? =some g∧∃T cs,H[b]? =some (.box g T cs)
 | [],[],_,_,_,h=>by simp at h
 | c::bs,g::gs,hb,0,b,h=>by simp only [BlocksOf] at hb;simp at h;subst h;exact ⟨g,rfl,hb.1⟩
 | c::bs,g::gs,hb,i+1,b,h=>by simp only [BlocksOf] at hb;simpa using hb.2.get (by simpa using h)
 | [],_::_,hb,_,_,_=>by simp [BlocksOf] at hb
 | _::_,[],hb,_,_,_=>by simp [BlocksOf] at hb
theorem BlocksOf.mem:∀{ls gs:List Nat},BlocksOf H ls gs→∀{g:Nat},g∈gs→∃b∈ls,∃T cs,H[b]? =some (.box g T cs)
 | [],[],_,_,h=>by cases h
 | c::bs,g::gs,hb,k,h=>by
   simp only [BlocksOf] at hb
   rcases yAj.1 h with rfl | h
   ·exact ⟨c,by simp,hb.1⟩
   ·obtain ⟨b,h1,h2⟩:=hb.2.mem h;exact ⟨b,by simp [h1],h2⟩
 | [],_::_,hb,_,_=>by simp [BlocksOf] at hb
 | _::_,[],hb,_,_=>by simp [BlocksOf] at hb
theorem BlocksOf.mem':∀{ls gs:List Nat},BlocksOf H ls gs→∀{b:Nat},b∈ls→∃g∈gs,∃T cs,H[b]? =some (.box g T cs)
 | [],[],_,_,h=>by cases h
 | c::bs,g::gs,hb,k,h=>by
   simp only [BlocksOf] at hb
   rcases yAj.1 h with rfl | h
   ·exact ⟨g,by simp,hb.1⟩
   ·obtain ⟨b,h1,h2⟩:=hb.2.mem' h;exact ⟨b,by simp [h1],h2⟩
 | [],_::_,hb,_,_=>by simp [BlocksOf] at hb
 | _::_,[],hb,_,_=>by simp [BlocksOf] at hb
theorem zce (hd:H.Pairwise Wl.apartR) {i j:Nat} {r s:Wl.Res} {g:Nat} (hi:H[i]? =some r) (hj:H[j]? =some s) (h1:r.block=some g) (h2:s.block=some g):i=j:=by
 have hil:i<H.length:=(yAb.1 hi).1
 have hjl:j<H.length:=(yAb.1 hj).1
 have hri:H[i]=r:=(yAb.1 hi).2
 have hsj:H[j]=s:=(yAb.1 hj).2
 rcases Nat.lt_trichotomy i j with hlt | rfl | hlt
 ·have:=(yAH.1 hd) i j hil hjl hlt
  rw [hri,hsj] at this
  exact absurd h2 (this g h1)
 ·rfl
 ·have:=(yAH.1 hd) j i hjl hil hlt
  rw [hri,hsj] at this
  exact absurd h1 (this g h2)
theorem BlocksOf.nodup (hd:H.Pairwise Wl.apartR):∀{ls gs:List Nat},BlocksOf H ls gs→ls.Nodup→gs.Nodup
 | [],[],_,_=>List.nodup_nil
 | c::bs,g::gs,hb,hn=>by
   simp only [BlocksOf] at hb
   obtain ⟨h1,h2⟩:=yBg.1 hn
   refine yBg.2 ⟨fun hg=> ?_,hb.2.nodup hd h2⟩
   obtain ⟨b,hb1,T,cs,hb2⟩:=hb.2.mem hg
   obtain ⟨T',cs',hc⟩:=hb.1
   have:=zce hd hc hb2 (g:=g) rfl rfl
   subst this
   exact h1 hb1
 | [],_::_,hb,_=>by simp [BlocksOf] at hb
 | _::_,[],hb,_=>by simp [BlocksOf] at hb
mutual
theorem zpn (hun:UniOk un) (hs:St un E N D H e bx a w) {ls gs:List Nat} (hb:BlocksOf H ls gs):∀(p q:PV S) (v:Value),ren ls bx p=some q→Rep un (ids H) D w p v→Rep un (zgQ gs) D w q v
 | .ptr b off,q,v,h,hr=>by
   simp only [ren] at h
   split at h
   ·rename_i k hk
    cases h
    obtain ⟨i,rfl,hi⟩:=zkW hk
    obtain ⟨g,h1,T,cs,h2⟩:=hb.get hi
    simp only [Rep,ids,yAh,h2,yAg,zap] at hr ⊢
    obtain ⟨g',h3,rfl⟩:=hr
    simp at h3;subst h3
    exact ⟨g,by simp [h1],rfl⟩
   ·cases h
 | .func f l r,q,v,h,hr=>by
   simp only [ren] at h
   split at h
   ·rename_i l' r' h1 h2
    cases h
    simp only [Rep] at hr ⊢
    obtain ⟨x,y,h3,h4,h5⟩:=hr
    exact ⟨x,y,h3,zfJ hun hs hb l l' x h1 h4,zfJ hun hs hb r r' y h2 h5⟩
   ·cases h
 | .row b,q,v,h,hr=>by
   simp only [ren] at h
   have:=hs.fz1 hun hr
   split at h
   ·rename_i u l hf
    cases h
    rw [hf] at this
    simpa only [Rep] using this
   ·cases h
 | .agg l,q,v,h,hr=>by
   simp only [ren] at h
   split at h
   ·rename_i l' h1
    cases h
    simp only [Rep] at hr ⊢
    obtain ⟨x,h3,h4⟩:=hr
    exact ⟨x,h3,zfJ hun hs hb l l' x h1 h4⟩
   ·cases h
 | .int _ _,q,v,h,hr=>by simp only [ren] at h;cases h;simpa only [Rep] using hr
 | .bool _,q,v,h,hr=>by simp only [ren] at h;cases h;simpa only [Rep] using hr
 | .str _,q,v,h,hr=>by simp only [ren] at h;cases h;simpa only [Rep] using hr
 | .sl _ _,q,v,h,hr=>by simp only [ren] at h;cases h;simpa only [Rep] using hr
 | .nils,q,v,h,hr=>by simp only [ren] at h;cases h;simpa only [Rep] using hr
 | .st _ _,q,v,h,hr=>by simp only [ren] at h;cases h;simpa only [Rep] using hr
 | .nilp,q,v,h,hr=>by simp only [ren] at h;cases h;simpa only [Rep] using hr
 | .nilFunc,q,v,h,hr=>by simp only [ren] at h;cases h;simpa only [Rep] using hr
 | .nilIface,q,v,h,hr=>by simp only [ren] at h;cases h;simpa only [Rep] using hr
 | .tup _,_,_,h,_=>by simp [ren] at h
 | .elp _ _ _,_,_,h,_=>by simp [ren] at h
 | .iface _ _,_,_,h,_=>by simp [ren] at h
 | .junk,_,_,h,_=>by simp [ren] at h
theorem zfJ (hun:UniOk un) (hs:St un E N D H e bx a w) {ls gs:List Nat} (hb:BlocksOf H ls gs):∀(p q:List (PV S)) (v:List Value),zrU ls bx p=some q→RepL un (ids H) D w p v→RepL un (zgQ gs) D w q v
 | [],q,v,h,hr=>by simp only [zrU] at h;cases h;cases v<;>simp_all [RepL]
 | p::r,q,v,h,hr=>by
   simp only [zrU] at h
   split at h
   ·rename_i q' l h1 h2
    cases h
    cases v with
    | nil=>simp [RepL] at hr
    | cons x v =>
      simp only [RepL] at hr ⊢
      exact ⟨zpn hun hs hb p q' x h1 hr.1,zfJ hun hs hb r l v h2 hr.2⟩
   ·cases h
end
theorem zii (hun:UniOk un) (hs:St un E N D H e bx a w) {ls gs:List Nat} (hb:BlocksOf H ls gs):∀{us:List (Option U)} {ps t:List (PV S)} {vs:List Value},zis un ls bx us ps=some t→RepL un (ids H) D w ps vs→RepL un (zgQ gs) D w t vs
 | [],[],t,vs,hc,hr=>by simp [zis] at hc;subst hc;cases vs<;>simp_all [RepL]
 | some u::us,p::ps,t,v::vs,hc,hr=>by
   simp only [RepL] at hr
   unfold zis at hc
   split at hc
   ·rename_i x t' h1 h2
    cases hc
    simp only [RepL]
    exact ⟨zdy (zcc hun h1 (hs.fz hun hr.1)).2,zii hun hs hb h2 hr.2⟩
   ·cases hc
 | none::us,p::ps,t,v::vs,hc,hr=>by
   simp only [RepL] at hr
   unfold zis at hc
   split at hc
   ·rename_i q t' h1 h2
    cases hc
    simp only [RepL]
    exact ⟨zpn hun hs hb p q v h1 hr.1,zii hun hs hb h2 hr.2⟩
   ·cases hc
 | some _::_,_::_,_,[],_,hr=>by simp [RepL] at hr
 | none::_,_::_,_,[],_,hr=>by simp [RepL] at hr
 | [],_::_,_,_,hc,_=>by simp [zis] at hc
 | some _::_,[],_,_,hc,_=>by simp [zis] at hc
 | none::_,[],_,_,hc,_=>by simp [zis] at hc
theorem zsF {nu:Nu} {u:U} {cs:List (PV S)} {vs:List Value} (h:RepL un nu D w cs vs):∃v,Rep un nu D w (mkV u cs) v∧((∃n,u= .st n∧v= .agg vs.toArray)∨((∀n,u≠ .st n)∧(vs=[v]∨∃l,mkV u cs= .tup l))):=by
 cases u with
 | st n=>exact ⟨.agg vs.toArray,by simp only [mkV,Rep];exact ⟨vs,rfl,h⟩,.inl ⟨n,rfl,rfl⟩⟩
 | _ =>
   simp only [mkV]
   match cs,vs,h with
   | [],[],_=>exact ⟨.tuple #[],by simp [zf6,Rep,RepL],.inr ⟨by simp,.inr ⟨_,rfl⟩⟩⟩
   | [p],[v],h=>exact ⟨v,by simpa [zf6,RepL] using h,.inr ⟨by simp,.inl rfl⟩⟩
   | p::q::ps,v::x::vs,h=>exact ⟨.tuple (v::x::vs).toArray,by simp only [zf6,Rep];exact ⟨_,rfl,h⟩,.inr ⟨by simp,.inr ⟨_,rfl⟩⟩⟩
   | [],_::_,h=>simp [RepL] at h
   | _::_,[],h=>simp [RepL] at h
   | [_],_::_::_,h=>simp [RepL] at h
   | _::_::_,[_],h=>simp [RepL] at h
theorem znk (hun:UniOk un) (hs:St un E N D H e bx a w) {u:U} {cs:List (PV S)} {vs:List Value} {x:El S u} (hc:cast un u (fz bx (mkV u cs))=some x) (h:RepL un (ids H) D w cs vs):DR un D w [u] (sg x) vs:=by
 obtain ⟨v,h1,h2⟩:=zsF (un:=un) (u:=u) h
 have h3:=(zcc hun hc (hs.fz hun h1)).1
 rcases h2 with ⟨n,rfl,rfl⟩ | ⟨hu,rfl | ⟨l,hl⟩⟩
 ·simpa [Value.cells] using h3
 ·obtain ⟨h4,_⟩:v.cells= #[v]∧True:=by
   have hc':cast0 u (fz bx (mkV u cs))=some x:=by cases u<;>first | exact absurd rfl (hu _) | simpa [cast] using hc
   exact ⟨(zf3 (un:=un) hc' (hs.fz hun h1)).2.1,trivial⟩
  rw [h4] at h3;exact h3
 ·exfalso
  rw [hl] at hc
  have:fz bx (.tup l:PV S)= .tup l:=rfl
  rw [this] at hc
  cases u<;>simp [cast,cast0] at hc
mutual
theorem zsx {nu:Nu}:∀(p:PV S) (v:Value) (b:Nat),Rep un nu D w p v→b∈p.ptrs→∃g,nu[b]? =some (true,.pointer (some ⟨g,0,none⟩))
 | .ptr i off,v,b,h,hm=>by
   simp only [PV.ptrs,yA3] at hm
   subst hm
   simp only [Rep] at h
   obtain ⟨g,h1,_⟩:=h
   exact ⟨g,h1⟩
 | .func f l r,v,b,h,hm=>by
   simp only [Rep] at h
   obtain ⟨a,c,_,h1,h2⟩:=h
   simp only [PV.ptrs,yAv] at hm
   rcases hm with hm | hm
   ·exact zhe l a b h1 hm
   ·exact zhe r c b h2 hm
 | .int _ _,_,_,_,hm | .bool _,_,_,_,hm | .str _,_,_,_,hm | .sl _ _,_,_,_,hm | .nils,_,_,_,hm | .st _ _,_,_,_,hm | .agg _,_,_,_,hm | .tup _,_,_,_,hm | .elp _ _ _,_,_,_,hm | .nilp,_,_,_,hm
 | .row _,_,_,_,hm | .ref _,_,_,_,hm | .elr _ _ _ _,_,_,_,hm | .cont _ _,_,_,_,hm | .bref _ _,_,_,_,hm | .rsl _ _ _,_,_,_,hm | .nilFunc,_,_,_,hm | .iface _ _,_,_,_,hm | .nilIface,_,_,_,hm | .junk,_,_,_,hm=>by simp [PV.ptrs] at hm
theorem zhe {nu:Nu}:∀(ps:List (PV S)) (vs:List Value) (b:Nat),RepL un nu D w ps vs→b∈zhJ ps→∃g,nu[b]? =some (true,.pointer (some ⟨g,0,none⟩))
 | [],_,_,_,hm=>by simp [zhJ] at hm
 | p::ps,v::vs,b,h,hm=>by
   simp only [RepL] at h
   simp only [zhJ,yAv] at hm
   rcases hm with hm | hm
   ·exact zsx p v b h.1 hm
   ·exact zhe ps vs b h.2 hm
 | _::_,[],_,h,_=>by simp [RepL] at h
end
theorem znj (hun:UniOk un) (hs:St un E N D H e bx a w):∀{ts:List TypeId} {lc:List U} {ls:List Nat} {c:ElL S lc},zf7 un bx ts lc ls=some c→(∀b∈ls,∃g,(ids H)[b]? =some (true,.pointer (some ⟨g,0,none⟩))) →
  ∃gs,BlocksOf H ls gs∧zaQ un D w ts lc c gs∧ts.length=lc.length∧ls.length=ts.length
 | [],[],[],c,_,_=>⟨[],by simp [BlocksOf],by simp [zaQ],rfl,rfl⟩
 | T::ts,u::us,b::bs,c,h,hpt=>by
   unfold zf7 at h
   split at h
   ·rename_i T' cs hg
    split at h
    ·rename_i x t h1 h2
     obtain ⟨h3,h4⟩:=zag h
     cases h4
     simp only [yAd] at h3
     have hT:=yAa h3.1.1
     subst hT
     obtain ⟨gs,k1,k2,k3,k4⟩:=znj hun hs h2 fun b hb=>hpt b (by simp [hb])
     obtain ⟨r,hr1,hr2⟩:=hs.boxes.get hg
     have hh:=hs.inn.res _ (yAc hr1)
     cases r with
     | own=>simp [BoxRep] at hr2
     | ref=>simp [BoxRep] at hr2
     | wr=>simp [BoxRep] at hr2
     | fix v g size ob =>
       obtain ⟨g',hg'⟩:=hpt b (by simp)
       simp only [ids,yAh,hr1,yAg,zap,yAf,Prod.mk.injEq,true_and] at hg'
       subst hg'
       exact absurd hh.1 (zdM _)
     | box g T2 vs =>
       simp only [BoxRep] at hr2
       obtain ⟨rfl,hl⟩:=hr2
       refine ⟨g::gs,by simp only [BlocksOf];exact ⟨⟨_,_,hr1⟩,k1⟩,?_,by simp [k3],by simp [k4]⟩
       simp only [zaQ]
       exact ⟨⟨vs,hh.2,znk hun hs h1 hl⟩,k2⟩
    ·cases h
   ·cases h
 | [],[],_::_,_,h,_=>by simp [zf7] at h
 | [],_::_,_,_,h,_=>by simp [zf7] at h
 | _::_,[],_,_,h,_=>by simp [zf7] at h
 | _::_,_::_,[],_,h,_=>by simp [zf7] at h
theorem zni:∀{ts:List TypeId} {lc:List U} {ls:List Nat} {c:ElL S lc},zf7 un bx ts lc ls=some c→∀b∈ls,∃T cs,zar bx b=some (.var T cs)
 | [],[],[],_,_,b,hb=>by cases hb
 | T::ts,u::us,b::bs,c,h,b',hb=>by
   unfold zf7 at h
   split at h
   ·rename_i T' cs hg
    split at h
    ·rename_i x t h1 h2
     rcases yAj.1 hb with rfl | hb
     ·exact ⟨_,_,hg⟩
     ·exact zni h2 b' hb
    ·cases h
   ·cases h
 | [],[],_::_,_,h,_,_=>by simp [zf7] at h
 | [],_::_,_,_,h,_,_=>by simp [zf7] at h
 | _::_,[],_,_,h,_,_=>by simp [zf7] at h
 | _::_,_::_,[],_,h,_,_=>by simp [zf7] at h
def zkR (w':World):Wl.Res→Wl.Res
 | .box g T _=> .box g T (match w'.heap[g]? with | some (.cells cs _ _)=>cs.toList | _=>[])
 | r=>r
theorem zhG (w':World) (r:Wl.Res):(zkR w' r).block=r.block:=by cases r<;>rfl
theorem zmZ (w':World) (r:Wl.Res):zap (zkR w' r)=zap r:=by cases r<;>rfl
def relist (w':World) (ls:List Nat):Nat→List Wl.Res→List Wl.Res
 | _,[]=>[]
 | k,r::rs=>(bif ls.contains k then zkR w' r else r)::relist w' ls (k+1) rs
theorem zbQ (w':World) (ls:List Nat):∀(H:List Wl.Res) (k i:Nat),(relist w' ls k H)[i]? =(H[i]?).map fun r=>bif ls.contains (k+i) then zkR w' r else r
 | [],_,_=>by simp [relist]
 | r::rs,k,0=>by simp [relist]
 | r::rs,k,i+1=>by simp only [relist,List.getElem?_cons_succ];rw [zbQ w' ls rs (k+1) i];rw [show k+1+i=k+(i+1) by omega]
theorem zdV (w':World) (ls:List Nat):∀(H:List Wl.Res) (k:Nat),(relist w' ls k H).length=H.length
 | [],_=>rfl
 | r::rs,k=>by simp [relist,zdV w' ls rs (k+1)]
theorem ziJ {α:Type} (f:Wl.Res→α) (hf:∀r,f (zkR w' r)=f r) (ls:List Nat) (H:List Wl.Res):(relist w' ls 0 H).map f=H.map f:=by
 apply yAP
 intro i
 simp only [yAh,zbQ,Option.map_map]
 congr 1
 funext r
 simp only [Function.comp]
 cases ls.contains (0+i)<;>simp [hf]
theorem ziK (ls:List Nat) (H:List Wl.Res):ids (relist w' ls 0 H)=ids H:=ziJ zap (zmZ w') ls H
theorem In.relist (h:In E D H w) {ls gs:List Nat} (hb:BlocksOf H ls gs) (hg:Wl.Grow gs w w') (hc:∀b∈ls,∀g T cs,H[b]? =some (.box g T cs)→∃cs',w'.heap[g]? =some (.cells cs' T (0,0))):In E (zk5 D w w') (Pe.relist w' ls 0 H) w':=by
 have hgs:∀g∈gs,E.may g:=fun g hgm=>by
  obtain ⟨b,_,T,cs,hH⟩:=hb.mem hgm
  exact (h.res _ (yAc hH)).1
 refine ⟨⟨hg.os.trans h.out.os,hg.tape.trans h.out.tape,hg.output.trans h.out.output,yAk h.out.size hg.size,fun k hk hn=> ?_⟩,fun k o hk=> ?_,fun r hr=> ?_,fun r hr g hgr o hf hD=> ?_,?_,fun i g hi=> ?_⟩
 rotate_left 5
 ·obtain ⟨s,h2,h3,h4,h5⟩:=h.lent i g hi
  rw [zbQ,h2]
  simp only [yAg]
  cases ls.contains (0+i)
  ·exact ⟨s,rfl,h3,h4,h5⟩
  ·exact ⟨zkR w' s,rfl,by cases s<;>exact h3,(zmZ w' s).trans h4,by cases s<;>first | exact h5 | exact keptR.box⟩
 ·refine (hg.block k (yAy hk h.out.size) fun hk2=> ?_).trans (h.out.block k hk hn)
  rcases hgs k hk2 with h1 | h1
  ·omega
  ·exact hn h1
 ·rcases hk with hk | hk
  ·exact yAy (h.lt k o hk) hg.size
  ·exact hk.2
 ·rcases yAA hr with ⟨i,hi⟩
  rw [zbQ] at hi
  cases hH:H[i]? with
  | none=>rw [hH] at hi;cases hi
  | some s =>
    rw [hH] at hi
    simp only [yAg,yAf,yA0] at hi
    have hs:=h.res s (yAc hH)
    by_cases hil:i∈ls
    ·have:ls.contains i=true:=by simpa using hil
     rw [this] at hi
     simp only [cond_true] at hi
     obtain ⟨g,_,T,cs,hH2⟩:=hb.mem' hil
     rw [hH] at hH2;cases hH2
     obtain ⟨cs',hc'⟩:=hc i hil g T cs hH
     subst hi
     exact ⟨hs.1,by simp [hc']⟩
    ·have:ls.contains i=false:=by simpa using hil
     rw [this] at hi
     simp only [cond_false] at hi
     subst hi
     refine Wl.Res.holds_of hs fun g hgb=>hg.block g (Wl.Res.holds_lt hs hgb).2 fun hgm=> ?_
     obtain ⟨b,hbl,T,cs,hH2⟩:=hb.mem hgm
     have:=zce h.disj hH hH2 hgb rfl
     subst this
     exact hil hbl
 ·rcases yAA hr with ⟨i,hi⟩
  rw [zbQ] at hi
  cases hH:H[i]? with
  | none=>rw [hH] at hi;cases hi
  | some s =>
    rw [hH] at hi
    simp only [yAg,yAf,yA0] at hi
    have hsm:=yAc hH
    have hbs:s.block=some g:=by
     rw [←hi] at hgr
     cases hcc:ls.contains i<;>rw [hcc] at hgr<;>simpa [zhG] using hgr
    have hfs:zoA s o:=by
     rw [←hi] at hf
     cases hcc:ls.contains i<;>rw [hcc] at hf
     ·exact hf
     ·cases s<;>first | exact hf | trivial
    rcases hD with hD | hD
    ·exact h.apart s hsm g hbs o hfs hD
    ·have:=(Wl.Res.holds_lt (h.res s hsm) hbs).2;omega
 ·have h1:(H.map Wl.Res.block).Pairwise (fun x y=>∀g,x=some g→y≠some g):=by rw [yBY];exact h.disj
  rw [←ziJ (w':=w') Wl.Res.block (zhG w') ls H,yBY] at h1
  exact h1
theorem Ge.grow (h:In E D H w) {gs:List Nat} (hg:Wl.Grow gs w w') (hd:∀g∈gs,∀o,¬D g o):Ge D w (zk5 D w w') w' :=
 ⟨fun _ _ hk=> .inl hk,fun k o hk=>World.cell?_of_block (hg.block k (h.lt k o hk) fun hk2=>hd k hk2 o hk)⟩
theorem BxRep.of_get' {nu:Nu}:∀{bx:Bxs S} {H:List Wl.Res},bx.length=H.length→(∀(i:Nat) b r,zar bx i=some b→H[i]? =some r→BoxRep un nu D w E false b r)→BxRep un nu D w E bx H
 | [],[],_,_=>by simp [BxRep]
 | b::bs,r::rs,hl,h=>by simp only [BxRep];exact ⟨h 0 b r rfl rfl,BxRep.of_get' (by simpa using hl) fun i b r hb hr=>h (i+1) b r hb (by simpa using hr)⟩
 | [],_::_,hl,_=>by simp at hl
 | _::_,[],hl,_=>by simp at hl
theorem zda:∀{bx:Bxs S} {j:Nat} {y z:Box S},zar (zb1 bx j y) j=some z→z=y
 | [],_,_,_,h=>by simp [zb1,zar] at h
 | _::_,0,_,_,h=>by simp [zb1,zar] at h;exact h.symm
 | _::r,n+1,_,_,h=>by simp only [zb1,zar] at h;exact zda h
theorem zgP:∀(ts:List TypeId) (lc:List U) (ls:List Nat) (t:ElL S lc) (bx:Bxs S),(zgn un ts lc ls t bx).length=bx.length
 | [],_,_,_,_=>by simp [zgn]
 | _::_,[],_,_,_=>by simp [zgn]
 | _::_,_::_,[],_,_=>by simp [zgn]
 | T::ts,u::us,b::bs,t,bx=>by simp only [zgn];rw [zgP,zbK]
theorem zkU (hf:znX un) {nu:Nu} {H':List Wl.Res}:∀{ts:List TypeId} {lc:List U} {ls gs:List Nat} {t:ElL S lc} {bx:Bxs S},zaQ un D w ts lc t gs→(∀(b g:Nat),(b,g)∈ls.zip gs→∀r T cs,H'[b]? =some r→w.heap[g]? =some (.cells cs T (0,0))→r= .box g T cs.toList) →
  ls.length=ts.length→(∀(i:Nat) b r,i∉ls→zar bx i=some b→H'[i]? =some r→BoxRep un nu D w E false b r)→∀(i:Nat) b r,zar (zgn un ts lc ls t bx) i=some b→H'[i]? =some r→BoxRep un nu D w E false b r
 | [],[],[],[],_,_,_,_,_,h,i,b,r,hb,hr=>h i b r (by simp) (by simpa [zgn] using hb) hr
 | T::ts,u::us,b::bs,g::gs,t,bx,hl,hz,hlen,h,i,b',r,hb,hr=>by
   simp only [zaQ] at hl
   simp only [zgn] at hb
   refine zkU hf (ls:=bs) hl.2 (fun b g hm=>hz b g (by simp [hm])) (by simpa using hlen) (fun i b' r hi hb hr=> ?_) i b' r hb hr
   by_cases hib:i=b
   ·subst hib
    have:=zda hb
    subst this
    obtain ⟨cs,h1,h2⟩:=hl.1
    have:=hz i g (by simp) r T cs.toArray hr h1
    subst this
    simp only [BoxRep]
    exact ⟨trivial,zcj hf h2⟩
   ·rw [zaE hib] at hb
    exact h i b' r (by simp [hi,hib]) hb hr
 | [],[],_::_,_,_,_,_,_,hlen,_,_,_,_,_,_=>by simp at hlen
 | _::_,_::_,[],_,_,_,_,_,hlen,_,_,_,_,_,_=>by simp at hlen
 | _::_,_::_,_::_,[],_,_,hl,_,_,_,_,_,_,_,_=>by simp [zaQ] at hl
 | [],_::_,_,_,_,_,hl,_,_,_,_,_,_,_,_=>by simp [zaQ] at hl
 | _::_,[],_,_,_,_,hl,_,_,_,_,_,_,_,_=>by simp [zaQ] at hl
 | [],[],[],_::_,_,_,hl,_,_,_,_,_,_,_,_=>by simp [zaQ] at hl
theorem ziP (un:Uni S):∀(u:U) (x:El S u),(zd5 un u x).length=U.size un u
 | .st n,x=>by
   have:∀(us:List U) (t:ElL S us),(zc9 us t).length=us.length:=by
    intro us
    induction us with
    | nil=>intro t;rfl
    | cons u us ih=>intro t;simp [zc9,ih]
   simp only [zd5,U.size];exact this _ _
 | .int _,_=>rfl
 | .bool,_=>rfl
 | .str,_=>rfl
 | .sl _,_=>rfl
 | .mp _ _,_=>rfl
 | .rw _,_=>rfl
def Same (bx0 bx:Bxs S):Prop:=∀b T cs,zar bx0 b=some (.var T cs)→∃cs',zar bx b=some (.var T cs')∧cs'.length=cs.length
theorem ziM:∀{ts:List TypeId} {lc:List U} {ls:List Nat} {c:ElL S lc} (t:ElL S lc) (bx':Bxs S),zf7 un bx ts lc ls=some c→Same bx bx'→PresB bx bx'→PresB bx (zgn un ts lc ls t bx')
 | [],[],[],_,_,_,_,_,h=>by simpa [zgn] using h
 | T::ts,u::us,b::bs,c,t,bx',h,hs,hp=>by
   unfold zf7 at h
   split at h
   ·rename_i T' cs hg
    split at h
    ·rename_i x t' h1 h2
     obtain ⟨h3,h4⟩:=zag h
     simp only [yAd] at h3
     have hT:=yAa h3.1.1
     subst hT
     have hlen:=yAa h3.1.2
     simp only [zgn]
     obtain ⟨cs1,hb1,hl1⟩:=hs b _ _ hg
     refine ziM t.2 _ h2 (fun b2 T2 cs2 hg2=> ?_) (hp.trans (PresB.set hb1 rfl fun T3 cs3 he=>by cases he;exact ⟨_,rfl,by rw [ziP];omega⟩))
     obtain ⟨cs3,hb3,hl3⟩:=hs b2 T2 cs2 hg2
     by_cases hbb:b2=b
     ·subst hbb
      rw [hg] at hg2;cases hg2
      exact ⟨_,zeR hb1,by rw [ziP];omega⟩
     ·exact ⟨cs3,by rw [zaE hbb];exact hb3,hl3⟩
    ·cases h
   ·cases h
 | [],[],_::_,_,_,_,h,_,_=>by simp [zf7] at h
 | [],_::_,_,_,_,_,h,_,_=>by simp [zf7] at h
 | _::_,[],_,_,_,_,h,_,_=>by simp [zf7] at h
 | _::_,_::_,[],_,_,_,h,_,_=>by simp [zf7] at h
theorem zd1:∀(ls:List Nat) (bx:Bxs S),(ze2 ls bx).length=bx.length
 | [],_=>rfl
 | b::bs,bx=>by
   simp only [ze2]
   rw [zd1 bs]
   split<;>simp [zbK]
theorem zsR {nu:Nu}:∀{cs:List (PV S)} {vs:List Value},cs.length=vs.length→RepL un nu D w (cs.map fun _=> .junk) vs
 | [],[],_=>by simp [RepL]
 | _::cs,_::vs,h=>by simp only [yAn,RepL,Rep];exact ⟨trivial,zsR (by simpa using h)⟩
 | [],_::_,h=>by simp at h
 | _::_,[],h=>by simp at h
theorem zgy:∀(ls:List Nat) (bx:Bxs S) (i:Nat) (b:Box S),zar (ze2 ls bx) i=some b→(i∉ls∧zar bx i=some b)∨(i∈ls∧∃b0,zar bx i=some b0∧((∀T cs,b0= .var T cs→b= .var T (cs.map fun _=> .junk))∧((∀T cs,b0≠ .var T cs)→b=b0)))
 | [],bx,i,b,h=> .inl ⟨by simp,h⟩
 | c::cs,bx,i,b,h=>by
   simp only [ze2] at h
   rcases zgy cs _ i b h with ⟨h1,h2⟩ | ⟨h1,b0,h2,h3,h4⟩
   ·by_cases hic:i=c
    ·subst hic
     right
     refine ⟨by simp,?_⟩
     split at h2
     ·rename_i T cs2 hg
      have:=zda h2;subst this
      exact ⟨_,hg,fun T' cs' he=>by cases he;rfl,fun hn=>absurd rfl (hn _ _)⟩
     ·rename_i hn
      exact ⟨b,h2,fun T' cs' he=>by subst he;exact absurd h2 (hn _ _),fun _=>rfl⟩
    ·left
     refine ⟨by simp [h1,hic],?_⟩
     split at h2
     ·rw [zaE hic] at h2;exact h2
     ·exact h2
   ·right
    refine ⟨by simp [h1],?_⟩
    by_cases hic:i=c
    ·subst hic
     split at h2
     ·rename_i T cs2 hg
      have:=zda h2;subst this
      refine ⟨_,hg,fun T' cs' he=> ?_,fun hn=>absurd rfl (hn _ _)⟩
      cases he
      rw [h3 _ _ rfl];simp
     ·exact ⟨b0,h2,h3,h4⟩
    ·split at h2
     ·rw [zaE hic] at h2;exact ⟨b0,h2,h3,h4⟩
     ·exact ⟨b0,h2,h3,h4⟩
theorem zfm:∀(ls:List Nat) (bx:Bxs S),PresB bx (ze2 ls bx)
 | [],bx=>PresB.refl bx
 | b::bs,bx=>by
   simp only [ze2]
   refine PresB.trans ?_ (zfm bs _)
   split
   ·rename_i T cs hg
    exact PresB.set hg rfl fun T' cs' he=>by cases he;exact ⟨_,rfl,by simp⟩
   ·exact PresB.refl bx
theorem zr3 (hun:UniOk un) {c:Call} {f:FuncId} {l:List (PV S)} (hen:za7 e c=some (f,l)) (ho:o.op= .call c) (hcf:∀args w,(callFunc f args).run P w= .ok (.enter f args) w)
  {ls:List Nat} (hls:ls.Nodup) (hlm:∀b∈ls,b∈zhJ l) {args:Option (List (PV S))} {ts:List TypeId} {lc rs ps:List U} {pan:TypeId} {ask:List (PV S)→ElL S lc→Option (Out S lc rs ps)} {K:PV S→Env S→Bxs S→Option R} {KX:Exit→Env S→Bxs S→Option R}
  (h:zgC un e bx ls args ts lc rs ps pan ask K KX=some r)
  (hargs:∀t,args=some t→∀D H a w gs,St un E N D H e bx a w→BlocksOf H ls gs→∀vs,RepL un (ids H) D w l vs→RepL un (zgQ gs) D w t vs)
  (hask:∀t c r,ask t c=some r→ztw P un f t ts lc c rs ps pan r)
  (hd:∀d,o.dst=some d→d<N.n) (hs:Holds un E D0 N e bx a w) {next:Act→World→Prop} {Q:Exit→Act→World→Prop}
  (hk:∀p e' bx',K p e' bx'=some r→Pres [] e e'→PresB bx bx'→∀a' w',Holds un E D0 N (push o.dst p e') bx' a' w'→next a' w')
  (hx:∀x e' bx',KX x e' bx'=some r→Pres [] e e'→PresB bx bx'→∀a' w',Holds un E D0 N e' bx' a' w'→Q x a' w'):o.wp P a w next Q:=by
 unfold zgC at h
 split at h
 ·rename_i t cc hcc
  obtain ⟨D,H,hs,hD,hG⟩:=hs
  obtain ⟨vs,g1,g2⟩:=zcX hs hen ho hcf
  obtain ⟨gs,hb,hl,hlen1,hlen2⟩:=znj hun hs hcc fun b hb=>zhe _ _ b g2 (hlm b hb)
  have hgD:∀g∈gs,∀o,¬D g o:=fun g hg o=>by
   obtain ⟨b,_,T,cs,hH⟩:=hb.mem hg
   exact hs.inn.apart _ (yAc hH) g rfl o trivial
  unfold Oper.wp
  rw [g1]
  cases hr:ask t cc with
  | none=>rw [hr] at h;simp [oc] at h
  | some res =>
    rw [hr] at h
    refine (hask t cc res hr D w vs gs hs.inn.lt (hb.nodup hs.inn.disj hls) hgD hl (hargs t rfl D H a w gs hs hb vs g2)).mono fun x w1 hx1=> ?_
    obtain ⟨hg,hx1⟩:=hx1
    have hge:=Ge.grow hs.inn hg hgD
    have hD':∀k o,zk5 D w w1 k o→D0 k o∨E.may k:=fun k o hk=>by
     rcases hk with hk | hk
     ·exact hD k o hk
     ·exact .inr (.inl (yAk hs.inn.out.size hk.1))
    have hbl:∀(b g:Nat),(b,g)∈ls.zip gs→∃T cs,H[b]? =some (.box g T cs):=by
     clear hl hx1 hge hgD hg hlen2 hargs hls hcc h hlm
     intro b g hm
     induction ls generalizing gs with
     | nil=>simp at hm
     | cons c bs ih =>
       cases gs with
       | nil=>simp at hm
       | cons g' gs =>
         simp only [BlocksOf] at hb
         simp only [yBp,yAj,Prod.mk.injEq] at hm
         rcases hm with ⟨rfl,rfl⟩ | hm
         ·exact hb.1
         ·exact ih gs hb.2 hm
    cases res with
    | inl out =>
      obtain ⟨⟨v,rfl,hv⟩,hl'⟩:=hx1
      simp only [oc] at h
      have hcells:∀b∈ls,∀g T cs,H[b]? =some (.box g T cs)→∃cs',w1.heap[g]? =some (.cells cs' T (0,0)):=by
       have:∀{ts:List TypeId} {lc:List U} {ls gs:List Nat} {c c':ElL S lc} {D D':Dat},zaQ un D w ts lc c gs→zaQ un D' w1 ts lc c' gs→BlocksOf H ls gs→∀b∈ls,∀g T cs,H[b]? =some (.box g T cs)→∃cs',w1.heap[g]? =some (.cells cs' T (0,0)):=by
        intro ts
        induction ts with
        | nil =>
          intro lc ls gs c c' D D' k1 k2 k3 b hbm
          cases lc<;>cases gs<;>cases ls<;>simp_all [zaQ,BlocksOf]
        | cons T0 ts ih =>
          intro lc ls gs c c' D D' k1 k2 k3 b hbm g T cs hH
          cases lc with
          | nil=>simp [zaQ] at k1
          | cons u us =>
            cases gs with
            | nil=>simp [zaQ] at k1
            | cons g0 gs =>
              cases ls with
              | nil=>cases hbm
              | cons b0 bs =>
                simp only [zaQ] at k1 k2
                simp only [BlocksOf] at k3
                rcases yAj.1 hbm with rfl | hbm
                ·obtain ⟨⟨T1,cs1,k4⟩,k5⟩:=k3
                 rw [hH] at k4;cases k4
                 obtain ⟨⟨cs2,k6,_⟩,_⟩:=k1
                 obtain ⟨⟨cs3,k7,_⟩,_⟩:=k2
                 have:=(hs.inn.res _ (yAc hH)).2
                 rw [k6] at this
                 simp at this
                 rw [←this.2]
                 exact ⟨_,k7⟩
                ·exact ih k1.2 k2.2 k3.2 b hbm g T cs hH
       exact this hl hl' hb
      have hin:=hs.inn.relist hb hg hcells
      have hids:=ziK (w':=w1) ls H
      refine hk _ _ _ h (Pres.refl _ _) (ziM _ _ hcc (fun b T cs h=>⟨cs,h,rfl⟩) (PresB.refl _)) _ _ ⟨_,_,hs.step hin ?_ (fun i q hi=> ?_) hd ?_,hD',hG.trans hge⟩
      ·refine BxRep.of_get' (by rw [zgP,zdV];exact hs.boxes.length) ?_
       refine zkU hun.flat hl' (fun b g hm r T cs hr hw=> ?_) hlen2 (fun i b r hi hgb hr=> ?_)
       ·obtain ⟨T1,cs1,hH⟩:=hbl b g hm
        rw [zbQ,hH] at hr
        have hbm:ls.contains b=true:=by simpa using (List.of_mem_zip hm).1
        simp only [yAg,yA0,hbm,cond_true,yAf] at hr
        subst hr
        obtain ⟨cs',hc'⟩:=hcells b (List.of_mem_zip hm).1 g T1 cs1 hH
        rw [hc'] at hw;cases hw
        simp [zkR,hc']
       ·rw [hids]
        rw [zbQ] at hr
        have hbm:ls.contains i=false:=by simpa using hi
        obtain ⟨r0,hr1,hr2⟩:=hs.boxes.get hgb
        rw [hr1] at hr
        simp only [yAg,yA0,hbm,cond_false,yAf] at hr
        subst hr
        exact hr2.mono hge (zaA hs.inn.out hin.out) fun _ _ h=>h
      ·rw [hids];exact (hs.slots i q hi).ge hge fun _ _ h=>h
      ·exact hv.ge (Ge.refl _ _) fun i x h=>by simp at h
    | inr p =>
      obtain ⟨rfl,hsl⟩:=hx1
      simp only [oc] at h
      have hcells:∀b∈ls,∀g T cs,H[b]? =some (.box g T cs)→∃cs',cs'.size=cs.length∧w1.heap[g]? =some (.cells cs' T (0,0)):=fun b hbm g T cs hH=>by
       obtain ⟨g',hgm,T',cs',hH'⟩:=hb.mem' hbm
       rw [hH] at hH';cases hH'
       obtain ⟨cs2,h1,h2⟩:=hsl g hgm T cs.toArray (hs.inn.res _ (yAc hH)).2
       exact ⟨cs2,by simpa using h1,h2⟩
      have hin:=hs.inn.relist hb hg fun b hbm g T cs hH=>(hcells b hbm g T cs hH).imp fun _ h=>h.2
      have hids:=ziK (w':=w1) ls H
      refine hx _ _ _ h (Pres.refl _ _) (zfm _ _) _ _ ⟨_,_,⟨hin,hs.size,hs.defers,?_,fun i q hi=> ?_⟩,hD',hG.trans hge⟩
      ·refine BxRep.of_get' (by rw [zd1,zdV];exact hs.boxes.length) fun i b r hgb hr=> ?_
       rw [hids]
       rw [zbQ] at hr
       rcases zgy ls bx i b hgb with ⟨h1,h2⟩ | ⟨h1,b0,h2,h3,_⟩
       ·have hbm:ls.contains i=false:=by simpa using h1
        obtain ⟨r0,hr1,hr2⟩:=hs.boxes.get h2
        rw [hr1] at hr
        simp only [yAg,yA0,hbm,cond_false,yAf] at hr
        subst hr
        exact hr2.mono hge (zaA hs.inn.out hin.out) fun _ _ h=>h
       ·have hbm:ls.contains i=true:=by simpa using h1
        obtain ⟨T,cs,hv⟩:=zni hcc i h1
        rw [h2] at hv;cases hv
        obtain ⟨r0,hr1,hr2⟩:=hs.boxes.get h2
        rw [hr1] at hr
        simp only [yAg,yA0,hbm,cond_true,yAf] at hr
        subst hr
        rw [h3 T cs rfl]
        cases r0 with
        | own=>simp [BoxRep] at hr2
        | wr=>simp [BoxRep] at hr2
        | fix =>
          obtain ⟨g',hgm,T',cs',hH'⟩:=hb.mem' h1
          rw [hr1] at hH';cases hH'
        | ref=>simp [BoxRep] at hr2
        | box g T2 vs =>
          simp only [BoxRep] at hr2
          obtain ⟨rfl,hl2⟩:=hr2
          obtain ⟨cs',hc1,hc2⟩:=hcells i h1 g _ vs hr1
          simp only [zkR,hc2,BoxRep]
          refine ⟨trivial,zsR ?_⟩
          rw [hl2.length];simpa using hc1.symm
      ·rw [hids];exact (hs.slots i q hi).ge hge fun _ _ h=>h
 ·cases h
end
end Pe
end
section
/- Any operation, carried out. -/
namespace Pe
open Go Go.RowKit
variable {S:Nat→Type}
section
variable {P:Program} {un:Uni S} {tb:Tb S} {orc:Orc S} {inl:Inl S} {E:Wl.Ctx} {D0:Dat} {N:Wl.Fr} {D D':Dat} {H:List Wl.Res} {e:Env S} {bx:Bxs S} {a:Act} {w w':World} {o:Oper} {R:Type} {r:R}
theorem zgl (w:World) (t:TypeId) (v:Value):(newVar t v).run P w= .ok ⟨w.heap.size,0,none⟩ (w.alloc (.cells v.cells t)):=by
 simp [newVar,newRow]
theorem PartsRep.split {nu:Nu}:∀{l:List (Nat×PV S)} {pv:List (Nat×Value)},PartsRep un nu D w l pv→RepL un nu D w (l.map (·.2)) (pv.map (·.2))∧pv.map (·.1)=l.map (·.1)
 | [],[],_=>⟨by simp [RepL],rfl⟩
 | (i,p)::l,(j,v)::pv,h=>by
   simp only [PartsRep] at h
   obtain ⟨rfl,h1,h2⟩:=h
   obtain ⟨g1,g2⟩:=PartsRep.split h2
   exact ⟨by simp only [yAn,RepL];exact ⟨h1,g1⟩,by simp [g2]⟩
 | [],_::_,h=>by simp [PartsRep] at h
 | _::_,[],h=>by simp [PartsRep] at h
theorem zft (hun:UniOk un) (hs:St un E N D H e bx a w) {u:U}:∀{ps:List (PV S)} {vs:List Value} {xs:List (El S u)},zeA un bx u ps=some xs→RepL un (ids H) D w ps vs →
  xs.length=vs.length∧(∀v∈vs,v.cells.size=U.size un u)∧∀(i:Nat) x,xs[i]? =some x→DR un D w [u] (sg x) (((vs.map (·.cells.toList)).flatten.drop (i*U.size un u)).take (U.size un u))
 | [],[],xs,h,_=>by simp [zeA] at h;subst h;simp
 | p::ps,v::vs,xs,h,hr=>by
   simp only [RepL] at hr
   unfold zeA at h
   split at h
   ·rename_i x l h1 h2
    cases h
    obtain ⟨g1,g2,g3⟩:=zft hun hs h2 hr.2
    have hd:=(zcc hun h1 (hs.fz hun hr.1)).1
    have hsz:v.cells.size=U.size un u:=by have:=hd.length hun.flat;simpa [zfF] using this
    refine ⟨by simp [g1],fun y hy=> ?_,fun i y hi=> ?_⟩
    ·rcases yAj.1 hy with rfl | hy
     ·exact hsz
     ·exact g2 y hy
    ·simp only [yAn,yBC]
     have hl:v.cells.toList.length=U.size un u:=by simpa using hsz
     cases i with
     | zero =>
       simp at hi;subst hi
       rw [yB0,yBa,←hl,yBP]
       exact hd
     | succ i =>
       have hi':l[i]? =some y:=by simpa using hi
       have:=g3 i y hi'
       rw [show (i+1)*U.size un u=v.cells.toList.length+i*U.size un u by rw [hl,yAw,yAN,yCd],zc0]
       exact this
   ·cases h
 | [],_::_,_,_,hr=>by simp [RepL] at hr
 | _::_,[],_,_,hr=>by simp [RepL] at hr
theorem zfo {sz:Nat}:∀(vs:List Value),(∀v∈vs,v.cells.size=sz)→((vs.map (·.cells.toList)).flatten).length=vs.length*sz
 | [],_=>by simp
 | v::vs,h=>by
   simp only [yAn,yBC,yAG,yAt]
   rw [zfo vs fun y hy=>h y (by simp [hy]),yAw,yAN]
   have:=h v (by simp)
   simp [this];omega
theorem zeY {T:TypeId} {u:U} {t:TypeId} (hu:P.underlying t=some (.slice T)) (hT:ElOk P un T u) {n:Nat} {pv:List (Nat×Value)} {l:List (Nat×PV S)} (ho:zew 0 l=true) (hm:pv.map (·.1)=l.map (·.1)) (hn:pv.length=n) (hsz:∀p∈pv,p.2.cells.size=U.size un u) (hlim:n*U.size un u≤16777216) (w:World) :
  (Instr.buildSlice t n pv.toArray).run P w= .ok (.slice (some ⟨w.heap.size,0,none⟩) n n) (w.alloc (.cells ((pv.map (·.2)).map (·.cells.toList)).flatten.toArray T)):=by
 obtain ⟨j,z,e1,e2,e3,e4,e5,e6⟩:=hT.info
 have hlim':¬(16777216<n*U.size un u):=by omega
 have key:∀A:Array Value,A.size=n*U.size un u→Instr.fill (fun i=>some (i*U.size un u,U.size un u)) A pv=some ((pv.map (·.2)).map (·.cells.toList)).flatten.toArray:=by
  intro A hA
  have:=zmW (S:=S) pv 0 A.toList l ho hm hsz (by simp [hn,hA])
  rw [show A=A.toList.toArray by simp,this]
  rw [yB0,List.take_zero,yBe,yA0,hn]
  rw [yBt (by simp [hA]),yAO,List.map_map]
  rfl
 by_cases h0:n*U.size un u=0
 ·have hk:=key ((Array.range (n*U.size un u)).map fun x=>(#[]:Array Value)[x % (#[]:Array Value).size]!) (by simp)
  simp only [Instr.buildSlice,Sem.run_bind,run_underlying hu,Go.sizeOf,typeInfo]
  simp [e1,e3,h0,newRow]
  simp [h0] at hk
  rw [hk]
  simp
 ·have hk:=key ((Array.range (n*U.size un u)).map fun x=>z.cells[x % z.cells.size]!) (by simp)
  simp only [Instr.buildSlice,Sem.run_bind,run_underlying hu,Go.sizeOf,typeInfo]
  simp [e1,e3,hlim',h0,newRow,zeroValue,typeInfo,e2]
  rw [hk]
  simp
theorem zko (hun:UniOk un) {T:TypeId} {u:U} {t:TypeId} (hu:P.underlying t=some (.slice T)) (hT:ElOk P un T u) {n:Nat} {parts:List (Nat×Operand)} {l:List (Nat×PV S)} {xs:List (El S u)} (hs:St un E N D H e bx a w) (hp:zbq e parts=some l) (ho:zew 0 l=true) (hln:l.length=n) (hlim:n*U.size un u≤16777216)
  (hx:zeA un bx u (l.map (·.2))=some xs) (hD:∀k o,D k o→D0 k o∨E.may k) (hG:Ge D0 E.w D w) {dst:Option Nat} (hd:∀d,dst=some d→d<N.n) :
  ∃v' w',(Instr.buildSlice t n (parts.map fun p=>(p.1,a.eval p.2)).toArray).run P w= .ok v' w'∧Holds un E D0 N (push dst (.row bx.length) e) (bx++[.own u T xs]) (a.put dst v') w':=by
 obtain ⟨hr,hm⟩:=(hs.parts hp).split
 obtain ⟨g1,g2,g3⟩:=zft hun hs hx hr
 have hpl:(parts.map fun p=>(p.1,a.eval p.2)).length=n:=by have:=congrArg List.length hm;simpa [hln] using this
 have hrun:=zeY (P:=P) (un:=un) hu hT ho hm hpl (fun p hp=>g2 _ (yA1.2 ⟨p,hp,rfl⟩)) hlim w
 refine ⟨_,_,hrun,?_⟩
 obtain ⟨j,z,e1,e2,e3,e4,e5,e6⟩:=hT.info
 have hxn:xs.length=n:=by rw [g1];simpa using hpl
 have hfl:(((parts.map fun p=>(p.1,a.eval p.2)).map (·.2)).map (·.cells.toList)).flatten.length=n*U.size un u:=by
  rw [zfo _ g2];congr 1;simpa using hpl
 have hb:Below w.heap.size w (w.alloc (.cells (((parts.map fun p=>(p.1,a.eval p.2)).map (·.2)).map (·.cells.toList)).flatten.toArray T)):=(Below.refl _ _).alloc (yAi _) _
 have hnm:n≤maxLen:=by
  have:n*1≤n*U.size un u:=Nat.mul_le_mul_left _ e5
  unfold maxLen;omega
 have hown:(w.alloc (.cells (((parts.map fun p=>(p.1,a.eval p.2)).map (·.2)).map (·.cells.toList)).flatten.toArray T)).ownsRow 0 T (U.size un u) (.slice (some ⟨w.heap.size,0,none⟩) n n) n (((parts.map fun p=>(p.1,a.eval p.2)).map (·.2)).map (·.cells.toList)).flatten:=by
  refine ⟨hfl,.inr ⟨w.heap.size,n,_,rfl,yAD _,heap_alloc_new w _,yAi _,hnm,by simpa using hfl,?_⟩⟩
  rw [yBm (by simpa using yCh hfl)]
 have hin:In E (zkX D (.slice (some ⟨w.heap.size,0,none⟩) n n) (n*U.size un u)) (H++[.own (.slice (some ⟨w.heap.size,0,none⟩) n n) T (U.size un u) n (((parts.map fun p=>(p.1,a.eval p.2)).map (·.2)).map (·.cells.toList)).flatten]) (w.alloc (.cells (((parts.map fun p=>(p.1,a.eval p.2)).map (·.2)).map (·.cells.toList)).flatten.toArray T)):=by
  refine hs.inn.push hb ⟨hown,fun g hg=>by simp [Value.ownBlock] at hg;subst hg;exact .inl hs.inn.out.size⟩ (fun g hg=>by simp [Wl.Res.block,Value.ownBlock] at hg;omega) (fun k o hk=> ?_) (fun k o hk=> ?_) (fun g hg o hf hd=> ?_)
  ·rcases hk with hk | hk
   ·exact .inl hk
   ·exact .inr ⟨hk.1,by simp only [zoA];omega⟩
  ·rcases hk with hk | hk
   ·exact yAy (hs.inn.lt k o hk) hb.size
   ·exact (World.ownsRow.lt hown k hk.1).2
  ·simp [Wl.Res.block,Value.ownBlock] at hg
   simp only [zoA] at hf
   rcases hd with hd | hd
   ·have:=hs.inn.lt g o hd;omega
   ·omega
 have hge:Ge D w (zkX D (.slice (some ⟨w.heap.size,0,none⟩) n n) (n*U.size un u)) (w.alloc (.cells (((parts.map fun p=>(p.1,a.eval p.2)).map (·.2)).map (·.cells.toList)).flatten.toArray T)):=⟨fun _ _ h=> .inl h,fun k o hk=>World.cell?_of_block (hb.block k (hs.inn.lt k o hk))⟩
 refine ⟨_,_,hs.step hin ?_ (fun i q hi=>(hs.slots i q hi).ge hge (zcD H _)) hd ?_,zhb hD (fun g hg=>by simp [Value.ownBlock] at hg;subst hg;exact .inl hs.inn.out.size),hG.trans hge⟩
 ·refine (hs.boxes.mono hge (zaA hs.inn.out hin.out) (zcD H _)).push ?_
  simp only [BoxRep]
  exact ⟨trivial,trivial,hxn.symm,fun g hg o ho=> .inr ⟨hg,ho⟩,fun i x hi=>(g3 i x hi).mono hge⟩
 ·simp only [Rep]
  refine ⟨?_,rfl,rfl⟩
  rw [hs.boxes.length,zgz];rfl
theorem zei (g:Nat) (T:TypeId):∀(vs cs:List Value) (off:Nat) (w:World),w.heap[g]? =some (.cells cs.toArray T (0,0)) →
  (w.setCells g off vs).heap[g]? =some (.cells (za1.spliceV cs off vs).toArray T (0,0))∧w.grownBy (w.setCells g off vs) (some g)
 | [],cs,off,w,h=>⟨h,World.grownBy.refl w _⟩
 | v::r,cs,off,w,h=>by
   have h1:(w.setCell ⟨g,off,none⟩ v).heap[g]? =some (.cells (cs.set off v).toArray T (0,0)):=by
    simp [World.setCell,yBx,h]
   have h2:w.grownBy (w.setCell ⟨g,off,none⟩ v) (some g) :=
    ⟨rfl,rfl,rfl,by simp [World.setCell],fun k _ hne=>Below.heap_setCell w _ v k (fun e=>hne (by rw [e]))⟩
   obtain ⟨i1,i2⟩:=zei g T r (cs.set off v) (off+1) _ h1
   refine ⟨i1,⟨i2.os.trans h2.os,i2.tape.trans h2.tape,i2.output.trans h2.output,yAk h2.size i2.size,fun k hk hne=>(i2.block k (yAy hk h2.size) hne).trans (h2.block k hk hne)⟩⟩
theorem zqK (hun:UniOk un) {t:TypeId} {row:TyRow S} (hrow:RowOk P un t row) {b off:Nat} {T:TypeId} {cs:List (PV S)} {p:PV S} {v x:Value} (hs:St un E N D H e bx a w) (hg:zar bx b=some (.var T cs)) (hx:Rep un (ids H) D w (.ptr b off) x) (hv:Rep un (ids H) D w p v)
  (h1:(p.cells un).all PV.one=true) (h2:(p.cells un).length=row.n) (h3:off+row.n≤cs.length) {dst:Option Nat} (hd:∀d,dst=some d→d<N.n) :
  ∃w' H',(Instr.storeAt t x v).run P w= .ok () w'∧St un E N D H' (push dst zbb e) (zb1 bx b (.var T (splice cs off (p.cells un)))) (a.put dst undef) w'∧Ge D w D w':=by
 obtain ⟨r,hr1,hr2⟩:=hs.boxes.get hg
 have hh:=hs.inn.res _ (yAc hr1)
 cases r with
 | own=>simp [BoxRep] at hr2
 | ref=>simp [BoxRep] at hr2
 | wr=>simp [BoxRep] at hr2
 | fix v0 g size ob =>
   simp only [Rep,ids,yAh,hr1,yAg,zap,yAf,Prod.mk.injEq,true_and] at hx
   obtain ⟨g',hg',rfl⟩:=hx
   subst hg'
   exact absurd hh.1 (zdM _)
 | box g T' vs =>
   simp only [BoxRep] at hr2
   obtain ⟨rfl,hl⟩:=hr2
   simp only [Rep,ids,yAh,hr1,yAg,zap,yAf,Prod.mk.injEq,true_and] at hx
   obtain ⟨g',hg',rfl⟩:=hx
   simp at hg'
   subst hg'
   obtain ⟨c1,c2⟩:=zfZ hun.flat h1 hv
   have hcl:=c1.length
   have hvl:=hl.length
   have hvs:v.cells.size=row.n:=by rw [←h2,hcl];simp
   obtain ⟨k1,k2⟩:=zei g T' v.cells.toList vs off w hh.2
   have hrun:(Instr.storeAt t (.pointer (some ⟨g,off,none⟩)) v).run P w= .ok () (w.setCells g off v.cells.toList):=by
    have:=run_storeAt_mid (P:=P) w g off t v.cells (fun j hj=>⟨by rw [cell_of_row w g _ _ _ _ hh.2];simp;omega,by simp [World.frozen?,hh.2]⟩) (by rw [hrow.size,hvs]) (by rw [Array.all_eq_true];intro i hi;exact c2 _ (by simp))
    rw [←this]
    rfl
   have hin:In E D (H.set b (.box g T' (za1.spliceV vs off v.cells.toList))) (w.setCells g off v.cells.toList):=by
    refine hs.inn.turn hr1 k2 ⟨hh.1,k1⟩ (fun _ hk=> .inl hk) (fun k o hk=> .inl hk) (fun k o hk=>yAy (hs.inn.lt k o hk) k2.size) (fun g2 hg2 o _ hk=> ?_) (fun _=>⟨rfl,rfl,.inl rfl⟩)
    exact hs.inn.apart _ (yAc hr1) g2 hg2 o trivial hk
   have hge:Ge D w D (w.setCells g off v.cells.toList):=⟨fun _ _ h=>h,fun k o hk=>by
    refine World.cell?_of_block (k2.block k (hs.inn.lt k o hk) fun h=> ?_)
    simp at h;subst h
    exact hs.inn.apart _ (yAc hr1) k rfl o trivial hk⟩
   have hids:ids (H.set b (.box g T' (za1.spliceV vs off v.cells.toList)))=ids H:=zaR hr1 rfl
   refine ⟨_,_,hrun,hs.step hin ?_ (fun i q hi=> ?_) hd ?_,hge⟩
   ·rw [hids]
    refine (hs.boxes.mono hge (zaA hs.inn.out hin.out) fun _ _ h=>h).set ?_
    simp only [BoxRep]
    exact ⟨trivial,(hl.splice off c1).ge hge fun _ _ h=>h⟩
   ·rw [hids];exact (hs.slots i q hi).ge hge fun _ _ h=>h
   ·simp only [zbb,Rep];exact ⟨[],rfl,by simp [RepL]⟩
theorem zlq {nu:Nu}:∀{ps:List (PV S)} {vs cs:List Value},zcP ps=some vs→RepL un nu D w ps cs→cs=vs
 | [],vs,cs,h,hr=>by simp only [zcP] at h;cases h;cases cs<;>simp_all [RepL]
 | .int k n::ps,vs,[],h,hr=>by simp [RepL] at hr
 | .int k n::ps,vs,c::cs,h,hr=>by
   simp only [zcP] at h
   split at h
   ·rename_i l hl
    cases h
    simp only [RepL,Rep] at hr
    rw [hr.1,zlq hl hr.2]
   ·cases h
 | .bool _::_,_,_,h,_=>by simp [zcP] at h
 | .str _::_,_,_,h,_=>by simp [zcP] at h
 | .sl _ _::_,_,_,h,_=>by simp [zcP] at h
 | .nils::_,_,_,h,_=>by simp [zcP] at h
 | .st _ _::_,_,_,h,_=>by simp [zcP] at h
 | .agg _::_,_,_,h,_=>by simp [zcP] at h
 | .tup _::_,_,_,h,_=>by simp [zcP] at h
 | .elp _ _ _::_,_,_,h,_=>by simp [zcP] at h
 | .ptr _ _::_,_,_,h,_=>by simp [zcP] at h
 | .nilp::_,_,_,h,_=>by simp [zcP] at h
 | .row _::_,_,_,h,_=>by simp [zcP] at h
 | .func _ _ _::_,_,_,h,_=>by simp [zcP] at h
 | .nilFunc::_,_,_,h,_=>by simp [zcP] at h
 | .iface _ _::_,_,_,h,_=>by simp [zcP] at h
 | .nilIface::_,_,_,h,_=>by simp [zcP] at h
 | .junk::_,_,_,h,_=>by simp [zcP] at h
 | .ref _::_,_,_,h,_=>by simp [zcP] at h
 | .elr _ _ _ _::_,_,_,h,_=>by simp [zcP] at h
 | .cont _ _::_,_,_,h,_=>by simp [zcP] at h
theorem Ge.same (h:In E D H w) (hb:Below w.heap.size w w'):Ge D w D w':=⟨fun _ _ h=>h,fun k o hk=>World.cell?_of_block (hb.block k (h.lt k o hk))⟩
theorem Ge.alloc (h:In E D H w) (ob:Obj):Ge D w D (w.alloc ob):=Ge.same h ((Below.refl _ _).alloc (yAi _) _)
theorem zq3 (hun:UniOk un) (ht:TbOk P un tb) (hor:SoundO P un orc) (hin:SoundI P un inl) {K:PV S→Env S→Bxs S→Option R} {KX:Exit→Env S→Bxs S→Option R} (h:zdq un tb orc inl o e bx K KX=some r) (hd:∀d,o.dst=some d→d<N.n) (hs:Holds un E D0 N e bx a w)
  {next:Act→World→Prop} {Q:Exit→Act→World→Prop} (hk:∀p e' bx',K p e' bx'=some r→Pres [] e e'→PresB bx bx'→∀a' w',Holds un E D0 N (push o.dst p e') bx' a' w'→next a' w')
  (hx:∀x e' bx',KX x e' bx'=some r→Pres [] e e'→PresB bx bx'→∀a' w',Holds un E D0 N e' bx' a' w'→Q x a' w'):o.wp P a w next Q:=by
 have quiet:zfj un tb orc inl o e bx (fun p=>K p e bx)=some r→o.wp P a w next Q:=fun h=>by
  obtain ⟨p,h1,h2⟩:=zcU hun ht hor hin h
  exact zbx h2 hd hs fun a' w' h3=>hk p e bx h1 (Pres.refl _ _) (PresB.refl _) a' w' h3
 unfold zdq at h
 split at h
 ·-- alloc
  rename_i T ho
  split at h
  ·rename_i row hrow
   obtain ⟨D,H,hs,hD,hG⟩:=hs
   obtain ⟨z,g1,g2,g3⟩:=(ht.ty T row hrow).zero
   obtain ⟨H',h2⟩:=hs.newBox T (cs:=row.zero) (vs:=z.cells.toList) (by rw [g3];exact zeK _) hd
   unfold Oper.wp
   cases hi:P.info? T with
   | none=>rw [hi] at g1;cases g1
   | some i =>
     rw [hi] at g1
     simp only [yAs] at g1
     have:(execOp a.eval o).run P w= .ok (.value (.pointer (some ⟨w.heap.size,0,none⟩))) (w.alloc (.cells z.cells T)):=by
      simp [execOp,ho,Instr.alloc,zeroValue,typeInfo,hi,g1,zgl]
     rw [this]
     exact hk _ _ _ h (Pres.refl _ _) (PresB.append _ _) _ _ ⟨D,H',by simpa using h2,hD,hG.trans (by simpa using Ge.alloc hs.inn _)⟩
  ·cases h
 ·-- box
  rename_i T x ho
  split at h
  ·rename_i p row hx hrow
   obtain ⟨h1,h2⟩:=zag h
   simp only [yAd] at h1
   obtain ⟨D,H,hs,hD,hG⟩:=hs
   obtain ⟨c1,c2⟩:=zfZ hun.flat h1.1 (hs.ev hx)
   obtain ⟨H',h3⟩:=hs.newBox T c1 hd
   unfold Oper.wp
   have:(execOp a.eval o).run P w= .ok (.value (.pointer (some ⟨w.heap.size,0,none⟩))) (w.alloc (.cells (a.eval x).cells T)):=by
    simp [execOp,ho,Instr.box,zgl]
   rw [this]
   exact hk _ _ _ h2 (Pres.refl _ _) (PresB.append _ _) _ _ ⟨D,H',by simpa using h3,hD,hG.trans (by simpa using Ge.alloc hs.inn _)⟩
  ·cases h
 ·-- store
  rename_i t x y ho
  split at h
  ·rename_i b off p row hx hy hrow
   split at h
   ·rename_i T cs hg
    obtain ⟨h1,h2⟩:=zag h
    simp only [yAd,yAR] at h1
    obtain ⟨D,H,hs,hD,hG⟩:=hs
    obtain ⟨w',H',hrun,hst,hge⟩:=zqK (P:=P) hun (ht.ty t row hrow) hs hg (hs.ev hx) (hs.ev hy) h1.1.1 (yAa h1.1.2) h1.2 hd
    unfold Oper.wp
    have:(execOp a.eval o).run P w= .ok .skip w':=by simp [execOp,ho,hrun]
    rw [this]
    exact hk _ _ _ h2 (Pres.refl _ _) (PresB.set hg rfl fun T' cs' he=>by cases he;exact ⟨_,rfl,zfC _ _ _⟩) _ _ ⟨D,H',hst,hD,hG.trans hge⟩
   ·cases h
  ·cases h
 ·-- buildSlice
  rename_i t n parts ho
  split at h
  ·rename_i l T u hp hel
   cases hrow:tb.ty.get t with
   | none=>rw [hrow] at hel;cases hel
   | some row =>
     rw [hrow] at hel
     simp only [yAs] at hel
     have hrw:=ht.ty t row hrow
     obtain ⟨T',u',g1,g2,g3⟩:=hrw.slice (hrw.elem T u hel)
     rw [hel] at g1
     simp at g1
     obtain ⟨rfl,rfl⟩:=g1
     obtain ⟨h1,h2⟩:=zag h
     simp only [yAd,yAR] at h1
     split at h2
     ·rename_i xs hxs
      obtain ⟨D,H,hs,hD,hG⟩:=hs
      obtain ⟨v',w',hrun,hst⟩:=zko (P:=P) hun g2 g3 hs hp h1.1.2 (yAa h1.1.1) h1.2 hxs hD hG hd
      unfold Oper.wp
      have hmap:(parts.map fun (x:Nat×Operand)=>match x with | (i,x)=>(i,a.eval x))=(parts.toList.map fun p=>(p.1,a.eval p.2)).toArray:=by cases parts;simp
      have:(execOp a.eval o).run P w= .ok (.value v') w':=by simp [execOp,ho,hmap,hrun]
      rw [this]
      exact hk _ _ _ h2 (Pres.refl _ _) (PresB.append _ _) _ _ hst
     ·cases h2
  ·cases h
 ·-- call
  rename_i c ho
  split at h
  ·-- append
   rename_i hc
   split at h
   ·rename_i s x t hargs htw
    split at h
    ·cases h
    ·rename_i T u hel
     cases hrow:tb.ty.get t with
     | none=>rw [hrow] at hel;cases hel
     | some row =>
       rw [hrow] at hel
       simp only [yAs] at hel
       have hrw:=ht.ty t row hrow
       obtain ⟨T',u',g1,g2,g3⟩:=hrw.slice (hrw.elem T u hel)
       rw [hel] at g1
       simp at g1
       obtain ⟨rfl,rfl⟩:=g1
       split at h
       ·rename_i new hnew
        obtain ⟨D,H,hs,hD,hG⟩:=hs
        obtain ⟨args,hca⟩:∃args:List Operand,c.args=⟨args⟩:=⟨c.args.toList,by cases c.args;rfl⟩
        have hr:=hs.evs hargs
        rw [hca] at hr
        have hat:c.argTypes= #[t,t]:=by
         obtain ⟨tl,htl⟩:∃l:List Nat,c.argTypes=⟨l⟩:=⟨c.argTypes.toList,by cases c.argTypes;rfl⟩
         rw [htl] at htw ⊢
         rcases tl with _ | ⟨x1,_ | ⟨x2,_ | ⟨x3,_⟩⟩⟩<;>simp [ze8] at htw
         obtain ⟨q1,q2⟩:=zag htw
         cases q2
         rw [yAa q1]
        rcases args with _ | ⟨s0,_ | ⟨x0,_ | ⟨_,_⟩⟩⟩<;>simp only [yAn,List.map_nil,RepL,and_true,and_false] at hr
        have hx:Rep un (ids H) D w (.sl u new) (a.eval x0):=by
         have:=(zcc hun (un:=un) hnew (hs.fz1 hun hr.2)).2
         simpa only [inj] using this
        have hrunE:∀v' w',(Builtin.append_ #[t,t] o.type #[a.eval s0,a.eval x0]).run P w= .ok v' w'→(execOp a.eval o).run P w= .ok (.value v') w':=by
         intro v' w' hrun
         simp [execOp,ho,resolve,hc,hca,hat,invoke,builtin,hrun]
        split at h
        ·-- nil
         have hs0:=hr.1
         simp only [Rep] at hs0
         obtain ⟨l,h1,h2⟩:=zaK h
         obtain ⟨h3,rfl⟩:=zcx h1
         obtain ⟨v',w',hrun,hst⟩:=zmA (P:=P) (ty:=o.type) hun g2 g3 hs hx (by simpa using h3) hD hG hd
         rw [←hs0] at hrun
         unfold Oper.wp
         rw [hrunE v' w' hrun]
         exact hk _ _ _ h2 (Pres.refl _ _) (PresB.append _ _) _ _ hst
        ·rename_i b
         split at h
         ·rename_i v0 T' old hg
          split at h
          ·rename_i heq _
           subst heq
           obtain ⟨h1,h2⟩:=zag h
           have hTT:=yAa h1
           subst hTT
           obtain ⟨l,h3,h4⟩:=zaK h2
           obtain ⟨h5,rfl⟩:=zcx h3
           obtain ⟨v',w',hrun,hst⟩:=zoP (P:=P) (ty:=o.type) hun g2 g3 hs hg hr.1 hx h5 hD hG hd
           unfold Oper.wp
           rw [hrunE v' w' hrun]
           exact hk _ _ _ h4 (Pres.kill _ _ _) ((PresB.kill b _ bx).trans (PresB.set (b:=(Box.own _ _ _)) (by rw [zbH,hg];rfl) rfl fun T' cs' he=>by cases he)) _ _ hst
          ·cases h
         ·cases h
        ·cases h
       ·cases h
   ·cases h
  ·-- a call
   split at h
   ·rename_i f l hen
    split at h
    ·rename_i us ts lc rs ps pan hsig
     exact zr3 hun hen ho (ht.eff f us ts lc rs ps pan hsig) (zfO _ _).1 (zjG _ _) h (fun t ht D H a w gs hs hb vs hr=>zii hun hs hb ht hr) (fun t c r hr=>hor.e f t ts lc c rs ps pan r hr) hd hs hk hx
    ·rename_i fn an ts lc rs ps pan hsig
     obtain ⟨hfn,hen2⟩:=ht.effI f fn an ts lc rs ps pan hsig
     exact zr3 hun hen ho hen2 (zfO _ _).1 (zjG _ _) h (fun t ht D H a w gs hs hb vs hr=>zfJ hun hs hb _ _ _ ht hr) (fun t c r hr=>hin.e fn an t ts lc c rs ps pan r f hr hfn) hd hs hk hx
    ·exact quiet h
   ·cases h
  ·exact quiet h
 ·-- panic
  rename_i x ho
  split at h
  ·rename_i T l hxx
   split at h
   ·rename_i vs hvs
    obtain ⟨D,H,hs,hD,hG⟩:=hs
    have h1:=hs.ev hxx
    simp only [Rep] at h1
    obtain ⟨y,h2,cs,h3,h4⟩:=h1
    have hcs:cs=vs:=zlq hvs h4
    subst hcs
    unfold Oper.wp
    have:(execOp a.eval o).run P w= .halt (.panic (.iface T (.agg cs.toArray))) w:=by simp [execOp,ho,h2,h3,Instr.panic,goPanic]
    rw [this]
    exact hx _ _ _ h (Pres.refl _ _) (PresB.refl _) _ _ ⟨D,H,hs,hD,hG⟩
   ·cases h
  ·cases h
 ·exact quiet h
end
end Pe
end
section
/- Cells of boxes; rows that are told anew. -/
namespace Pe
open Go Go.RowKit
variable {S:Nat→Type}
section
variable {P:Program} {un:Uni S} {E E':Wl.Ctx} {D0:Dat} {N:Wl.Fr} {D D':Dat} {H:List Wl.Res} {e:Env S} {bx:Bxs S} {a:Act} {w w':World}
theorem zhy (hs:St un E N D H e bx a w):∀{l:List (Nat×CTy)} {ps:List (PV S)},zgh e l=some ps→RepL un (ids H) D w ps (l.map fun p=>a.tmps.getD p.1 undef)
 | [],ps,h=>by simp [zgh] at h;subst h;simp [RepL]
 | (i,t)::l,ps,h=>by
   unfold zgh at h
   split at h
   ·rename_i p ps' h1 h2
    cases h
    simp only [yAn,RepL]
    exact ⟨hs.slots i p h1,zhy hs h2⟩
   ·cases h
def zje:Wl.Res→List Value
 | .box _ _ vs=>vs
 | .fix v _ size ob=>[Wl.fixV v size ob]
 | _=>[]
def zbO (H:List Wl.Res) (i:Nat):List Value:=match H[i]? with
 | some r=>zje r
 | none=>[]
def zcr (H:List Wl.Res):List (Nat×List CTy)→List Value
 | []=>[]
 | (i,_)::r=>zbO H i++zcr H r
theorem zf4 {nu:Nu} {T:TypeId} {cs:List (PV S)} {r:Wl.Res} (h:BoxRep un nu D w E false (.var T cs) r):zaM r=true∧RepL un nu D w cs (zje r)∧∀g T' vs,r= .box g T' vs→T'=T:=by
 cases r with
 | box g T' vs=>simp only [BoxRep] at h;exact ⟨rfl,h.2,fun _ _ _ he=>by cases he;exact h.1⟩
 | fix v g size ob=>simp only [BoxRep] at h;exact ⟨rfl,h,fun _ _ _ he=>by cases he⟩
 | _=>simp [BoxRep] at h
theorem ziL {nu nu':Nu} {T:TypeId} {cs cs':List (PV S)} {r:Wl.Res} (h:BoxRep un nu D w E false (.var T cs) r) (h':RepL un nu' D' w' cs' (zje r)):BoxRep un nu' D' w' E' false (.var T cs') r:=by
 cases r with
 | box g T' vs=>simp only [BoxRep] at h ⊢;exact ⟨h.1,h'⟩
 | fix v g size ob=>simp only [BoxRep];exact h'
 | _=>simp [BoxRep] at h
theorem zbA {nu:Nu} (hb:BxRep un nu D w E bx H) {i:Nat} {T:TypeId} {cs:List (PV S)} (h:zar bx i=some (.var T cs)):∃r,H[i]? =some r∧zaM r=true∧zbO H i=zje r∧RepL un nu D w cs (zje r)∧BoxRep un nu D w E false (.var T cs) r:=by
 obtain ⟨r,h1,h2⟩:=hb.get h
 obtain ⟨h3,h4,_⟩:=zf4 h2
 exact ⟨r,h1,h3,by simp [zbO,h1],h4,h2⟩
theorem zeF {nu:Nu} (hb:BxRep un nu D w E bx H):∀{l:List (Nat×List CTy)} {ps:List (PV S)},zcC bx l=some ps→RepL un nu D w ps (zcr H l)∧∀i ts,(i,ts)∈l→(∃T cs,zar bx i=some (.var T cs))∧(zbO H i).length=ts.length
 | [],ps,h=>by simp [zcC] at h;subst h;simp [RepL,zcr]
 | (i,ts)::l,ps,h=>by
   unfold zcC at h
   split at h
   ·rename_i T cs ps' h1 h2
    obtain ⟨h3,h4⟩:=zag h
    cases h4
    obtain ⟨r,g1,_,g2,g3,_⟩:=zbA hb h1
    obtain ⟨g4,g5⟩:=zeF hb h2
    refine ⟨by simp only [zcr];exact (g2▸g3).append g4,fun j ts' hj=> ?_⟩
    rcases yAj.1 hj with hj | hj
    ·cases hj
     exact ⟨⟨T,cs,h1⟩,by rw [g2,←g3.length];exact yAa h3⟩
    ·exact g5 j ts' hj
   ·cases h
def zd9:Box S→Bool
 | .own _ _ _=>true
 | .wr _ _ _=>true
 | _=>false
def znr:Wl.Res→Bool
 | .own _ _ _ _ _=>true
 | .wr _ _ _ _ _=>true
 | _=>false
def zd3 (H:List Wl.Res):List (Option Nat)→List Wl.Res→Prop
 | [],[]=>True
 | some b::bs,r::rs=>znr r=true∧H[b]? =some r∧zd3 H bs rs
 | none::bs,r::rs=>(∃T size,r= .own (.slice none 0 0) T size 0 []∨r= .wr (.slice none 0 0) T size 0 [])∧zd3 H bs rs
 | _,_=>False
theorem zgF {t:CTy} {ts:List CTy} {p:PV S} {ps:List (PV S)} {x:ElL S ((t::ts).map CTy.code)} (h:zoI un bx (t::ts) (p::ps)=some x):∃(y:El S t.code) (t':ElL S (ts.map CTy.code)),Pe.cast un t.code (fzC bx t p)=some y∧zoI un bx ts ps=some t'∧x=(y,t'):=by
 unfold zoI at h
 split at h
 ·rename_i x t' h1 h2;cases h;exact ⟨x,t',h1,h2,rfl⟩
 ·cases h
theorem zrS {b:Nat} {v:Value} {r:Wl.Res} (hr1:H[b]? =some r) (hv:Rep un (ids H) D w (.row b) v):zap r=(false,v)∧v.oneCell'=true∧v.cells= #[v]:=by
 simp only [Rep,ids,yAh,hr1,yAg,yAf] at hv
 exact hv
theorem zdo (hun:UniOk un) (hs:St un E N D H e bx a w):∀(ts:List CTy) (ps:List (PV S)) (vs:List Value) (seen:List Nat) (t:ElL S (ts.map CTy.code)) (n:Nat),zbn bx ts ps seen=true→zoI un bx ts ps=some t→RepL un (ids H) D w ps vs →
  ∃(bs:List (Option Nat)) (rs:List Wl.Res),zd3 H bs rs∧(∀b,some b∈bs→b∉seen∧∃x,zar bx b=some x∧zd9 x=true)∧(bs.filterMap id).Nodup∧(∀(nu':Nu) (E':Wl.Ctx),BxRep un nu' D w E' (zcB ts t) rs) ∧
   (∀nu':Nu,((∀i r,rs[i]? =some r→nu'[n+i]? =some (zap r))→RepL un nu' D w (zdH ts t n) vs))∧zdB bx ts ps=(bs.filterMap id).map fun b=>(b,match zar bx b with | some (.own _ _ _)=>Pe.fz1 bx (.row b) | _=> .junk)
 | [],[],[],_,_,_,_,_,_=>⟨[],[],by simp [zd3],by simp,by simp,fun nu' E'=>by simp [zcB,BxRep],fun nu' _=>by simp [zdH,RepL],rfl⟩
 | .fr u::ts,p::ps,v::vs,seen,t,n,ho,hc,hr=>by
   simp only [RepL] at hr
   simp only [zbn] at ho
   obtain ⟨x,t',h1,h2,rfl⟩:=zgF (t:= .fr u) (ts:=ts) hc
   have h1:Pe.cast un u (Pe.fz bx p)=some x:=h1
   obtain ⟨bs,rs,g1,g2,g3,g4,g5,g6⟩:=zdo hun hs ts ps vs seen t' n ho h2 hr.2
   refine ⟨bs,rs,g1,g2,g3,g4,fun nu' hn=> ?_,by simpa only [zdB] using g6⟩
   simp only [zdH,RepL]
   exact ⟨zdy (zcc hun h1 (hs.fz hun hr.1)).2,g5 nu' hn⟩
 | .own u T::ts,p::ps,v::vs,seen,t,n,ho,hc,hr=>by
   simp only [RepL] at hr
   obtain ⟨x,t',h1,h2,rfl⟩:=zgF (t:= .own u T) (ts:=ts) hc
   have h1:Pe.cast un (.sl u) (Pe.fz bx p)=some x:=h1
   cases p with
   | row b =>
     simp only [zbn,yAd,yBf] at ho
     obtain ⟨⟨o1,o2⟩,o3⟩:=ho
     cases hg:zar bx b with
     | none=>rw [hg] at o1;simp at o1
     | some box =>
       rw [hg] at o1
       cases box with
       | own u0 T0 l0 =>
         simp only at o1
         have hT:T=T0:=yAa o1
         subst hT
         obtain ⟨r,hr1,hr2⟩:=hs.boxes.get hg
         have hu:u0=u∧HEq l0 x:=by
          have h1':=h1
          simp only [Pe.fz,Pe.fz1,hg,yAg,Box.base,Pe.cast,Pe.cast0] at h1'
          split at h1'
          ·rename_i heq _;subst heq;cases h1';exact ⟨rfl,HEq.rfl⟩
          ·cases h1'
         obtain ⟨rfl,hl⟩:=hu
         have hl:=eq_of_heq hl
         subst hl
         cases r with
         | own v0 T' size m xs =>
           obtain ⟨bs,rs,g1,g2,g3,g4,g5,g6⟩:=zdo hun hs ts ps vs (b::seen) t' (n+1) o3 h2 hr.2
           obtain ⟨hv0,hvv⟩:=zrS hr1 hr.1
           simp only [zap,Prod.mk.injEq,true_and] at hv0
           refine ⟨some b::bs,.own v0 T' size m xs::rs,?_,?_,?_,fun nu' E'=> ?_,fun nu' hn=> ?_,?_⟩
           ·simp only [zd3];exact ⟨rfl,hr1,g1⟩
           ·intro b' hb'
            rcases yAj.1 hb' with hb' | hb'
            ·cases hb';exact ⟨by simpa using o2,_,hg,rfl⟩
            ·obtain ⟨k1,k2⟩:=g2 b' hb'
             exact ⟨fun hk=>k1 (by simp [hk]),k2⟩
           ·simp only [yAC,id]
            refine yBg.2 ⟨fun hk=> ?_,g3⟩
            obtain ⟨y,hy,hyb⟩:=yAY.1 hk
            simp only [id] at hyb;subst hyb
            exact (g2 b hy).1 (by simp)
           ·simp only [zcB,BxRep]
            refine ⟨?_,g4 nu' E'⟩
            simp only [BoxRep] at hr2 ⊢
            exact hr2
           ·simp only [zdH,RepL,Rep]
            refine ⟨⟨?_,hvv⟩,g5 nu' fun i r hi=> ?_⟩
            ·have:=hn 0 _ rfl;simp [zap] at this;rw [this,hv0]
            ·have:=hn (i+1) r (by simpa using hi)
             rwa [show n+(i+1)=n+1+i by omega] at this
           ·simp only [zdB,yAC,id,yAn,hg];rw [g6]
         | _=>simp [BoxRep] at hr2
       | _=>simp at o1
   | nils =>
     simp only [zbn] at ho
     obtain ⟨bs,rs,g1,g2,g3,g4,g5,g6⟩:=zdo hun hs ts ps vs seen t' (n+1) ho h2 hr.2
     have hv:=hr.1
     simp only [Rep] at hv
     have hx0:x=([]:List (El S u)):=by
      simp only [Pe.fz,Pe.fz1,Pe.cast,Pe.cast0] at h1
      exact (yAB h1).symm
     subst hx0
     refine ⟨none::bs,.own (.slice none 0 0) T (U.size un u) 0 []::rs,?_,?_,by simpa using g3,fun nu' E'=> ?_,fun nu' hn=> ?_,by simpa only [zdB,yAC,id] using g6⟩
     ·simp only [zd3];exact ⟨⟨_,_,.inl rfl⟩,g1⟩
     ·intro b' hb'
      rcases yAj.1 hb' with hb' | hb'
      ·cases hb'
      ·exact g2 b' hb'
     ·simp only [zcB,BxRep]
      refine ⟨?_,g4 nu' E'⟩
      simp only [BoxRep]
      exact ⟨trivial,trivial,rfl,fun g hg=>by simp [Value.ownBlock] at hg,fun i y hi=>by simp at hi⟩
     ·simp only [zdH,RepL,Rep]
      refine ⟨⟨?_,?_⟩,g5 nu' fun i r hi=> ?_⟩
      ·have:=hn 0 _ rfl;simp [zap] at this;rw [this,hv]
      ·rw [hv];exact ⟨rfl,rfl⟩
      ·have:=hn (i+1) r (by simpa using hi)
       rwa [show n+(i+1)=n+1+i by omega] at this
   | _=>simp [zbn] at ho
 | .wr u T::ts,p::ps,v::vs,seen,t,n,ho,hc,hr=>by
   simp only [RepL] at hr
   obtain ⟨x,t',h1,h2,rfl⟩:=zgF (t:= .wr u T) (ts:=ts) hc
   have h1:Pe.cast un (.sl u) (Pe.fzC bx (.wr u T) p)=some x:=h1
   cases p with
   | row b =>
     simp only [zbn,yAd,yBf] at ho
     obtain ⟨⟨o1,o2⟩,o3⟩:=ho
     cases hg:zar bx b with
     | none=>rw [hg] at o1;simp at o1
     | some box =>
       rw [hg] at o1
       cases box with
       | wr u0 T0 l0 =>
         simp only at o1
         have hT:T=T0:=yAa o1
         subst hT
         obtain ⟨r,hr1,hr2⟩:=hs.boxes.get hg
         have hu:u0=u∧HEq l0 x:=by
          have h1':=h1
          simp only [Pe.fzC,hg,Pe.cast,Pe.cast0] at h1'
          split at h1'
          ·rename_i heq _;subst heq;cases h1';exact ⟨rfl,HEq.rfl⟩
          ·cases h1'
         obtain ⟨rfl,hl⟩:=hu
         have hl:=eq_of_heq hl
         subst hl
         cases r with
         | wr v0 T' size m xs =>
           obtain ⟨bs,rs,g1,g2,g3,g4,g5,g6⟩:=zdo hun hs ts ps vs (b::seen) t' (n+1) o3 h2 hr.2
           obtain ⟨hv0,hvv⟩:=zrS hr1 hr.1
           simp only [zap,Prod.mk.injEq,true_and] at hv0
           refine ⟨some b::bs,.wr v0 T' size m xs::rs,?_,?_,?_,fun nu' E'=> ?_,fun nu' hn=> ?_,?_⟩
           ·simp only [zd3];exact ⟨rfl,hr1,g1⟩
           ·intro b' hb'
            rcases yAj.1 hb' with hb' | hb'
            ·cases hb';exact ⟨by simpa using o2,_,hg,rfl⟩
            ·obtain ⟨k1,k2⟩:=g2 b' hb'
             exact ⟨fun hk=>k1 (by simp [hk]),k2⟩
           ·simp only [yAC,id]
            refine yBg.2 ⟨fun hk=> ?_,g3⟩
            obtain ⟨y,hy,hyb⟩:=yAY.1 hk
            simp only [id] at hyb;subst hyb
            exact (g2 b hy).1 (by simp)
           ·simp only [zcB,BxRep]
            refine ⟨?_,g4 nu' E'⟩
            simp only [BoxRep] at hr2 ⊢
            exact hr2
           ·simp only [zdH,RepL,Rep]
            refine ⟨⟨?_,hvv⟩,g5 nu' fun i r hi=> ?_⟩
            ·have:=hn 0 _ rfl;simp [zap] at this;rw [this,hv0]
            ·have:=hn (i+1) r (by simpa using hi)
             rwa [show n+(i+1)=n+1+i by omega] at this
           ·simp only [zdB,yAC,id,yAn,hg];rw [g6]
         | _=>simp [BoxRep] at hr2
       | _=>simp at o1
   | nils =>
     simp only [zbn] at ho
     obtain ⟨bs,rs,g1,g2,g3,g4,g5,g6⟩:=zdo hun hs ts ps vs seen t' (n+1) ho h2 hr.2
     have hv:=hr.1
     simp only [Rep] at hv
     have hx0:x=([]:List (El S u)):=by
      simp only [Pe.fzC,Pe.cast,Pe.cast0] at h1
      exact (yAB h1).symm
     subst hx0
     refine ⟨none::bs,.wr (.slice none 0 0) T (U.size un u) 0 []::rs,?_,?_,by simpa using g3,fun nu' E'=> ?_,fun nu' hn=> ?_,by simpa only [zdB,yAC,id] using g6⟩
     ·simp only [zd3];exact ⟨⟨_,_,.inr rfl⟩,g1⟩
     ·intro b' hb'
      rcases yAj.1 hb' with hb' | hb'
      ·cases hb'
      ·exact g2 b' hb'
     ·simp only [zcB,BxRep]
      refine ⟨?_,g4 nu' E'⟩
      simp only [BoxRep]
      exact ⟨trivial,trivial,rfl,fun i y hi=>by simp at hi⟩
     ·simp only [zdH,RepL,Rep]
      refine ⟨⟨?_,?_⟩,g5 nu' fun i r hi=> ?_⟩
      ·have:=hn 0 _ rfl;simp [zap] at this;rw [this,hv]
      ·rw [hv];exact ⟨rfl,rfl⟩
      ·have:=hn (i+1) r (by simpa using hi)
       rwa [show n+(i+1)=n+1+i by omega] at this
   | _=>simp [zbn] at ho
 | [],_::_,_,_,_,_,ho,_,_=>by simp [zbn] at ho
 | .fr _::_,[],_,_,_,_,ho,_,_=>by simp [zbn] at ho
 | .own _ _::_,[],_,_,_,_,ho,_,_=>by simp [zbn] at ho
 | .wr _ _::_,[],_,_,_,_,ho,_,_=>by simp [zbn] at ho
 | [],[],_::_,_,_,_,_,_,hr=>by simp [RepL] at hr
 | _::_,_::_,[],_,_,_,_,_,hr=>by simp [RepL] at hr
theorem zdf:∀{bs:List (Option Nat)} {rs:List Wl.Res},zd3 H bs rs→∀(j:Nat) r,rs[j]? =some r→(∃b,bs[j]? =some (some b)∧H[b]? =some r∧znr r=true)∨(bs[j]? =some none∧∃T size,r= .own (.slice none 0 0) T size 0 []∨r= .wr (.slice none 0 0) T size 0 [])
 | [],[],_,j,r,h=>by simp at h
 | some b::bs,s::rs,hc,0,r,h=>by simp only [zd3] at hc;simp at h;subst h;exact .inl ⟨b,rfl,hc.2.1,hc.1⟩
 | some b::bs,s::rs,hc,j+1,r,h=>by simp only [zd3] at hc;simpa using zdf hc.2.2 j r (by simpa using h)
 | none::bs,s::rs,hc,0,r,h=>by simp only [zd3] at hc;simp at h;subst h;exact .inr ⟨rfl,hc.1⟩
 | none::bs,s::rs,hc,j+1,r,h=>by simp only [zd3] at hc;simpa using zdf hc.2 j r (by simpa using h)
 | [],_::_,hc,_,_,_=>by simp [zd3] at hc
 | some _::_,[],hc,_,_,_=>by simp [zd3] at hc
 | none::_,[],hc,_,_,_=>by simp [zd3] at hc
theorem zfP:∀{bs:List (Option Nat)},(bs.filterMap id).Nodup→∀(j j':Nat) b,bs[j]? =some (some b)→bs[j']? =some (some b)→j=j'
 | [],_,j,_,_,h,_=>by simp at h
 | x::bs,hn,0,0,_,_,_=>rfl
 | x::bs,hn,0,j'+1,b,h,h'=>by
   simp at h;subst h
   simp only [yAC,id] at hn
   exact absurd (yAY.2 ⟨some b,yAc (show bs[j']? =some (some b) by simpa using h'),rfl⟩:b∈bs.filterMap id) (yBg.1 hn).1
 | x::bs,hn,j+1,0,b,h,h'=>by
   simp at h';subst h'
   simp only [yAC,id] at hn
   exact absurd (yAY.2 ⟨some b,yAc (show bs[j]? =some (some b) by simpa using h),rfl⟩:b∈bs.filterMap id) (yBg.1 hn).1
 | x::bs,hn,j+1,j'+1,b,h,h'=>by
   have hn':(bs.filterMap id).Nodup:=by
    cases x with
    | none=>simpa using hn
    | some y=>simp only [yAC,id] at hn;exact (yBg.1 hn).2
   rw [zfP hn' j j' b (by simpa using h) (by simpa using h')]
end
end Pe
end
