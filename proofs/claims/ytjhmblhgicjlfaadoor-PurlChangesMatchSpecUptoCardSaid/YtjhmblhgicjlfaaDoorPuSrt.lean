/- The stable sort of the qualifiers puts them in order by their names. -/
import Derived.Sort.Walk0
import Derived.Test.YtjhmblhgicjlfaaDoorPuB
import Derived.Test.YtjhmblhgicjlfaaDoorPeE
set_option maxRecDepth 100000
namespace Pe
def Giv {α:Type} (y:Option α) (Φ:α→Prop):Prop:=∃r,y=some r∧Φ r
section
variable {α β σ R:Type} {Φ:α→Prop} {Ψ:R→Prop}
theorem Giv.mk {a:α} (h:Φ a):Giv (some a) Φ:=⟨a,rfl,h⟩
theorem Giv.ob {y:Option α} {f:α→Option R} (h:Giv y Φ) (k:∀a,Φ a→Giv (f a) Ψ):Giv (Pe.ob y f) Ψ:=by
 obtain ⟨a,rfl,h⟩:=h;exact k a h
theorem Giv.cut {y:Option (σ⊕R)} {Φ:σ⊕R→Prop} {g:σ→Option R} (h:Giv y Φ) (k:∀a,Φ a→Giv (cutM (some a) g) Ψ):Giv (cutM y g) Ψ:=by
 obtain ⟨a,rfl,h⟩:=h;exact k a h
theorem Giv.oc {y:Option (α⊕β)} {Φ:α⊕β→Prop} {f:α→Option R} {g:β→Option R} (h:Giv y Φ) (k:∀a,Φ a→Giv (Pe.oc (some a) f g) Ψ):Giv (Pe.oc y f g) Ψ:=by
 obtain ⟨a,rfl,h⟩:=h;exact k a h
theorem Giv.imp {y:Option R} {Φ:R→Prop} (h:Giv y Φ) (k:∀a,Φ a→Ψ a):Giv y Ψ:=by
 obtain ⟨a,e,h⟩:=h;exact ⟨a,e,k a h⟩
theorem same_one {α:Type} (x:Option α):same x x=x:=if_pos rfl
theorem idxN {α:Type} {l:List α} {k:Nat} (h:k<l.length):idx? l (k:Int)=some k:=by
 show (bif Nat.blt k l.length then some k else none)=some k
 rw [show Nat.blt k l.length=true by rw [Nat.blt_eq];exact h];rfl
theorem swap_two' (X M Y:List α) (p q:α):((X++p::(M++q::Y)).set (X.length+1+M.length) p).set X.length q=X++q::(M++p::Y):=by
 rw [List.set_comm _ _ (by omega)];exact swap_two X M Y p q
theorem get_two' (X Y:List α) (p q:α):(X++p::q::Y)[X.length+1]? =some q:=get_two X [] Y p q
theorem swap_next' (X Y:List α) (p q:α):((X++p::q::Y).set (X.length+1) p).set X.length q=X++q::p::Y:=swap_two' X [] Y p q
end
theorem wrapZ {x:Int} {n:Nat} (h:x=(n:Int)) (hn:n≤4000000000):Go.IntKind.i64.wrap x=(n:Int):=by
 subst h;exact wrap_id (by omega) (by omega)
theorem midI {i j:Nat} (h:i+j≤4000000000):Go.IntKind.i64.wrap (shrI .u64 (Go.IntKind.u64.wrap (Go.IntKind.i64.wrap ((i:Int)+(j:Int)))) 1)=(((i+j) / 2:Nat):Int):=by
 rw [show Go.IntKind.i64.wrap ((i:Int)+(j:Int))=((i+j:Nat):Int) from wrapZ (by omega) h]
 have e1:Go.IntKind.u64.wrap (((i+j:Nat):Int))=((i+j:Nat):Int):=by
  unfold Go.IntKind.wrap;simp [Go.IntKind.bits,Go.IntKind.signed];omega
 rw [e1]
 unfold shrI
 have e2:(2:Int) ^ (min (1:Int).toNat Go.IntKind.u64.bits)=2:=by decide
 rw [e2]
 exact wrapZ (by rw [Int.fdiv_eq_ediv_of_nonneg _ (by decide)];omega) (by omega)
end Pe
namespace Pe.Tryd
open Go Go.Proofs Pe
abbrev Q:=Gt.Pair
def cmpS (x y:List UInt8):Int:=bif Op.bytesLess x y then -1 else bif !((Op.bytesLess x y)||(x==y)) then 1 else 0
def ltQ (a b:Q):Bool:=Op.bytesLess a.name b.name
theorem s41 (n:Nat) (x y:List UInt8):m41 (orcN (n+1)) x y=some (cmpS x y,()):=by
 have h:∀x,@Eq (Option (Bool×Unit)) ((orcN (n+1)).d 92 [.str x] [.bool]) (some (false,())):=fun x=>(q92 n x).trans (by unfold m92;simp)
 unfold m41 cmpS
 simp only [h,ob_some_eq,br_false]
 cases Op.bytesLess x y<;>cases (x==y)<;>rfl
theorem L40 (n:Nat) (a b:Q): @Eq (Option (Int×Unit)) ((orcN (n+3)).d 40 [.st 3 a,.st 3 b] [(.int .i64)]) (some (cmpS a.name b.name,())):=by
 refine (q40 (n+2) a b).trans ?_
 have h: @Eq (Option (Int×Unit)) ((orcN (n+2)).d 41 [.str a.name,.str b.name] [(.int .i64)]) (some (cmpS a.name b.name,())):=(q41 (n+1) _ _).trans (s41 n _ _)
 unfold m40
 rw [h];rfl
theorem cmp_lt (a b:Q):decide (cmpS a.name b.name<0)=ltQ a b:=by
 unfold cmpS ltQ
 cases Op.bytesLess a.name b.name<;>cases (a.name==b.name)<;>rfl
theorem woQ:WO ltQ where
 asym a b h:=by
  unfold ltQ at *
  rw [bytesLess_eq] at *
  have:=of_decide_eq_true h
  exact decide_eq_false (List.lt_asymm this)
 trans a b c h1 h2:=by
  unfold ltQ at *
  rw [bytesLess_eq] at *
  have h1:=of_decide_eq_false h1
  have h2:=of_decide_eq_false h2
  exact decide_eq_false (fun h=>(List.le_trans (l₁:=a.name) (l₂:=b.name) (l₃:=c.name) h1 h2) h)
theorem ins_giv {α R:Type} {lt:α→α→Bool} {f:Int×List α×Unit→Option ((Int×List α×Unit)⊕R)} (out:List α→R) (X Y P:List α) (x:α)
  (hstep:∀(P2 Q:List α) (p:α),P2.length+1+Q.length=P.length→f (((X.length+(P2.length+1):Nat):Int),X++(P2++[p]++x::Q)++Y,())=if lt x p=true then some (.inl (((X.length+P2.length:Nat):Int),X++(P2++x::(p::Q))++Y,())) else some (.inr (out (X++(P2++[p]++x::Q)++Y))))
  (hend:∀Q:List α,f ((X.length:Int),X++(x::Q)++Y,())=some (.inr (out (X++(x::Q)++Y)))) :
  Giv (loopM f (((X.length+P.length:Nat):Int),X++(P++[x])++Y,())) fun r=>∃P' Q',P'++Q'=P∧(∀q∈Q',lt x q=true)∧(∀p∈P'.getLast?,lt x p=false)∧r=out (X++(P'++x::Q')++Y):=by
 obtain ⟨P',Q',h1,h2,h3,h4⟩:=ins_inner (lt:=lt) out X Y x P.length hstep hend P.length P [] rfl (by simp) (by simp)
 exact ⟨_,h4,P',Q',by simpa using h1,h2,h3,rfl⟩
theorem giv_out {α R:Type} {y:Option R} {A C:α→Prop} {out:α→R} (h:Giv y fun r=>∃a,A a∧C a∧r=out a):∃a,A a∧C a∧y=some (out a):=by
 obtain ⟨r,e,a,h1,h2,rfl⟩:=h
 exact ⟨a,h1,h2,e⟩
theorem s123 (n:Nat) {X S Y:List Q} (hl:X.length+S.length+Y.length≤1000000000) :
  ∃S',Srt ltQ S'∧S'.Perm S∧m123 (orcN (n+3)) (X++(S++Y)) ((X.length:Nat):Int) ((X.length+S.length:Nat):Int)=some (.inl (X++(S'++Y),())):=by
 cases S with
 | nil =>
   refine ⟨[],by simp [Srt],.nil,?_⟩
   unfold m123
   rw [wrapZ (n:=X.length+1) (by omega) (by simp at hl;omega)]
   refine loopM_end ?_
   dsimp only
   rw [decide_eq_false (by simp;omega),br_false]
 | cons x T =>
   have hl':X.length+(T.length+1)+Y.length≤1000000000:=by simpa using hl
   have key:∃S',Srt ltQ S'∧S'.Perm ([x]++T)∧m123 (orcN (n+3)) (X++([x]++T)++Y) ((X.length:Nat):Int) ((X.length+(x::T).length:Nat):Int)=some (.inl (X++S'++Y,())):=by
    unfold m123
    rw [wrapZ (n:=X.length+[x].length) (by simp) (by simp;omega)]
    refine ins_outer (lt:=ltQ) (fun l=>(Sum.inl (l,()):(List Q×Unit)⊕Unit)) X Y (X.length+(x::T).length) ?_ ?_ T [x] (by simp [Srt]) (by simp) (by simp;omega)
    ·intro S T2 y hS hne hb
     have hlen:X.length+S.length+(T2.length+1)=X.length+(T.length+1):=by simpa using hb
     dsimp only
     rw [decide_eq_true (by simp;omega),br_true]
     rw [show X++(S++y::T2)++Y=X++(S++[y])++(T2++Y) by simp]
     refine giv_out ?_
     refine Giv.cut (ins_giv (lt:=ltQ) (fun l=>(Sum.inl (l,()):(List Q×Unit)⊕((Int×List Q×Unit)⊕((List Q×Unit)⊕Unit)))) X (T2++Y) S y ?_ ?_) ?_
     ·intro P2 R p e1
      dsimp only
      rw [decide_eq_true (by omega),br_true]
      have hj:IntKind.i64.wrap ((((X++P2).length+1:Nat):Int) - 1)=(((X++P2).length:Nat):Int):=wrapZ (by simp) (by simp;omega)
      have hL:X++(P2++[p]++y::R)++(T2++Y)=(X++P2)++p::y::(R++(T2++Y)):=by simp
      have hi:((X.length+(P2.length+1):Nat):Int)=(((X++P2).length+1:Nat):Int):=by simp;omega
      rw [hL,hi]
      have g1:=get_mid (X++P2) (y::(R++(T2++Y))) p
      have g2:=get_two' (X++P2) (R++(T2++Y)) p y
      have l1:=(List.getElem?_eq_some_iff.1 g1).1
      have l2:=(List.getElem?_eq_some_iff.1 g2).1
      rw [hj]
      simp only [idxN l1,idxN l2,ob_some_eq,get?,g1,g2]
      rw [L40]
      simp only [ob_some_eq,cmp_lt]
      cases hp:ltQ y p with
      | false =>
        rw [br_false,if_neg (by simp)]
      | true =>
        have l3:(X++P2).length<(((X++P2)++p::y::(R++(T2++Y))).set ((X++P2).length+1) p).length:=by simp
        simp only [br_true,if_pos,idxN l3,ob_some_eq,List.getElem?_eq_getElem l3,same_one,swap_next']
        simp
     ·intro R
      dsimp only
      rw [decide_eq_false (by omega),br_false,ob_some_eq,br_false]
     ·rintro r ⟨P',Q',h1,h2,h3,rfl⟩
      rw [cutM_inl]
      subst h1
      refine Giv.mk ⟨P'++y::Q',hS.put woQ h2 h3,?_,?_⟩
      ·exact List.perm_middle.trans (List.perm_append_singleton _ _).symm
      ·rw [wrapZ (n:=X.length+(P'++y::Q').length) (by simp;omega) (by simp at hlen ⊢;omega)]
       simp
    ·intro l
     dsimp only
     rw [decide_eq_false (by omega),br_false]
   obtain ⟨S',g1,g2,g3⟩:=key
   exact ⟨S',g1,g2,by simpa using g3⟩
def atP (L:List Q) (h:Nat) (f:Q→Bool):Bool:=match L[h]? with
 | some y=>f y
 | none=>false
theorem atP_eq {L:List Q} {h:Nat} {f:Q→Bool} {y:Q} (e:L[h]? =some y):atP L h f=f y:=by unfold atP;rw [e]
def Blk (k:Nat) (Bs:List (List Q)):Prop:=∀C∈Bs,C.length=k∧Srt ltQ C
theorem Blk.add {k:Nat} {Bs:List (List Q)} {C:List Q} (h:Blk k Bs) (hl:C.length=k) (hs:Srt ltQ C):Blk k (Bs++[C]):=by
 intro D hD
 rcases List.mem_append.1 hD with hD | hD
 ·exact h D hD
 ·simp at hD;subst hD;exact ⟨hl,hs⟩
theorem L39nil (n:Nat): @Eq (Option (List Q)) ((orcN (n+3)).p 39 (.st 3) 63 [.func (.func 40) [] []] []) (some []):=by
 refine (q39 (n+2) []).trans ?_
 have e0:m123 (orcN n) [] 0 0=some (.inl ([],())):=by
  unfold m123
  exact loopM_end (by rfl)
 have e1: @Eq (Option ((List Q×Unit)⊕Unit)) ((orcN (n+1)).l 123 sg123 (([],0,0,()):List Q×Int×Int×Unit)) (some (.inl ([],()))):=(q123 n [] 0 0).trans e0
 have e2:m91 (orcN (n+1)) [] 0=some (.inl ([],())):=by
  unfold m91
  rw [loopM_end (x:=((0:Int),(20:Int),([]:List Q),())) (by rfl),cutM_inl]
  dsimp only
  rw [e1,oc_inl]
  exact loopM_end (by rfl)
 have e3: @Eq (Option ((List Q×Unit)⊕Unit)) ((orcN (n+2)).l 91 sg91 (([],0,()):List Q×Int×Unit)) (some (.inl ([],()))):=(q91 (n+1) [] 0).trans e2
 unfold m39
 rw [show len ([]:List Q)=0 from rfl,e3];rfl
end Pe.Tryd
