/- PROVED HERE: a part of the seat's proofs; see the text that holds the claim's theorem. -/
import Derived.Sort.Walk0
import Derived.Test.YteimbekcnkogoaaGreatDoorLizD
import Derived.Test.YteimbekcnkogoaaGreatDoorPeE
section
/- Loops of models: PeLoop's. -/
end
section
/- The fourth law in plain, first part: what of a catalogue is wrong. -/
set_option maxRecDepth 100000
namespace Pe.Tryz
open Go Go.Proofs Pe LicSpec
abbrev Cat:=Gt.Catalog
def leN (a b:List UInt8):Bool:=Op.bytesLess a b||a==b
def sAt (l:List (List UInt8)) (k:Nat):List UInt8:=l[k]?.getD []
def nF (l:List (List UInt8)) (k:Nat):Int:=bif !isName (sAt l k) then 8 else bif decide (0<k)&&leN (sAt l k) (sAt l (k - 1)) then 10 else 0
def nFs (l:List (List UInt8)):Int:=ff (nF l) l.length
def rule0:Gt.LicenceRule:=⟨[],[],0,[]⟩
def exc0:Gt.Exception:=⟨[],[],[]⟩
def rAt (l:List Gt.LicenceRule) (k:Nat):Gt.LicenceRule:=l[k]?.getD rule0
def eAt (l:List Gt.Exception) (k:Nat):Gt.Exception:=l[k]?.getD exc0
def twice (l:List Gt.LicenceRule) (f:List UInt8) (o:Int) (k:Nat):Bool:=(l.take k).any fun r=>r.family==f&&r.order==o
def lF (l:List Gt.LicenceRule) (k:Nat):Int :=
 bif !isName (rAt l k).name then 8 else
 bif decide (0<k)&&leN (rAt l k).name (rAt l (k - 1)).name then 10 else
 bif (rAt l k).family != []&& !isName (rAt l k).family then 8 else
 bif (rAt l k).family==[]&&(rAt l k).order != 0 then 2 else
 bif (rAt l k).family != []&&twice l (rAt l k).family (rAt l k).order k then 5 else
 bif decide ((rAt l k).order<0)||decide (1000000<(rAt l k).order) then 9 else
 bif decide (50<len (rAt l k).obligations) then 3 else nFs (rAt l k).obligations
def lIx (c:Cat) (s:List UInt8):Option Nat:=c.licences.findIdx? fun r=>r.name==s
def xIx (c:Cat) (s:List UInt8):Option Nat:=c.exceptions.findIdx? fun r=>r.name==s
def oF (c:Cat) (x:Gt.Exception) (k:Nat):Int:=bif (lIx c (sAt x.for_ k)).isNone then 4 else bif decide (0<k)&&leN (sAt x.for_ k) (sAt x.for_ (k - 1)) then 10 else 0
def xOne (c:Cat) (x:Gt.Exception):Int :=
 bif decide (500<len x.for_) then 3 else bif ff (oF c x) x.for_.length != 0 then ff (oF c x) x.for_.length else bif decide (50<len x.lifts) then 3 else nFs x.lifts
def xF (c:Cat) (k:Nat):Int :=
 bif !isName (eAt c.exceptions k).name then 8 else bif decide (0<k)&&leN (eAt c.exceptions k).name (eAt c.exceptions (k - 1)).name then 10 else xOne c (eAt c.exceptions k)
def pAt (l:List Gt.A2_string) (k:Nat):Gt.A2_string:=l[k]?.getD ⟨[],[]⟩
def same2 (p q:Gt.A2_string):Bool:=p.e0==q.e0&&p.e1==q.e1
def cF (l:List Gt.A2_string) (k:Nat):Int :=
 bif !isName (pAt l k).e0|| !isName (pAt l k).e1 then 8 else bif leN (pAt l k).e1 (pAt l k).e0 then 10 else bif (l.take k).any (fun q=>same2 q (pAt l k)) then 5 else 0
def catF (c:Cat):Int :=
 bif decide (500<len c.licences)||decide (50<len c.exceptions)||decide (200<len c.clashes) then 3 else
 bif ff (lF c.licences) c.licences.length != 0 then ff (lF c.licences) c.licences.length else
 bif ff (xF c) c.exceptions.length != 0 then ff (xF c) c.exceptions.length else ff (cF c.clashes) c.clashes.length
def Txs (l:List (List UInt8)):Prop:=l.length≤2000000∧∀s∈l,s.length≤2000000
structure SmallC (c:Cat):Prop where
 lics:c.licences.length≤2000000
 lic:∀r∈c.licences,r.name.length≤2000000∧r.family.length≤2000000∧Txs r.obligations
 excs:c.exceptions.length≤2000000
 exc:∀x∈c.exceptions,x.name.length≤2000000∧Txs x.for_∧Txs x.lifts
 cls:c.clashes.length≤2000000
 cl:∀p∈c.clashes,p.e0.length≤2000000∧p.e1.length≤2000000
theorem sAt_get {l:List (List UInt8)} {k:Nat} (h:k<l.length):l[k]=sAt l k:=by simp [sAt,h]
theorem rAt_get {l:List Gt.LicenceRule} {k:Nat} (h:k<l.length):l[k]=rAt l k:=by simp [rAt,h]
theorem eAt_get {l:List Gt.Exception} {k:Nat} (h:k<l.length):l[k]=eAt l k:=by simp [eAt,h]
theorem pAt_get {l:List Gt.A2_string} {k:Nat} (h:k<l.length):l[k]=pAt l k:=by simp [pAt,h]
theorem at_s {l:List (List UInt8)} {k:Nat} (h:k<l.length):at? l (k:Int)=some (sAt l k):=by rw [at?_get h,sAt_get h]
theorem at_r {l:List Gt.LicenceRule} {k:Nat} (h:k<l.length):at? l (k:Int)=some (rAt l k):=by rw [at?_get h,rAt_get h]
theorem at_e {l:List Gt.Exception} {k:Nat} (h:k<l.length):at? l (k:Int)=some (eAt l k):=by rw [at?_get h,eAt_get h]
theorem at_p {l:List Gt.A2_string} {k:Nat} (h:k<l.length):at? l (k:Int)=some (pAt l k):=by rw [at?_get h,pAt_get h]
theorem sAt_len {l:List (List UInt8)} (h:Txs l) (k:Nat):(sAt l k).length≤1000000000:=by
 unfold sAt
 cases he:l[k]? with
 | none=>simp
 | some s=>have:=h.2 s (List.mem_of_getElem? he);simp;omega
theorem wrap_pred {k n:Nat} (h:0<k) (hk:k≤n) (hn:n≤9223372036854775807):IntKind.i64.wrap ((k:Int) - 1)=((k - 1:Nat):Int):=by
 rw [wrap_id (by omega) (by omega)];omega
theorem int_pos (k:Nat):decide ((0:Int)<(k:Int))=decide (0<k):=decide_eq_decide.2 (by omega)
theorem int_zero (k:Nat):((k:Int)==0)= !decide (0<k):=by
 by_cases h:k=0
 ·subst h;rfl
 ·have:0<k:=by omega
  simp [this];omega
theorem br_prev {α:Type} {k:Nat} {X:Option α} {g:α→Bool} (y0:α) (h:0<k→X=some y0):br (decide ((0:Int)<(k:Int))) (ob X fun y=>some (g y)) (some false)=some (decide (0<k)&&g y0):=by
 rw [int_pos]
 by_cases h0:0<k
 ·rw [h h0];simp [h0,br_true,ob_some_eq]
 ·simp [h0,br_false]
theorem L176 (o:Orc Sx) {l:List (List UInt8)} {k:Nat} (hk:k<l.length) (hl:l.length≤9223372036854775807):m176 o l (k:Int)=some (!(decide (0<k)&&leN (sAt l k) (sAt l (k - 1))),()):=by
 unfold m176
 rw [int_zero]
 by_cases h:0<k
 ·rw [wrap_pred h (Nat.le_of_lt hk) hl,at_s hk,at_s (by omega:k - 1<l.length)];simp [h,br_false,ob_some_eq,leN]
 ·simp [h,br_true,ob_some_eq]
theorem L175 {n:Nat} (hn:2≤n) {l:List (List UInt8)} (h:Txs l):m175 (orcN n) l=some (nFs l,()):=by
 unfold m175
 obtain ⟨n,rfl⟩:∃k,n=k+1:=⟨n - 1,by omega⟩
 have hl:=h.1
 rw [loop_ff1 l.length (nF l) (fun c=> .inr (c,())) (.inl ()) ?h1 ?h2]
 case h1 =>
  intro k hk _
  simp only [len_lt,hk,decide_true,br_true,at_s hk,ob_some_eq,G100 hn (sAt_len h k),q176,L176 (orcN n) hk (by omega),Bool.not_not,wrap_succ hk (by omega:l.length≤9223372036854775807)]
  exact br_ff (out:=fun c=>Sum.inr (c,())) 8 (by decide) fun _=>br_ff (out:=fun c=>Sum.inr (c,())) 10 (by decide) fun _=>rfl
 case h2=>simp [len,br_false]
 unfold nFs
 by_cases h0:ff (nF l) l.length=0
 ·simp [h0,cutM_inl]
 ·simp [h0,cutM_inr]
end Pe.Tryz
end
section
/- The fourth law in plain, second part: a whole catalogue. -/
set_option maxRecDepth 100000
namespace Pe.Tryz
open Go Go.Proofs Pe LicSpec
theorem keq_rank (x y:Gt.Licence_rank):keq un (.st 8) x y=(x.family==y.family&&(x.order==y.order&&true)):=by kernel_rfl
theorem keq_iff (x y:Gt.Licence_rank):keq un (.st 8) x y=true↔x=y:=by
 rw [keq_rank]
 cases x;cases y;simp
theorem twice_succ {l:List Gt.LicenceRule} {k:Nat} (hk:k<l.length) (f:List UInt8) (o:Int):twice l f o (k+1)=(twice l f o k||((rAt l k).family==f&&(rAt l k).order==o)):=by
 unfold twice
 rw [List.take_succ_eq_append_getElem hk,List.any_append,rAt_get hk];simp
theorem rAt_mem {l:List Gt.LicenceRule} {k:Nat} (hk:k<l.length):rAt l k∈l:=by rw [←rAt_get hk];exact List.getElem_mem hk
theorem eAt_mem {l:List Gt.Exception} {k:Nat} (hk:k<l.length):eAt l k∈l:=by rw [←eAt_get hk];exact List.getElem_mem hk
theorem pAt_mem {l:List Gt.A2_string} {k:Nat} (hk:k<l.length):pAt l k∈l:=by rw [←pAt_get hk];exact List.getElem_mem hk
def SmallR (l:List Gt.LicenceRule):Prop:=l.length≤2000000∧∀r∈l,r.name.length≤2000000∧r.family.length≤2000000∧Txs r.obligations
theorem ob_and {b c:Bool} {α:Type} {f:Bool→Option α}:ob (br b (some c) (some false)) f=f (b&&c):=by rw [br_some_eq,ob_some_eq,cond_and]
theorem ob_or {b c:Bool} {α:Type} {f:Bool→Option α}:ob (br b (some true) (some c)) f=f (b||c):=by rw [br_some_eq,ob_some_eq,cond_or]
theorem L140 {n:Nat} (hn:4≤n) {l:List Gt.LicenceRule} (h:SmallR l):m140 (orcN n) l=some (ff (lF l) l.length,()):=by
 unfold m140
 obtain ⟨n,rfl⟩:∃k,n=k+1:=⟨n - 1,by omega⟩
 have hl:=h.1
 have hm:=loop_ffX (R:=(List (Gt.Licence_rank×Bool)×Unit)⊕(Int×Unit)) (f:=fun (t1:Int×List ((Gt.Licence_rank)×(Bool))×Unit)=>(br (decide (t1.1<(len l))) (ob (at? l t1.1) fun y2=>(ob (α:=Bool×Unit) ((orcN (n+1)).d 100 [.str (Gt.LicenceRule.name y2)] [.bool]) fun (r3:Bool×Unit)=>(br (!r3.1) (some (.inr (.inr (8,())))) (ob (br (decide (0<t1.1)) (ob (at? l (IntKind.i64.wrap (t1.1 - 1))) fun y4=>(some ((Op.bytesLess (Gt.LicenceRule.name y2) (Gt.LicenceRule.name y4))||((Gt.LicenceRule.name y2)==(Gt.LicenceRule.name y4))))) (some false)) fun b5=>(br b5 (some (.inr (.inr (10,())))) (ob (br ((Gt.LicenceRule.family y2) != []) (ob (α:=Bool×Unit) ((orcN (n+1)).d 100 [.str (Gt.LicenceRule.family y2)] [.bool]) fun (r6:Bool×Unit)=>(some (!r6.1))) (some false)) fun b7=>(br b7 (some (.inr (.inr (8,())))) (ob (br ((Gt.LicenceRule.family y2)==[]) (some ((Gt.LicenceRule.order y2) != 0)) (some false)) fun b8=>(br b8 (some (.inr (.inr (2,())))) (ob (br ((Gt.LicenceRule.family y2) != []) (some (mget (keq un (.st 8)) (Gt.Licence_rank.mk (Gt.LicenceRule.family y2) (Gt.LicenceRule.order y2)) false t1.2.1)) (some false)) fun b9=>(br b9 (some (.inr (.inr (5,())))) (ob (br (decide ((Gt.LicenceRule.order y2)<0)) (some true) (some (decide (1000000<(Gt.LicenceRule.order y2))))) fun b10=>(br b10 (some (.inr (.inr (9,())))) (br (decide (50<(len (Gt.LicenceRule.obligations y2)))) (some (.inr (.inr (3,())))) (ob (α:=Int×Unit) ((orcN (n+1)).d 175 [.sl .str (Gt.LicenceRule.obligations y2)] [(.int .i64)]) fun (r11:Int×Unit)=>(br (r11.1 != 0) (some (.inr (.inr (r11.1,())))) (some (.inl ((IntKind.i64.wrap (t1.1+1)),(mput (keq un (.st 8)) (Gt.Licence_rank.mk (Gt.LicenceRule.family y2) (Gt.LicenceRule.order y2)) true t1.2.1),()))))))))))))))))))) (some (.inr (.inl (t1.2.1,()))))))
  (fun (k:Nat) (m:List (Gt.Licence_rank×Bool))=>((k:Int),m,())) l.length (lF l) (fun c=> .inr (c,())) (fun m=> .inl (m,())) (fun k m=>∀q:Gt.Licence_rank,mget (keq un (.st 8)) q false m=twice l q.family q.order k) ?h1 ?h2 [] (fun q=>rfl)
 case h1 =>
  intro k m hk hI _
  obtain ⟨r1,r2,r3⟩:=h.2 _ (rAt_mem hk)
  refine ⟨mput (keq un (.st 8)) ⟨(rAt l k).family,(rAt l k).order⟩ true m,fun q=> ?_,?_⟩
  ·refine (mget_mput (K:=Gt.Licence_rank) (V:=Bool) (eq:=keq un (.st 8)) keq_iff _ q true false m).trans ?_
   have e:∀g b:Bool,g=twice l q.family q.order k→b=(q.family==(rAt l k).family&&(q.order==(rAt l k).order&&true))→(bif b then true else g)=twice l q.family q.order (k+1):=by
    rintro _ _ rfl rfl
    rw [twice_succ hk,show (q.family==(rAt l k).family)=((rAt l k).family==q.family) from BEq.comm,show (q.order==(rAt l k).order)=((rAt l k).order==q.order) from BEq.comm]
    generalize ((rAt l k).family==q.family)=b1
    generalize ((rAt l k).order==q.order)=b2
    generalize twice l q.family q.order k=b3
    cases b1<;>cases b2<;>cases b3<;>rfl
   exact e _ _ (hI q) (keq_rank q _)
  ·simp only [len_lt,hk,decide_true,br_true,at_r hk,ob_some_eq,G100 (by omega:2≤n+1) (by omega:(rAt l k).name.length≤1000000000),G100 (by omega:2≤n+1) (by omega:(rAt l k).family.length≤1000000000),wrap_succ hk (by omega:l.length≤9223372036854775807),hI,ob_and,ob_or,q175,L175 (by omega:2≤n) r3]
   rw [br_prev (rAt l (k - 1)) fun h0=>by rw [wrap_pred h0 (Nat.le_of_lt hk) (by omega),at_r (by omega:k - 1<l.length)]]
   unfold lF
   exact br_ff (out:=fun c=>Sum.inr (c,())) 8 (by decide) fun _=>br_ff (out:=fun c=>Sum.inr (c,())) 10 (by decide) fun _=>br_ff (out:=fun c=>Sum.inr (c,())) 8 (by decide) fun _ =>
    br_ff (out:=fun c=>Sum.inr (c,())) 2 (by decide) fun _=>br_ff (out:=fun c=>Sum.inr (c,())) 5 (by decide) fun _=>br_ff (out:=fun c=>Sum.inr (c,())) 9 (by decide) fun _ =>
    br_ff (out:=fun c=>Sum.inr (c,())) 3 (by decide) fun _=>br_on (out:=fun c=>Sum.inr (c,()))
 case h2=>intro a _;simp [len,br_false]
 obtain ⟨m',hm⟩:=hm
 rw [show ((0:Int),([]:List (Gt.Licence_rank×Bool)),())=(((0:Nat):Int),([]:List (Gt.Licence_rank×Bool)),()) from rfl,hm]
 by_cases h0:ff (lF l) l.length=0
 ·simp [h0,cutM_inl]
 ·simp [h0,cutM_inr]
end Pe.Tryz
namespace Pe.Tryz
open Go Go.Proofs Pe LicSpec
def ixI:Option Nat→Int
 | some k=>(k:Int)
 | none=> -1
theorem ix_pos (o:Option Nat):decide (0≤ixI o)=o.isSome:=by
 cases o with
 | none=>rfl
 | some k=>exact decide_eq_true (by simp only [ixI];omega)
def lGet (c:Cat) (s:List UInt8):Gt.LicenceRule:=match lIx c s with | some k=>rAt c.licences k | none=>rule0
def xGet (c:Cat) (s:List UInt8):Gt.Exception:=match xIx c s with | some k=>eAt c.exceptions k | none=>exc0
theorem lIx_lt {c:Cat} {s:List UInt8} {k:Nat} (h:lIx c s=some k):k<c.licences.length:=(List.findIdx?_eq_some_iff_getElem.1 h).1
theorem xIx_lt {c:Cat} {s:List UInt8} {k:Nat} (h:xIx c s=some k):k<c.exceptions.length:=(List.findIdx?_eq_some_iff_getElem.1 h).1
theorem L108 (o:Orc Sx) {c:Cat} (h:c.licences.length≤2000000) (s:List UInt8):m108 o c s=some (lGet c s,(lIx c s).isSome,()):=by
 unfold m108
 rw [loop_find c.licences (fun r=>r.name==s) (fun k=> .inr ((k:Int),())) (.inl ()) ?h1 ?h2]
 case h1 =>
  intro k hk
  simp only [len_lt,hk,decide_true,br_true,at?_get hk,ob_some_eq,wrap_succ hk (by omega:c.licences.length≤9223372036854775807)]
  cases (c.licences[k].name==s)<;>rfl
 case h2=>simp [len,br_false]
 unfold lGet
 cases hx:lIx c s with
 | none=>unfold lIx at hx;rw [hx];rfl
 | some k =>
   have hk:=lIx_lt hx
   unfold lIx at hx
   rw [hx]
   simp only [cutM_inr,ob_some_eq,at_r hk,show decide ((k:Int)<0)=false from decide_eq_false (by omega),br_false]
   rfl
theorem L109 (o:Orc Sx) {c:Cat} (h:c.exceptions.length≤2000000) (s:List UInt8):m109 o c s=some (xGet c s,(xIx c s).isSome,()):=by
 unfold m109
 rw [loop_find c.exceptions (fun r=>r.name==s) (fun k=> .inr ((k:Int),())) (.inl ()) ?h1 ?h2]
 case h1 =>
  intro k hk
  simp only [len_lt,hk,decide_true,br_true,at?_get hk,ob_some_eq,wrap_succ hk (by omega:c.exceptions.length≤9223372036854775807)]
  cases (c.exceptions[k].name==s)<;>rfl
 case h2=>simp [len,br_false]
 unfold xGet
 cases hx:xIx c s with
 | none=>unfold xIx at hx;rw [hx];rfl
 | some k =>
   have hk:=xIx_lt hx
   unfold xIx at hx
   rw [hx]
   simp only [cutM_inr,ob_some_eq,at_e hk,show decide ((k:Int)<0)=false from decide_eq_false (by omega),br_false]
   rfl
end Pe.Tryz
end
section
/- The fourth law in plain, third part: CheckCatalog of both sides. -/
set_option maxRecDepth 100000
namespace Pe.Tryz
open Go Go.Proofs Pe LicSpec
theorem SmallC.rules {c:Cat} (h:SmallC c):SmallR c.licences:=⟨h.lics,h.lic⟩
theorem L141 {n:Nat} (hn:4≤n) {c:Cat} (hc:SmallC c) {x:Gt.Exception} (hx:Txs x.for_∧Txs x.lifts):m141 (orcN n) c x=some (xOne c x,()):=by
 unfold m141
 obtain ⟨n,rfl⟩:∃k,n=k+1:=⟨n - 1,by omega⟩
 have hl:=hx.1.1
 unfold xOne
 refine br_ret 3 fun _=> ?_
 rw [loop_ff1 x.for_.length (oF c x) (fun c=> .inr (c,())) (.inl ()) ?h1 ?h2]
 case h1 =>
  intro k hk _
  simp only [len_lt,hk,decide_true,br_true,at_s hk,ob_some_eq,q108,L108 (orcN n) hc.lics,q176,L176 (orcN n) hk (by omega),Bool.not_not,wrap_succ hk (by omega:x.for_.length≤9223372036854775807),Option.not_isSome]
  exact br_ff (out:=fun c=>Sum.inr (c,())) 4 (by decide) fun _=>br_ff (out:=fun c=>Sum.inr (c,())) 10 (by decide) fun _=>rfl
 case h2=>simp [len,br_false]
 by_cases h0:ff (oF c x) x.for_.length=0
 ·simp only [h0,bne_self_eq_false,cond_false,ne_eq,not_true,if_false,cutM_inl,q175,L175 (by omega:2≤n) hx.2,ob_some_eq]
  exact br_ret 3 fun _=>rfl
 ·have:(ff (oF c x) x.for_.length != 0)=true:=by simpa using h0
  rw [if_pos h0,cutM_inr,this];rfl
theorem same2_comm (p q:Gt.A2_string):same2 p q=same2 q p:=by
 unfold same2;rw [show (p.e0==q.e0)=(q.e0==p.e0) from BEq.comm,show (p.e1==q.e1)=(q.e1==p.e1) from BEq.comm]
theorem L177 (o:Orc Sx) {l:List Gt.A2_string} (hl:l.length≤2000000) (v:Gt.A2_string):m177 o l v=some (ixI (l.findIdx? (same2 v)),()):=by
 unfold m177
 rw [loop_find l (same2 v) (fun k=> .inr ((k:Int),())) (.inl ()) ?h1 ?h2]
 case h1 =>
  intro k hk
  simp only [len_lt,hk,decide_true,br_true,at?_get hk,ob_some_eq,wrap_succ hk (by omega:l.length≤9223372036854775807),Bool.and_true]
  show br (same2 v l[k]) _ _=_
  cases same2 v l[k]<;>rfl
 case h2=>simp [len,br_false]
 cases l.findIdx? (same2 v)<;>rfl
theorem findIdx_any {α:Type} (l:List α) (p:α→Bool):(l.findIdx? p).isSome=l.any p:=by
 rw [List.findIdx?_isSome]
theorem L142 {n:Nat} (hn:1≤n) {l:List Gt.A2_string} (hl:l.length≤2000000) (v:Gt.A2_string):m142 (orcN n) l v=some (l.any (same2 v),()):=by
 obtain ⟨n,rfl⟩:∃k,n=k+1:=⟨n - 1,by omega⟩
 unfold m142
 simp only [q177,L177 (orcN n) hl,ob_some_eq,ix_pos,findIdx_any]
theorem L103 {n:Nat} (hn:5≤n) {c:Cat} (hc:SmallC c):m103 (orcN n) c=some (catF c,()):=by
 unfold m103
 obtain ⟨n,rfl⟩:∃k,n=k+1:=⟨n - 1,by omega⟩
 unfold catF
 have l1:=hc.lics;have l2:=hc.excs;have l3:=hc.cls
 simp only [ob_or]
 refine br_ret 3 fun _=> ?_
 simp only [q140,L140 (by omega:4≤n) hc.rules,ob_some_eq]
 by_cases h0:ff (lF c.licences) c.licences.length=0
 case neg =>
  have:(ff (lF c.licences) c.licences.length != 0)=true:=by simpa using h0
  rw [this];rfl
 simp only [h0,bne_self_eq_false,cond_false,br_false]
 rw [loop_ff1 c.exceptions.length (xF c) (fun c=> .inr (c,())) (.inl ()) ?h3 ?h4]
 case h3 =>
  intro k hk _
  obtain ⟨r1,r2⟩:=hc.exc _ (eAt_mem hk)
  simp only [len_lt,hk,decide_true,br_true,at_e hk,ob_some_eq,G100 (by omega:2≤n+1) (by omega:(eAt c.exceptions k).name.length≤1000000000),q141,L141 (by omega:4≤n) hc r2,wrap_succ hk (by omega:c.exceptions.length≤9223372036854775807)]
  rw [br_prev (eAt c.exceptions (k - 1)) fun h0=>by rw [wrap_pred h0 (Nat.le_of_lt hk) (by omega),at_e (by omega:k - 1<c.exceptions.length)]]
  exact br_ff (out:=fun c=>Sum.inr (c,())) 8 (by decide) fun _=>br_ff (out:=fun c=>Sum.inr (c,())) 10 (by decide) fun _=>br_on (out:=fun c=>Sum.inr (c,()))
 case h4=>simp [len,br_false]
 by_cases h1:ff (xF c) c.exceptions.length=0
 case neg =>
  have:(ff (xF c) c.exceptions.length != 0)=true:=by simpa using h1
  rw [if_pos h1,cutM_inr,this];rfl
 simp only [h1,bne_self_eq_false,cond_false,ne_eq,not_true,if_false,cutM_inl]
 rw [loop_ff1 c.clashes.length (cF c.clashes) (fun c=> .inr (c,())) (.inl ()) ?h5 ?h6]
 case h5 =>
  intro k hk _
  obtain ⟨s1,s2⟩:=hc.cl _ (pAt_mem hk)
  simp only [len_lt,hk,decide_true,br_true,at_p hk,ob_some_eq,G100 (by omega:2≤n+1) (by omega:(pAt c.clashes k).e0.length≤1000000000),G100 (by omega:2≤n+1) (by omega:(pAt c.clashes k).e1.length≤1000000000),ob_or,wrap_succ hk (by omega:c.clashes.length≤9223372036854775807)]
  rw [show ((0:Int))=((0:Nat):Int) from rfl,part?_nat (Nat.zero_le _) (Nat.le_of_lt hk)]
  simp only [ob_some_eq,q142,List.drop_zero,Nat.sub_zero,L142 (by omega:1≤n) (by simp;omega:(c.clashes.take k).length≤2000000)]
  unfold cF
  rw [show (c.clashes.take k).any (same2 (pAt c.clashes k))=(c.clashes.take k).any (fun q=>same2 q (pAt c.clashes k)) from congrArg (List.any _) (funext fun q=>same2_comm _ _)]
  exact br_ff (out:=fun c=>Sum.inr (c,())) 8 (by decide) fun _=>br_ff (out:=fun c=>Sum.inr (c,())) 10 (by decide) fun _=>br_ff (out:=fun c=>Sum.inr (c,())) 5 (by decide) fun _=>rfl
 case h6=>simp [len,br_false]
 by_cases h2:ff (cF c.clashes) c.clashes.length=0
 ·simp [h2,cutM_inl]
 ·simp [h2,cutM_inr]
end Pe.Tryz
end
section
/- The fourth law in plain, fourth part: the uses that a licence can be. -/
set_option maxRecDepth 100000
namespace Pe.Tryz
open Go Go.Proofs Pe LicSpec
def hasT (l:List (List UInt8)) (s:List UInt8):Bool:=l.any (· ==s)
theorem L86 {n:Nat} (hn:1≤n) {l:List (List UInt8)} (hl:l.length≤1000000000) (s:List UInt8):m86 (orcN n) l s=some (hasT l s,()):=by
 obtain ⟨n,rfl⟩:∃k,n=k+1:=⟨n - 1,by omega⟩
 unfold m86
 rw [q124]
 unfold m124
 rw [loop_find l (· ==s) (fun k=> .inr ((k:Int),())) (.inl ()) ?h1 ?h2]
 case h1 =>
  intro k hk
  simp only [len_lt,hk,decide_true,br_true,at?_get hk,ob_some_eq,wrap_succ hk (by omega:l.length≤9223372036854775807)]
  rw [show (s==l[k])=(l[k]==s) from BEq.comm]
  cases (l[k]==s)<;>rfl
 case h2=>simp [len,br_false]
 unfold hasT
 rw [←findIdx_any]
 cases l.findIdx? (· ==s) with
 | none=>rfl
 | some k =>
   simp only [cutM_inr,ob_some_eq,Option.isSome_some]
   rw [show decide (0≤(k:Int))=true from decide_eq_true (by omega)]
def laterR (c:Cat) (e:Ex) (r:Gt.LicenceRule):Bool:=((e.later&&(lGet c e.name).family != [])&&r.family==(lGet c e.name).family)&&decide ((lGet c e.name).order≤r.order)
def pick (c:Cat) (e:Ex) (r:Gt.LicenceRule):Option Gt.Use:=bif (r.name != (lGet c e.name).name&& !laterR c e r)||(e.wth != []&& !hasT (xGet c e.wth).for_ r.name) then none else some ⟨r.name,e.wth⟩
def canS (c:Cat) (e:Ex):List Gt.Use:=bif (lIx c e.name).isSome then c.licences.filterMap (pick c e) else []
theorem xGet_small {c:Cat} (hc:SmallC c) (s:List UInt8):Txs (xGet c s).for_:=by
 unfold xGet
 cases h:xIx c s with
 | none=>exact ⟨by simp [exc0],by simp [exc0]⟩
 | some k=>exact (hc.exc _ (eAt_mem (xIx_lt h))).2.1
theorem L150 {n:Nat} (hn:3≤n) {c:Cat} (hc:SmallC c) (e:Ex):m150 (orcN n) c e=some (canS c e,()):=by
 obtain ⟨n,rfl⟩:∃k,n=k+1:=⟨n - 1,by omega⟩
 have hl:=hc.lics
 unfold m150 canS
 rw [q108,L108 (orcN n) hc.lics]
 simp only [ob_some_eq]
 cases hk:(lIx c e.name).isSome with
 | false=>rfl
 | true =>
 simp only [Bool.not_true,br_false,q109,L109 (orcN n) hc.excs,ob_some_eq,cond_true]
 have hx:=xGet_small hc e.wth
 rw [loop_col c.licences (pick c e) (fun l=> .inl (l,())) ?h1 ?h2]
 case h1 =>
  intro k hk a ha
  simp only [len_lt,hk,decide_true,br_true,at?_get hk,ob_some_eq,ob_and,ob_or,wrap_succ hk (by omega:c.licences.length≤9223372036854775807),q86,L86 (by omega:1≤n) (by have:=hx.1;omega:(xGet c e.wth).for_.length≤1000000000)]
  rw [cat?_ok (by have:lim=4294967296:=rfl;simp;omega)]
  simp only [ob_some_eq]
  show br ((c.licences[k].name != (lGet c e.name).name&& !laterR c e c.licences[k])||(e.wth != []&& !hasT (xGet c e.wth).for_ c.licences[k].name)) _ _=_
  unfold pick
  cases ((c.licences[k].name != (lGet c e.name).name&& !laterR c e c.licences[k])||(e.wth != []&& !hasT (xGet c e.wth).for_ c.licences[k].name))<;>rfl
 case h2=>intro a;simp [len,br_false]
 rfl
end Pe.Tryz
end
section
/- The fourth law in plain, fifth part: the names of a right catalogue are different; what is not known. -/
set_option maxRecDepth 100000
namespace Pe.Tryz
open Go Go.Proofs Pe LicSpec
def tW (e:Ex):List UInt8:=(e.name++[32,87,73,84,72,32])++e.wth
def leafU (c:Cat) (e:Ex):List (List UInt8) :=
 (bif (lIx c e.name).isSome then [] else [e.name])++(bif e.wth==[] then [] else bif (xIx c e.wth).isSome then (bif len (canS c e)==0 then [tW e] else []) else [e.wth])
mutual
def unkS (c:Cat):Ex→List (List UInt8)
 | .mk k nm la w ks=>if k≠1 then unkL c ks else leafU c (.mk k nm la w ks)
def unkL (c:Cat):List Ex→List (List UInt8)
 | []=>[]
 | e::r=>unkS c e++unkL c r
end
theorem unkS_eq (c:Cat) (e:Ex):unkS c e=if e.kind≠1 then unkL c e.kids else leafU c e:=by cases e;simp only [unkS]
theorem leafU_len (c:Cat) (e:Ex):(leafU c e).length≤2:=by
 unfold leafU
 cases (lIx c e.name).isSome<;>cases e.wth==[]<;>cases (xIx c e.wth).isSome<;>cases len (canS c e)==0<;>simp
mutual
theorem unkS_len (c:Cat):∀e:Ex,(unkS c e).length≤2*e.cnt
 | .mk k nm la w ks=>by
   simp only [unkS,Ex.cnt]
   split
   ·have:=unkL_len c ks;omega
   ·have:=leafU_len c (.mk k nm la w ks);omega
theorem unkL_len (c:Cat):∀l:List Ex,(unkL c l).length≤2*cntL l
 | []=>by simp [unkL]
 | e::r=>by
   simp only [unkL,cntL,List.length_append]
   have:=unkS_len c e;have:=unkL_len c r;omega
end
theorem unkL_fold (c:Cat):∀(l:List Ex) (a:List (List UInt8)),l.foldl (fun a k=>a++unkS c k) a=a++unkL c l
 | [],a=>by simp [unkL]
 | e::r,a=>by simp only [List.foldl_cons,unkL];rw [unkL_fold c r,List.append_assoc]
theorem fault_name {e:Ex} (h:fault e=0) (hk:e.kind=1):e.kids=[]∧e.name.length≤60∧e.wth.length≤60:=by
 obtain ⟨h1,_⟩:=fault_zero h
 obtain ⟨_,_,h4,_⟩:=one_zero h1
 obtain ⟨h5,h6,h7⟩:=h4 hk
 refine ⟨h5,isName_len h6,?_⟩
 rcases h7 with h7 | h7
 ·rw [h7];simp
 ·exact isName_len h7
theorem L111 {c:Cat} (hc:SmallC c):∀(n:Nat) (e:Ex),e.lev+4≤n→fault e=0→e.cnt≤200→m111 (orcN n) c e=some (unkS c e,()):=by
 intro n
 induction n with
 | zero=>intro e h;omega
 | succ n ih =>
   intro e hl hf hcn
   have hlim:lim=4294967296:=rfl
   have hkl:=cnt_len (e:=e)
   unfold m111
   rw [unkS_eq]
   by_cases hk:e.kind=1
   ·have hb:(e.kind != 1)=false:=by simp [hk]
    obtain ⟨f1,f2,f3⟩:=fault_name hf hk
    rw [hb,if_neg (by simp [hk])]
    simp only [br_false,cutM_inl,Ex.eta,q108,L108 (orcN n) hc.lics,ob_some_eq,q109,L109 (orcN n) hc.excs,q150,L150 (by omega:3≤n) hc e]
    unfold leafU
    rw [cat?_ok (by simp;omega),cat?_ok (by simp;omega)]
    simp only [ob_some_eq]
    rw [cat?_ok (by simp;omega)]
    simp only [ob_some_eq]
    cases (lIx c e.name).isSome<;>cases he:e.wth==[]<;>cases (xIx c e.wth).isSome<;>simp only [Bool.not_true,Bool.not_false,br_true,br_false,cutM_inl,cond_true,cond_false,List.nil_append,List.append_nil]<;>(try rw [cat?_ok (by simp;omega)])<;>(try rw [cat?_ok (by simp;omega)])<;>cases len (canS c e)==0<;>rfl
   ·have hb:(e.kind != 1)=true:=by simpa using hk
    rw [hb,if_pos hk]
    simp only [br_true]
    rw [show (([]:List (List UInt8)),(0:Int),())=((fun (k:Nat) (a:List (List UInt8))=>(a,(k:Int),())) 0 []) from rfl]
    rw [loop_fold (fun (k:Nat) (a:List (List UInt8))=>(a,(k:Int),())) e.kids (fun a k=>a++unkS c k) (fun a=> .inl (a,())) (fun k a=>a.length+2*cntL (e.kids.drop k)≤400) ?h1 ?h2 [] ?h3]
    case h1 =>
     intro k hk a ha
     have hmem:e.kids[k]∈e.kids:=List.getElem_mem hk
     have hlk:=lev_kid hmem
     have hck:=cnt_kids hmem
     have h29:=ih e.kids[k] (by omega) (faultL_mem (fault_zero hf).2 hmem) (by omega)
     have hul:=unkS_len c e.kids[k]
     rw [drop_get' hk] at ha
     simp only [cntL] at ha
     simp only [len_lt,hk,decide_true,br_true,at?_get hk,ob_some_eq,Ex.eta,q111,h29,wrap_succ hk (by omega:e.kids.length≤9223372036854775807)]
     rw [cat?_ok (by omega)]
     exact ⟨rfl,by simp;omega⟩
    case h2=>intro a _;simp [len,br_false]
    case h3=>have:e.cnt=1+cntL e.kids:=by cases e;simp only [Ex.cnt]
             simp;omega
    rw [unkL_fold];rfl
end Pe.Tryz
end
section
/- The fourth law in plain, last part. -/
set_option maxRecDepth 100000
namespace Pe.Tryz
open Go Go.Proofs Pe LicSpec
theorem L110 {n:Nat} {c:Cat} (hc:SmallC c) {e:Ex} (hs:Small e) (hn:e.lev+10≤n):m110 (orcN n) c e=some (bif catF c != 0 then catF c else chk e,()):=by
 obtain ⟨n,rfl⟩:∃k,n=k+1:=⟨n - 1,by omega⟩
 unfold m110
 rw [q103,L103 (by omega) hc,Ex.eta,q18,L18 n e (by omega) hs]
 simp only [ob_some_eq]
 cases catF c != 0<;>rfl
theorem bne_false_eq {a b:Int} (h:(a != b)=false):a=b:=by simpa using h
end Pe.Tryz
end
