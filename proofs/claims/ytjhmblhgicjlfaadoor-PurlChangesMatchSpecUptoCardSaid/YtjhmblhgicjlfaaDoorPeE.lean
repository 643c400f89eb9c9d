/- PROVED HERE: a part of the seat's proofs; see the text that holds the claim's theorem. -/
import Derived.Laws.StructEq
import Derived.ChangeKeysEq
import Derived.ChangeArms
import Derived.OpenShut
import Derived.ChangeReads
import Derived.Below
import Derived.WideShapes
import Derived.WideKeyArgs
import Derived.ChangeSame
import Derived.RowKit
import Derived.Shelf.Strings.Builder1
import Derived.Maps.AppendAt
import Derived.Test.YtjhmblhgicjlfaaDoorPeD
import Derived.Test.YtjhmblhgicjlfaaDoorPeA
section
/- Structs and arrays of scalars are alike when their parts are. -/
namespace Pe
open Go Go.RowKit
variable {S:Nat→Type} {P:Program} {un:Uni S} {D:Dat} {w:World}
def uOk (P:Program) (u:U) (T:TypeId):Bool:=match u,P.underlying T with
 | .int _,some (.int _)=>true
 | .bool,some .bool=>true
 | .str,some .string=>true
 | _,_=>false
theorem part_plain {T:TypeId} {u:U} (h:uOk P u T=true) {xs:Array Value} {off:Nat} {v:Value} (hx:xs[off]? =some v):(part T xs off).run P w= .ok v w:=by
 unfold uOk at h
 cases hu:P.underlying T with
 | none=>rw [hu] at h;cases u<;>cases h
 | some d=>rw [hu] at h;cases u<;>cases d<;>first | (cases h;done) | simp [part,isAgg,run_underlying hu,hx]
theorem dr_step {T:TypeId} {u:U} {us:List U} {t1 t2:ElL S (u::us)} {c1 c2:List Value} (hs:uOk P u T=true) (h1:DR un D w (u::us) t1 c1) (h2:DR un D w (u::us) t2 c2) :
  ∃v1 r1 v2 r2,c1=v1::r1∧c2=v2::r2∧DR un D w us t1.2 r1∧DR un D w us t2.2 r2∧∀d,(Op.equalIn (d+1) T v1 v2).run P w= .ok (eq1 u t1.1 t2.1) w:=by
 unfold uOk at hs
 cases hu:P.underlying T with
 | none=>rw [hu] at hs;cases u<;>cases hs
 | some ds =>
   rw [hu] at hs
   cases h1 with
   | int h1 =>
     cases h2 with
     | int h2 =>
       cases ds<;>first | (cases hs;done) | skip
       exact ⟨_,_,_,_,rfl,rfl,h1,h2,fun d=>run_equalIn_int w d T _ _ _ _ hu⟩
   | bool h1 =>
     cases h2 with
     | bool h2 =>
       cases ds<;>first | (cases hs;done) | skip
       exact ⟨_,_,_,_,rfl,rfl,h1,h2,fun d=>run_equalIn_bool w d T _ _ hu⟩
   | str h1 =>
     cases h2 with
     | str h2 =>
       cases ds<;>first | (cases hs;done) | skip
       refine ⟨_,_,_,_,rfl,rfl,h1,h2,fun d=> ?_⟩
       rw [run_equalIn_string w d T _ _ hu,toList_str,toList_str]
       rfl
   | sl0=>cases hs
   | sl=>cases hs
   | mp=>cases hs
   | rw=>cases hs
   | st=>cases hs
def fldEq (P:Program):Nat→List Field→List U→Bool
 | _,[],[]=>true
 | k, f :: fs, u :: us => f.name != "_" && Nat.beq f.offset k && uOk P u f.type && fldEq P (k + 1) fs us
 | _,_,_=>false
theorem drop_get {xs:List Value} {k:Nat} {v:Value} {r:List Value} (h:xs.drop k=v::r):xs.toArray[k]? =some v∧xs.drop (k+1)=r:=by
 constructor
 ·have:(xs.drop k)[0]? =some v:=by rw [h];rfl
  simpa using this
 ·rw [←List.drop_drop,h];rfl
theorem eqFields_ok {d:Nat} {xs ys:List Value}:∀{fs:List Field} {us:List U} {k:Nat} {t1 t2:ElL S us} {c1 c2:List Value},fldEq P k fs us=true→DR un D w us t1 c1→DR un D w us t2 c2→xs.drop k=c1→ys.drop k=c2 →
  (Op.eqFields (d+1) xs.toArray ys.toArray fs).run P w= .ok (eqC us t1 t2) w
 | [],[],_,_,_,_,_,_,_,_,_,_=>by simp [Op.eqFields,eqC]
 | f::fs,u::us,k,t1,t2,c1,c2,hf,h1,h2,hx,hy=>by
   simp only [fldEq,Bool.and_eq_true] at hf
   obtain ⟨⟨⟨g1,g2⟩,g3⟩,g4⟩:=hf
   have hk:=Nat.eq_of_beq_eq_true g2
   obtain ⟨v1,r1,v2,r2,rfl,rfl,e1,e2,e3⟩:=dr_step g3 h1 h2
   obtain ⟨a1,a2⟩:=drop_get hx
   obtain ⟨b1,b2⟩:=drop_get hy
   have ih:=eqFields_ok (d:=d) g4 e1 e2 a2 b2
   have hn : f.name ≠ "_" := by simpa using g1
   simp only [Op.eqFields,hn,ne_eq,not_false_eq_true,if_true,Sem.run_bind,hk,part_plain g3 a1,part_plain g3 b1,e3 d,Result.andThen_ok,eqC]
   cases eq1 u t1.1 t2.1 with
   | true=>simpa using ih
   | false=>simp
 | [],_::_,_,_,_,_,_,hf,_,_,_,_=>by simp [fldEq] at hf
 | _::_,[],_,_,_,_,_,hf,_,_,_,_=>by simp [fldEq] at hf
theorem eqItems_ok {d:Nat} {xs ys:List Value} {e:TypeId} (he:P.cellsOf e=1):∀{us:List U} {k:Nat} {t1 t2:ElL S us} {c1 c2:List Value},(us.all fun u=>uOk P u e)=true→DR un D w us t1 c1→DR un D w us t2 c2→xs.drop k=c1→ys.drop k=c2 →
  (Op.eqItems (d+1) e (P.cellsOf e) xs.toArray ys.toArray (List.range' k us.length)).run P w= .ok (eqC us t1 t2) w
 | [],_,_,_,_,_,_,_,_,_,_=>by simp [Op.eqItems,eqC]
 | u::us,k,t1,t2,c1,c2,hf,h1,h2,hx,hy=>by
   simp only [List.all_cons,Bool.and_eq_true] at hf
   obtain ⟨g3,g4⟩:=hf
   obtain ⟨v1,r1,v2,r2,rfl,rfl,e1,e2,e3⟩:=dr_step g3 h1 h2
   obtain ⟨a1,a2⟩:=drop_get hx
   obtain ⟨b1,b2⟩:=drop_get hy
   have ih:=eqItems_ok (d:=d) he g4 e1 e2 a2 b2
   simp only [he] at ih
   simp only [List.length_cons,List.range'_succ,Op.eqItems,Sem.run_bind,he,Nat.mul_one,part_plain g3 a1,part_plain g3 b1,e3 d,Result.andThen_ok,eqC]
   cases eq1 u t1.1 t2.1 with
   | true=>simpa using ih
   | false=>simp
def eqB' (P:Program) (t:TypeId) (d:TypeDesc) (us:List U):Bool:=match d with
 | .struct fs=> !P.stoodInHeld t&&fldEq P 0 fs.toList us
 | .array n e=>Nat.beq n us.length&&Nat.beq (P.cellsOf e) 1&&us.all fun u=>uOk P u e
 | _=>false
def eqB (P:Program) (t:TypeId) (d:TypeDesc) (us:List U):Bool:= !P.eqGuardType P.depth t&&eqB' P t d us
theorem eqIn_ok {t:TypeId} {d:TypeDesc} {us:List U} (hd:P.underlying t=some d) (h:eqB' P t d us=true) (D:Dat) (w:World) (t1 t2:ElL S us) (c1 c2:List Value) (h1:DR un D w us t1 c1) (h2:DR un D w us t2 c2):(Op.equalIn 10000 t (.agg c1.toArray) (.agg c2.toArray)).run P w= .ok (eqC us t1 t2) w:=by
 unfold eqB' at h
 cases d with
 | struct fs =>
   simp only [Bool.and_eq_true,Bool.not_eq_true'] at h
   have hf:P.fieldsOf t=fs:=by unfold Program.fieldsOf;rw [hd]
   rw [show (10000:Nat)=9999+1 from rfl,run_equalIn_agg w 9999 t _ _ (by rw [hf];exact hd) h.1,hf]
   exact eqFields_ok (d:=9998) h.2 h1 h2 rfl rfl
 | array n e =>
   simp only [Bool.and_eq_true] at h
   obtain ⟨⟨g1,g2⟩,g3⟩:=h
   have hn:=Nat.eq_of_beq_eq_true g1
   have he:=Nat.eq_of_beq_eq_true g2
   cases hi:P.info? e with
   | none=>simp [Program.cellsOf,hi] at he
   | some i =>
     rw [show (10000:Nat)=9999+1 from rfl,run_equalIn_array w 9999 _ _ hd hi,List.range_eq_range',hn]
     exact eqItems_ok (d:=9998) he g3 h1 h2 rfl rfl
 | _=>cases h
theorem eq_ok {t:TypeId} {d:TypeDesc} {us:List U} (hd:P.underlying t=some d) (h:eqB P t d us=true) (D:Dat) (w:World) (t1 t2:ElL S us) (c1 c2:List Value) (op:BinOp) (x y:Operand) (h1:DR un D w us t1 c1) (h2:DR un D w us t2 c2) (b:Bool)
  (hb:op= .eql∧b=eqC us t1 t2∨op= .neq∧b= !eqC us t1 t2) :
  (eqGuard op t x y (.agg c1.toArray) (.agg c2.toArray)).run P w= .ok () w∧(binOp op t (.agg c1.toArray) (.agg c2.toArray)).run P w= .ok (.bool b) w:=by
 unfold eqB at h
 simp only [Bool.and_eq_true,Bool.not_eq_true'] at h
 obtain ⟨hg,h⟩:=h
 refine ⟨run_eqGuard_agg w op t x y _ _ hg,?_⟩
 have key:=eqIn_ok hd (show eqB' P t d us=true from h) D w t1 t2 c1 c2 h1 h2
 rcases hb with ⟨rfl,rfl⟩ | ⟨rfl,rfl⟩
 ·rw [run_eql_struct,key];rfl
 ·rw [run_neq_struct,key];rfl
theorem dr_same:∀{us:List U} {t1 t2:ElL S us} {c1 c2:List Value},us.all U.scalar=true→DR un D w us t1 c1→DR un D w us t2 c2→eqC us t1 t2=true→c1=c2
 | [],_,_,_,_,_,h1,h2,_=>by cases h1;cases h2;rfl
 | u::us,t1,t2,c1,c2,hs,h1,h2,he=>by
   simp only [List.all_cons,Bool.and_eq_true] at hs
   simp only [eqC,Bool.and_eq_true] at he
   cases h1 with
   | int h1 =>
     cases h2 with
     | int h2 =>
       have h3:eI (hd t1)=eI (hd t2):=of_decide_eq_true he.1
       rw [h3,dr_same hs.2 h1 h2 he.2]
   | bool h1 =>
     cases h2 with
     | bool h2 =>
       have h3:eB (hd t1)=eB (hd t2):=by have:=he.1;exact eq_of_beq this
       rw [h3,dr_same hs.2 h1 h2 he.2]
   | str h1 =>
     cases h2 with
     | str h2 =>
       have h3:eS (hd t1)=eS (hd t2):=by have:=he.1;exact eq_of_beq this
       rw [h3,dr_same hs.2 h1 h2 he.2]
   | sl0=>exact absurd hs.1 (by simp [U.scalar])
   | sl=>exact absurd hs.1 (by simp [U.scalar])
   | mp=>exact absurd hs.1 (by simp [U.scalar])
   | rw=>exact absurd hs.1 (by simp [U.scalar])
   | st=>exact absurd hs.1 (by simp [U.scalar])
theorem dr_bits:∀{us:List U} {t:ElL S us} {c:List Value} (n:Nat),us.all U.scalar=true→DR un D w us t c→∀v∈c,Instr.sameBits n v v=true
 | [],_,_,_,_,h,v,hv=>by cases h;cases hv
 | u::us,t,c,n,hs,h,v,hv=>by
   simp only [List.all_cons,Bool.and_eq_true] at hs
   cases h with
   | int h =>
     rcases List.mem_cons.1 hv with rfl | hv
     ·cases n<;>simp [Instr.sameBits]
     ·exact dr_bits n hs.2 h v hv
   | bool h =>
     rcases List.mem_cons.1 hv with rfl | hv
     ·cases n<;>simp [Instr.sameBits]
     ·exact dr_bits n hs.2 h v hv
   | str h =>
     rcases List.mem_cons.1 hv with rfl | hv
     ·cases n<;>simp [Instr.sameBits,MapKept.bytes_beq]
     ·exact dr_bits n hs.2 h v hv
   | sl0=>exact absurd hs.1 (by simp [U.scalar])
   | sl=>exact absurd hs.1 (by simp [U.scalar])
   | mp=>exact absurd hs.1 (by simp [U.scalar])
   | rw=>exact absurd hs.1 (by simp [U.scalar])
   | st=>exact absurd hs.1 (by simp [U.scalar])
theorem zip_self {p:Value→Value→Bool}:∀{l:List Value},(∀v∈l,p v v=true)→((l.zip l).all fun (x,y)=>p x y)=true
 | [],_=>rfl
 | v::l,h=>by simp only [List.zip_cons_cons,List.all_cons,Bool.and_eq_true];exact ⟨h v (by simp),zip_self fun x hx=>h x (by simp [hx])⟩
theorem key_same {k:U} (hk:U.key un k=true) {x y:El S k} {a b:Value} (ha:Rep un [] D w (inj k x) a) (hb:Rep un [] D w (inj k y) b) (he:keq un k x y=true):a=b:=by
 cases k with
 | st n =>
   simp only [inj,Rep] at ha hb
   obtain ⟨c1,rfl,h1⟩:=ha
   obtain ⟨c2,rfl,h2⟩:=hb
   rw [dr_same (by simpa [U.key] using hk) (sg_st h1) (sg_st h2) he]
 | int q=>simp only [inj,Rep] at ha hb;subst ha;subst hb;have h9: @BEq.beq Int _ x y=true:=he;have: @Eq Int x y:=eq_of_beq h9;exact congrArg (Value.int q) this
 | bool=>simp only [inj,Rep] at ha hb;subst ha;subst hb;have h9: @BEq.beq Bool _ x y=true:=he;have: @Eq Bool x y:=eq_of_beq h9;exact congrArg Value.bool this
 | str=>simp only [inj,Rep] at ha hb;subst ha;subst hb;have h9: @BEq.beq (List UInt8) _ x y=true:=he;have: @Eq (List UInt8) x y:=eq_of_beq h9;exact congrArg (fun l:List UInt8=>Value.string ⟨l.toArray⟩) this
 | sl u=>simp [U.key,U.scalar] at hk
 | mp u v=>simp [U.key,U.scalar] at hk
 | rw u=>simp [U.key,U.scalar] at hk
theorem bits_int (n:Nat) (q:IntKind) (x:Int):Instr.sameBits n (.int q x) (.int q x)=true:=by cases n<;>simp [Instr.sameBits]
theorem bits_bool (n:Nat) (x:Bool):Instr.sameBits n (.bool x) (.bool x)=true:=by cases n<;>simp [Instr.sameBits]
theorem bits_str (n:Nat) (x:ByteArray):Instr.sameBits n (.string x) (.string x)=true:=by cases n<;>simp [Instr.sameBits,MapKept.bytes_beq]
theorem same_str (l m:List UInt8):((ByteArray.mk l.toArray)==(ByteArray.mk m.toArray))=(l==m):=by
 rw [Bool.eq_iff_iff,MapKept.bytes_beq];simp
theorem key_stays {k:U} (hk:U.key un k=true) {x:El S k} {a:Value} (ha:Rep un [] D w (inj k x) a):(Instr.keyThatStays a a).run P w= .ok a w:=by
 have:Instr.sameBits 10000 a a=true:=by
  cases k with
  | st n =>
    simp only [inj,Rep] at ha
    obtain ⟨c1,rfl,h1⟩:=ha
    have h2:=dr_bits 9999 (by simpa [U.key] using hk) (sg_st h1)
    rw [show (10000:Nat)=9999+1 from rfl]
    simp only [Instr.sameBits,beq_self_eq_true,Bool.true_and]
    exact zip_self (p:=Instr.sameBits 9999) h2
  | int q=>simp only [inj,Rep] at ha;subst ha;exact bits_int _ _ _
  | bool=>simp only [inj,Rep] at ha;subst ha;exact bits_bool _ _
  | str=>simp only [inj,Rep] at ha;subst ha;exact bits_str _ _
  | sl u=>simp [U.key,U.scalar] at hk
  | mp u v=>simp [U.key,U.scalar] at hk
  | rw u=>simp [U.key,U.scalar] at hk
 simp [Instr.keyThatStays,this]
theorem find_now {d:TypeDesc} {k:U} {a:Value} {x:El S k} (h:∀(y:El S k) (b:Value),Rep un [] D w (inj k y) b→Instr.sameNow d a b=some (keq un k x y)):∀{l:List (El S k)} {es:List MapEntry} (i:Nat),KeysRep un D w k l es→Instr.findNow d a es i=some (findL (l.map (keq un k x)) es i)
 | [],[],_,_=>rfl
 | y::l,e::es,i,hr=>by
   have h1:=h y e.key hr.1
   unfold Instr.findNow
   rw [h1]
   simp only [List.map_cons]
   cases keq un k x y with
   | true=>rfl
   | false=>simp only [findL];exact find_now h (i+1) hr.2
 | [],_::_,_,hr=>hr.elim
 | _::_,[],_,hr=>hr.elim
theorem find_ask {kt:TypeId} {k:U} {a:Value} {x:El S k} (h:∀(y:El S k) (b:Value),Rep un [] D w (inj k y) b→(Op.equal kt a b).run P w= .ok (keq un k x y) w):∀{l:List (El S k)} {es:List MapEntry} (i:Nat),KeysRep un D w k l es→(Instr.findAsking kt a es i).run P w= .ok (findL (l.map (keq un k x)) es i) w
 | [],[],_,_=>by simp [Instr.findAsking,findL]
 | y::l,e::es,i,hr=>by
   have h1:=h y e.key hr.1
   unfold Instr.findAsking
   simp only [Sem.run_bind,h1,Result.andThen,List.map_cons]
   cases keq un k x y with
   | true=>simp [findL]
   | false=>simp only [findL];exact find_ask h (i+1) hr.2
 | [],_::_,_,hr=>hr.elim
 | _::_,[],_,hr=>hr.elim
theorem check_plain {T:TypeId} {u:U} (h:uOk P u T=true) (n:Nat) (em:Bool) {v:Value} (hv:∃(x:El S u),Rep un [] D w (inj u x) v):(Instr.checkKey em (n+1) T v).run P w= .ok () w:=by
 obtain ⟨x,hx⟩:=hv
 unfold uOk at h
 cases hu:P.underlying T with
 | none=>rw [hu] at h;cases u<;>cases h
 | some d =>
   rw [hu] at h
   cases u with
   | int k=>simp only [inj,Rep] at hx;subst hx;cases d<;>first | (cases h;done) | simp [Instr.checkKey,run_underlying hu]
   | bool=>simp only [inj,Rep] at hx;subst hx;cases d<;>first | (cases h;done) | simp [Instr.checkKey,run_underlying hu]
   | str=>simp only [inj,Rep] at hx;subst hx;cases d<;>first | (cases h;done) | simp [Instr.checkKey,run_underlying hu]
   | _=>cases d<;>cases h
theorem dr_val {u:U} {us:List U} {t:ElL S (u::us)} {c:List Value} (hs:U.scalar u=true) (h:DR un D w (u::us) t c):∃v r,c=v::r∧DR un D w us t.2 r∧∃x:El S u,Rep un [] D w (inj u x) v:=by
 cases h with
 | int h=>exact ⟨_,_,rfl,h,_,by simp only [inj,Rep];rfl⟩
 | bool h=>exact ⟨_,_,rfl,h,_,by simp only [inj,Rep];rfl⟩
 | str h=>exact ⟨_,_,rfl,h,_,by simp only [inj,Rep];rfl⟩
 | sl0=>simp [U.scalar] at hs
 | sl=>simp [U.scalar] at hs
 | mp=>simp [U.scalar] at hs
 | rw=>simp [U.scalar] at hs
 | st=>simp [U.scalar] at hs
theorem check_fields {n:Nat} {em:Bool} {xs:List Value}:∀{fs:List Field} {us:List U} {k:Nat} {t:ElL S us} {c:List Value},fldEq P k fs us=true→us.all U.scalar=true→DR un D w us t c→xs.drop k=c →
  (forIn (m:=Sem) fs PUnit.unit fun f _=>do
   if f.name ≠ "_" then Instr.checkKey em (n + 1) f.type (← part f.type xs.toArray f.offset)
   pure (ForInStep.yield PUnit.unit)).run P w= .ok PUnit.unit w
 | [],[],_,_,_,_,_,_,_=>by simp
 | f::fs,u::us,k,t,c,hf,hs,h,hx=>by
   simp only [fldEq,Bool.and_eq_true] at hf
   obtain ⟨⟨⟨g1,g2⟩,g3⟩,g4⟩:=hf
   simp only [List.all_cons,Bool.and_eq_true] at hs
   have hk:=Nat.eq_of_beq_eq_true g2
   obtain ⟨v,r,rfl,h1,hv⟩:=dr_val hs.1 h
   obtain ⟨a1,a2⟩:=drop_get hx
   have ih:=check_fields (n:=n) (em:=em) g4 hs.2 h1 a2
   have hn : f.name ≠ "_" := by simpa using g1
   have hc:=check_plain (P:=P) g3 n em hv
   simp only [List.forIn_cons,Sem.run_bind,hn,ne_eq,not_false_eq_true,if_true,hk,part_plain g3 a1,hc,Result.andThen_ok,Sem.run_pure]
   exact ih
 | [],_::_,_,_,_,hf,_,_,_=>by simp [fldEq] at hf
 | _::_,[],_,_,_,hf,_,_,_=>by simp [fldEq] at hf
def keyB (P:Program) (un:Uni S) (kt:TypeId) (k:U):Bool:=match k with
 | .st n=>(un.codes n).all U.scalar&&(match P.underlying kt with
   | some (.struct fs)=>eqB' P kt (.struct fs) (un.codes n)
   | _=>false)
 | u=>u.scalar&&uOk P u kt
theorem keyB_ok {kt:TypeId} {k:U} (h:keyB P un kt k=true):KeyOk P un kt k:=by
 unfold keyB at h
 split at h
 ·rename_i n
  simp only [Bool.and_eq_true] at h
  obtain ⟨hs,h⟩:=h
  have hkey:U.key un (.st n)=true:=hs
  split at h
  ·rename_i fs hd
   have heq:∀(D:Dat) (w:World) (x y:El S (.st n)) (a b:Value),Rep un [] D w (inj (.st n) x) a→Rep un [] D w (inj (.st n) y) b→(Op.equal kt a b).run P w= .ok (keq un (.st n) x y) w:=by
    intro D w x y a b ha hb
    simp only [inj,Rep] at ha hb
    obtain ⟨c1,rfl,h1⟩:=ha
    obtain ⟨c2,rfl,h2⟩:=hb
    exact eqIn_ok hd h D w _ _ c1 c2 (sg_st h1) (sg_st h2)
   refine ⟨fun D w x a l es ha hr=> ?_,fun D w x a em ha=> ?_,fun D w x y a b ha hb he=> ?_⟩
   ·have hask:=find_ask (P:=P) (kt:=kt) (fun y b hb=>heq D w x y a b ha hb) 0 hr
    unfold Instr.findKey
    simp only [Sem.run_bind,run_underlying hd,Result.andThen_ok]
    cases es with
    | nil=>cases l with
      | nil=>simp [Instr.findNow,findL]
      | cons y l=>exact hr.elim
    | cons e es =>
      have hnone:Instr.findNow (.struct fs) a (e::es) 0=none:=by
       simp only [inj,Rep] at ha
       obtain ⟨c1,rfl,_⟩:=ha
       rfl
      rw [hnone];exact hask
   ·simp only [inj,Rep] at ha
    obtain ⟨c1,rfl,h1⟩:=ha
    simp only [eqB',Bool.and_eq_true] at h
    have:=check_fields (P:=P) (n:=9998) (em:=em) h.2 hs (sg_st h1) (xs:=c1) rfl
    rw [show (10000:Nat)=9999+1 from rfl,Instr.checkKey]
    simp only [Sem.run_bind,run_underlying hd,Result.andThen_ok]
    rw [←Array.forIn_toList]
    first
     | exact this
     | (simp only [this,Result.andThen_ok,Sem.run_pure];done)
   ·have:=key_same hkey ha hb he
    subst this
    exact key_stays hkey ha
  ·cases h
 ·rename_i u hu
  simp only [Bool.and_eq_true] at h
  obtain ⟨hs,h⟩:=h
  have hkey:U.key un k=true:=by cases k<;>first | exact hs | exact absurd rfl (hu _)
  refine ⟨fun D w x a l es ha hr=> ?_,fun D w x a em ha=> ?_,fun D w x y a b ha hb he=> ?_⟩
  ·obtain ⟨d,hd⟩:∃d,P.underlying kt=some d:=by
    unfold uOk at h
    cases hd:P.underlying kt with
    | none=>rw [hd] at h;cases k<;>cases h
    | some d=>exact ⟨d,rfl⟩
   have hnow:=find_now (d:=d) (a:=a) (x:=x) (fun y b hb=>by
    unfold uOk at h
    rw [hd] at h
    cases k with
    | int q=>simp only [inj,Rep] at ha hb;subst ha;subst hb;cases d<;>first | (cases h;done) | simp [Instr.sameNow,keq,eq1]
    | bool=>simp only [inj,Rep] at ha hb;subst ha;subst hb;cases d<;>first | (cases h;done) | simp [Instr.sameNow,keq,eq1]
    | str =>
      simp only [inj,Rep] at ha hb;subst ha;subst hb
      cases d<;>first | (cases h;done) | skip
      exact congrArg some (same_str x y)
    | _=>cases d<;>cases h) 0 hr
   unfold Instr.findKey
   simp only [Sem.run_bind,run_underlying hd,Result.andThen_ok,hnow]
   rfl
  ·exact check_plain h 9999 em ⟨x,ha⟩
  ·have:=key_same hkey ha hb he
   subst this
   exact key_stays hkey ha
def eqRow (P:Program) (un:Uni S) (t:TypeId) (d:TypeDesc) (r:TyRow S):Bool:=match r.code with
 | some (.st n)=> !((un.codes n).all U.scalar&&Nat.beq r.fields.length (un.codes n).length)||eqB P t d (un.codes n)
 | _=>true
def mpB (P:Program) (un:Uni S) (d:TypeDesc) (r:TyRow S):Bool:=match r.mp with
 | some (kt,k,vt,_)=>(match d with
   | .map a b=>Nat.beq a kt&&Nat.beq b vt&&keyB P un kt k
   | _=>false)
 | none=>true
theorem rowOk_of {t:TypeId} {r:TyRow S} (d:TypeDesc) (z:Value) (hd:P.underlying t=some d) (hz:(P.info? t).bind (·.zero)=some z) (hn:(P.info? t).map (·.size)=some r.n) (hzz:r.zero=z.cells.toList.map constPV)
  (hc:(Nat.beq z.cells.size r.n&&rowB P un d r&&eqRow P un t d r&&zB z r.agg&&mpB P un d r&&arrB P un d r)=true):RowOk P un t r:=by
 simp only [Bool.and_eq_true] at hc
 obtain ⟨⟨⟨⟨⟨h1,h2⟩,h3⟩,h4⟩,h5⟩,h6⟩:=hc
 refine row_of hd hz hn h1 hzz h2 h4 h6 (fun kt k vt v hm=> ?_) fun n hcd hs=> ?_
 ·unfold mpB at h5
  rw [hm] at h5
  cases d with
  | map a b =>
    simp only [Bool.and_eq_true] at h5
    rw [Nat.eq_of_beq_eq_true h5.1.1,Nat.eq_of_beq_eq_true h5.1.2]
    exact ⟨rfl,keyB_ok h5.2⟩
  | _=>cases h5
 unfold eqRow at h3
 rw [hcd] at h3
 simp only [hs,Bool.not_true,Bool.false_or] at h3
 exact eq_ok hd h3
end Pe
end
section
/- A seat's tables, row by row. -/
namespace Pe
open Go Go.RowKit
variable {S:Nat→Type} {P:Program} {un:Uni S}
def Tr.All {α:Type} (p:Nat→α→Prop):Tr α→Prop
 | .leaf=>True
 | .node l k v r=>l.All p∧p k v∧r.All p
theorem Tr.all_get {α:Type} {p:Nat→α→Prop}:∀{T:Tr α},T.All p→∀i v,T.get i=some v→p i v
 | .leaf,_,_,_,h=>by cases h
 | .node l k u r,ha,i,v,h=>by
   obtain ⟨h1,h2,h3⟩:=ha
   unfold Tr.get at h
   cases hb:Nat.beq i k with
   | true=>rw [hb] at h;cases h;rw [Nat.eq_of_beq_eq_true hb];exact h2
   | false =>
     rw [hb] at h
     cases hc:Nat.blt i k with
     | true=>rw [hc] at h;exact Tr.all_get h1 i v h
     | false=>rw [hc] at h;exact Tr.all_get h3 i v h
def nst:U→Bool
 | .st _=>false
 | _=>true
theorem flat_of (h:∀n,(un.codes n).all nst=true):Flat un:=fun n u hu=>by
 have:=List.all_eq_true.1 (h n) u hu
 cases u<;>first | (cases this;done) | exact ⟨rfl,fun m hm=>by cases hm⟩
def Enters (P:Program) (f:FuncId):Prop:=∀args w,(callFunc f args).run P w= .ok (.enter f args) w
theorem enters_of {f : FuncId} {fn : Func} (h : P.funcs[f]? = some fn) (hn : (fn.name == "runtime.NumGoroutine") = false) (hb : fn.body.isNone = false) : Enters P f := fun args w => by
 have hn' : ¬ fn.name = "runtime.NumGoroutine" := by simpa using hn
 have hb':¬fn.body=none:=by intro hc;rw [hc] at hb;simp at hb
 simp [callFunc,program,Sem.run,h,hn',hb']
def SigOk (P:Program) (f:FuncId):Sig→Prop
 | .data _ _=>Enters P f
 | .inl fn _ _=>P.funcs[f]? =some fn∧Enters P f
 | .eff _ _ _ _ _ _=>Enters P f
 | .effI fn _ _ _ _ _ _=>P.funcs[f]? =some fn∧Enters P f
 | .lin g=>Enters P f∧g.ok=true
 | .bld k T Eb=>BldOk P f k T Eb∧Enters P f
 | .inpl _ _ _=>Enters P f
theorem tbOk_of {tb:Tb S} (h1:tb.ty.All (RowOk P un)) (h2:tb.sig.All (SigOk P)):TbOk P un tb :=
 ⟨fun t r h=>Tr.all_get h1 t r h,fun f _ _ h=>Tr.all_get h2 f _ h,fun f _ _ _ _ _ _ h=>Tr.all_get h2 f _ h,fun f _ _ _ _ _ _ _ h=>Tr.all_get h2 f _ h,fun f _ _ _ h=>Tr.all_get h2 f _ h,fun f _ h=>Tr.all_get h2 f _ h,fun f _ _ _ h=>Tr.all_get h2 f _ h,fun f _ _ _ h=>Tr.all_get h2 f _ h⟩
end Pe
end
section
/- What is known of callees, as a table. -/
namespace Pe
open Go Go.RowKit
variable {S:Nat→Type} {P:Program} {un:Uni S}
def usEq:(a b:List U)→Option (PLift (a=b))
 | [],[]=>some ⟨rfl⟩
 | u::us,v::vs=>match U.eq? u v,usEq us vs with | some ⟨h⟩,some ⟨k⟩=>some ⟨by rw [h,k]⟩ | _,_=>none
 | _,_=>none
def proj1:(u:U)→PV S→Option (El S u)
 | .int k,.int k' n=>if k=k' then some n else none
 | .bool,.bool b=>some b
 | .str,.str s=>some s
 | .sl u,.sl v l=>match U.eq? v u with | some ⟨h⟩=>some (h▸l) | none=>none
 | .st n,.st m x=>match natEq m n with | some ⟨h⟩=>some (h▸x) | none=>none
 | _,_=>none
theorem proj1_inj {u:U} {p:PV S} {x:El S u} (h:proj1 u p=some x):p=inj u x:=by
 unfold proj1 at h
 split at h
 ·split at h
  ·rename_i hk;cases h;subst hk;rfl
  ·cases h
 ·cases h;rfl
 ·cases h;rfl
 ·split at h
  ·rename_i hk _;subst hk;cases h;rfl
  ·cases h
 ·split at h
  ·rename_i hk _;subst hk;cases h;rfl
  ·cases h
 ·cases h
def projL:(us:List U)→List (PV S)→Option (ElL S us)
 | [],[]=>some ()
 | u::us,p::ps=>match proj1 u p,projL us ps with
   | some x,some t=>some (x,t)
   | _,_=>none
 | _,_=>none
theorem projL_inj:∀{us:List U} {ps:List (PV S)} {t:ElL S us},projL us ps=some t→ps=injL us t
 | [],[],_,_=>rfl
 | u::us,p::ps,t,h=>by
   unfold projL at h
   split at h
   ·rename_i x t' h1 h2
    cases h
    rw [proj1_inj h1,projL_inj h2];rfl
   ·cases h
 | [],_::_,_,h=>by cases h
 | _::_,[],_,h=>by cases h
structure Entry (S:Nat→Type) where
 us:List U
 rs:List U
 spec:ElL S us→Option (ElL S rs)
def Entry.run (e:Entry S) (args:List (PV S)) (rs:List U):Option (ElL S rs) :=
 match usEq e.rs rs with | some ⟨h⟩=>(projL e.us args).bind fun t=>h▸e.spec t | none=>none
structure EntryE (S:Nat→Type) where
 k:Nat
 us:List U
 ts:List TypeId
 lc:List U
 rs:List U
 ps:List U
 pan:TypeId
 spec:ElL S lc→ElL S us→Option (Out S lc rs ps)
def leads:Nat→Nat→List (PV S)→Option (List (PV S))
 | 0,_,l=>some l
 | n+1,j,.ptr b 0::r=>bif Nat.beq b j then leads n (j+1) r else none
 | _+1,_,_=>none
theorem leads_spec:∀{n j:Nat} {args l:List (PV S)},leads n j args=some l→args=(List.range' j n).map (fun i=> .ptr i 0)++l
 | 0,_,_,_,h=>by simp only [leads] at h;cases h;simp
 | n+1,j,args,l,h=>by
   unfold leads at h
   split at h
   ·cases ‹n+1=0›
   ·rename_i b r heq
    cases heq
    obtain ⟨h1,h2⟩:=bif_some h
    have:=Nat.eq_of_beq_eq_true h1
    subst this
    rw [leads_spec h2];simp [List.range'_succ]
   ·cases h
def natsEq:(a b:List Nat)→Bool
 | [],[]=>true
 | a::r,b::s=>Nat.beq a b&&natsEq r s
 | _,_=>false
theorem natsEq_eq:∀{a b:List Nat},natsEq a b=true→a=b
 | [],[],_=>rfl
 | a::r,b::s,h=>by simp only [natsEq,Bool.and_eq_true] at h;rw [Nat.eq_of_beq_eq_true h.1,natsEq_eq h.2]
 | [],_::_,h=>by cases h
 | _::_,[],h=>by cases h
def castOut {lc lc' rs rs' ps ps':List U} (h1:lc=lc') (h2:rs=rs') (h3:ps=ps') (x:Option (Out S lc rs ps)):Option (Out S lc' rs' ps'):=by
 subst h1;subst h2;subst h3;exact x
def EntryE.run (e:EntryE S) (args:List (PV S)) (ts:List TypeId) (lc:List U) (c:ElL S lc) (rs ps:List U) (pan:TypeId):Option (Out S lc rs ps) :=
 bif natsEq e.ts ts&&Nat.beq e.pan pan then
  match usEq e.lc lc,usEq e.rs rs,usEq e.ps ps with
  | some ⟨h1⟩,some ⟨h2⟩,some ⟨h3⟩=>(leads e.k 0 args).bind fun l=>(projL e.us l).bind fun t=>castOut h1 h2 h3 (e.spec (h1.symm▸c) t)
  | _,_,_=>none
 else none
def ptrArgs (k:Nat):List (PV S):=(List.range' 0 k).map fun i=> .ptr i 0
def EntryE.Ok (P:Program) (un:Uni S) (f:Nat) (e:EntryE S):Prop:=∀c t r,e.spec c t=some r→SatE P un f (ptrArgs e.k++injL e.us t) e.ts e.lc c e.rs e.ps e.pan r
def lEq {α:Type} (f:(a b:α)→Option (PLift (a=b))):(l m:List α)→Option (PLift (l=m))
 | [],[]=>some ⟨rfl⟩
 | a::l,b::m=>match f a b with
   | some ⟨h⟩=>(match lEq f l m with | some ⟨k⟩=>some ⟨by rw [h,k]⟩ | none=>none)
   | none=>none
 | _,_=>none
def ctyEq:(a b:CTy)→Option (PLift (a=b))
 | .fr u,.fr v=>match U.eq? u v with | some ⟨h⟩=>some ⟨by rw [h]⟩ | none=>none
 | .own u T,.own v T'=>match U.eq? u v with | some ⟨h⟩=>(match natEq T T' with | some ⟨k⟩=>some ⟨by rw [h,k]⟩ | none=>none) | none=>none
 | .wr u T,.wr v T'=>match U.eq? u v with | some ⟨h⟩=>(match natEq T T' with | some ⟨k⟩=>some ⟨by rw [h,k]⟩ | none=>none) | none=>none
 | _,_=>none
def argEq:(a b:Arg)→Option (PLift (a=b))
 | .one c,.one d=>match ctyEq c d with | some ⟨h⟩=>some ⟨by rw [h]⟩ | none=>none
 | .agg c,.agg d=>match lEq ctyEq c d with | some ⟨h⟩=>some ⟨by rw [h]⟩ | none=>none
 | .ref k,.ref j=>match natEq k j with | some ⟨h⟩=>some ⟨by rw [h]⟩ | none=>none
 | .ptr k o,.ptr j p=>match natEq k j with | some ⟨h⟩=>(match natEq o p with | some ⟨q⟩=>some ⟨by rw [h,q]⟩ | none=>none) | none=>none
 | .fn k,.fn j=>match natEq k j with | some ⟨h⟩=>some ⟨by rw [h]⟩ | none=>none
 | .nil,.nil=>some ⟨rfl⟩
 | _,_=>none
def boolEq:(a b:Bool)→Option (PLift (a=b))
 | true,true=>some ⟨rfl⟩
 | false,false=>some ⟨rfl⟩
 | _,_=>none
def bsEq (a b:Bool×TypeId×List CTy):Option (PLift (a=b)):=match a,b with
 | (f,T,l),(g,T',m)=>match boolEq f g with
   | some ⟨h⟩=>(match natEq T T' with
     | some ⟨k⟩=>(match lEq ctyEq l m with | some ⟨q⟩=>some ⟨by rw [h,k,q]⟩ | none=>none)
     | none=>none)
   | none=>none
def sgEq (a b:Sg):Option (PLift (a=b)):=match a,b with
 | ⟨as1,bs,rs,ps,pan⟩,⟨as2,bs',rs',ps',pan'⟩=>match lEq argEq as1 as2 with
   | some ⟨h1⟩=>(match lEq bsEq bs bs' with
     | some ⟨h2⟩=>(match lEq argEq rs rs' with
       | some ⟨h3⟩=>(match usEq ps ps' with
         | some ⟨h4⟩=>(match natEq pan pan' with
           | some ⟨h5⟩=>some ⟨by rw [h1,h2,h3,h4,h5]⟩
           | none=>none)
         | none=>none)
       | none=>none)
     | none=>none)
   | none=>none
structure EntryL (S:Nat→Type) where
 g:Sg
 spec:g.In S→Option (g.Out S)
def EntryL.run (e:EntryL S) (g:Sg) (t:g.In S):Option (g.Out S) :=
 match sgEq e.g g with
 | some ⟨h⟩=>h▸e.spec (h.symm▸t)
 | none=>none
def EntryL.Ok (P:Program) (un:Uni S) (f:Nat) (e:EntryL S):Prop:=∀t r,e.spec t=some r→SatL P un f e.g t r
structure EntryP (S:Nat→Type) where
 u:U
 T:TypeId
 k:Option FuncId
 spec:List (El S u)→Option (List (El S u))
def EntryP.args (e:EntryP S):List (PV S):=match e.k with
 | none=>[]
 | some g=>[.func (.func g) [] []]
def argsB:Option FuncId→List (PV S)→Bool
 | none,[]=>true
 | some g,[.func (.func g') [] []]=>Nat.beq g g'
 | _,_=>false
def EntryP.run (e:EntryP S) (u:U) (T:TypeId) (args:List (PV S)) (l:List (El S u)):Option (List (El S u)) :=
 match U.eq? e.u u with
 | some ⟨h⟩=>bif Nat.beq e.T T&&argsB e.k args then h▸e.spec (h▸l) else none
 | none=>none
def runPs:List (EntryP S)→(u:U)→(T:TypeId)→List (PV S)→List (El S u)→Option (List (El S u))
 | [],_,_,_,_=>none
 | e::r,u,T,args,l=>match e.run u T args l with
   | some x=>some x
   | none=>runPs r u T args l
def EntryP.Ok (P:Program) (un:Uni S) (f:Nat) (e:EntryP S):Prop:=∀l l',e.spec l=some l'→SatP P un f e.u e.T e.args l l'
def EntryPs.Ok (P:Program) (un:Uni S) (f:Nat) (l:List (EntryP S)):Prop:=∀e∈l,EntryP.Ok P un f e
theorem runPs_ok {f:Nat}:∀{es:List (EntryP S)},EntryPs.Ok P un f es→∀u T args l l',runPs es u T args l=some l'→SatP P un f u T args l l'
 | [],_,_,_,_,_,_,h=>by cases h
 | e::r,hok,u,T,args,l,l',h=>by
   unfold runPs at h
   split at h
   ·rename_i x hx
    cases h
    unfold EntryP.run at hx
    split at hx
    ·rename_i heq _
     subst heq
     obtain ⟨h1,h2⟩:=bif_some hx
     simp only [Bool.and_eq_true] at h1
     have hT:=Nat.eq_of_beq_eq_true h1.1
     subst hT
     have ha:args=e.args:=by
      have h3:=h1.2
      unfold EntryP.args
      cases hk:e.k with
      | none =>
        rw [hk] at h3
        cases args with
        | nil=>rfl
        | cons x y=>cases h3
      | some g =>
        rw [hk] at h3
        unfold argsB at h3
        split at h3
        ·rename_i heq;cases heq
        ·rename_i g0 g' heq;cases heq;rw [Nat.eq_of_beq_eq_true h3]
        ·cases h3
     rw [ha]
     exact hok e (by simp) l l' h2
    ·cases hx
   ·exact runPs_ok (fun e' he=>hok e' (by simp [he])) u T args l l' h
def orcT (T:Tr (Entry S)) (TE:Tr (EntryE S)) (TL:Tr (EntryL S)) (TP:Tr (List (EntryP S))):Orc S where
 p f u T args l:=match TP.get f with
   | some es=>runPs es u T args l
   | none=>none
 d f args rs:=match T.get f with
   | some e=>e.run args rs
   | none=>none
 e f args ts lc c rs ps pan:=match TE.get f with
   | some e=>e.run args ts lc c rs ps pan
   | none=>none
 l f g t:=match TL.get f with
   | some e=>e.run g t
   | none=>none
def Entry.Ok (P:Program) (un:Uni S) (f:Nat) (e:Entry S):Prop:=∀t r,e.spec t=some r→Sat P un f (injL e.us t) e.rs r
theorem orcT_sound {T:Tr (Entry S)} {TE:Tr (EntryE S)} {TL:Tr (EntryL S)} {TP:Tr (List (EntryP S))} (h:T.All (Entry.Ok P un)) (hE:TE.All (EntryE.Ok P un)) (hL:TL.All (EntryL.Ok P un)) (hP:TP.All (EntryPs.Ok P un)):SoundO P un (orcT T TE TL TP):=by
 refine ⟨fun f args rs r hr=> ?_,fun f args ts lc c rs ps pan r hr=> ?_,fun f g t r hr=> ?_,fun f u T args l l' hr=> ?_⟩
 ·unfold orcT at hr
  simp only at hr
  split at hr
  ·rename_i e he
   have hok:=Tr.all_get h f e he
   unfold Entry.run at hr
   split at hr
   ·rename_i hrs _
    subst hrs
    simp only [Option.bind_eq_some_iff] at hr
    obtain ⟨t,h1,h2⟩:=hr
    rw [projL_inj h1]
    exact hok t r h2
   ·cases hr
  ·cases hr
 ·unfold orcT at hr
  simp only at hr
  split at hr
  ·rename_i e he
   have hok:=Tr.all_get hE f e he
   unfold EntryE.run at hr
   obtain ⟨h1,h2⟩:=bif_some hr
   simp only [Bool.and_eq_true] at h1
   have e1:=natsEq_eq h1.1
   have e2:=Nat.eq_of_beq_eq_true h1.2
   split at h2
   ·rename_i k1 k2 k3 _ _ _
    subst e1;subst e2;subst k1;subst k2;subst k3
    simp only [Option.bind_eq_some_iff] at h2
    obtain ⟨l,h3,t,h4,h5⟩:=h2
    rw [leads_spec h3,projL_inj h4]
    exact hok c t r h5
   ·cases h2
  ·cases hr
 ·unfold orcT at hr
  simp only at hr
  split at hr
  ·rename_i e he
   have hok:=Tr.all_get hL f e he
   unfold EntryL.run at hr
   split at hr
   ·rename_i k _
    subst k
    exact hok t r hr
   ·cases hr
  ·cases hr
 ·unfold orcT at hr
  simp only at hr
  split at hr
  ·rename_i es he
   exact runPs_ok (Tr.all_get hP f es he) u T args l l' hr
  ·cases hr
end Pe
end
section
/- Loops of the models, round by round. -/
namespace Pe
theorem iter_le {σ R:Type} {f:σ→Option (σ⊕R)} {r:R}:∀{n m:Nat} {x:σ},iter f n x=some r→n≤m→iter f m x=some r
 | 0,_,_,h,_=>by cases h
 | n+1,0,_,_,hm=>absurd hm (by omega)
 | n+1,m+1,x,h,hm=>by
   unfold iter at h ⊢
   split at h
   ·exact iter_le h (by omega)
   ·exact h
   ·cases h
theorem loopM_of {σ R:Type} {f:σ→Option (σ⊕R)} {r:R} {n:Nat} {x:σ} (h:iter f n x=some r):loopM f x=some r:=by
 have hx:∃n,(iter f n x).isSome:=⟨n,by rw [h];rfl⟩
 unfold loopM
 rw [dif_pos hx]
 have h2:=Classical.choose_spec hx
 cases h3:iter f (Classical.choose hx) x with
 | none=>rw [h3] at h2;cases h2
 | some r' =>
   have a:=iter_le h (Nat.le_max_left n (Classical.choose hx))
   have b:=iter_le h3 (Nat.le_max_right n (Classical.choose hx))
   rw [a] at b;exact b.symm
theorem loopM_end {σ R:Type} {f:σ→Option (σ⊕R)} {r:R} {x:σ} (h:f x=some (.inr r)):loopM f x=some r:=loopM_of (n:=1) (by simp [iter,h])
theorem loopM_next {σ R:Type} {f:σ→Option (σ⊕R)} {x y:σ} (h:f x=some (.inl y)):loopM f x=loopM f y:=by
 cases hy:loopM f y with
 | some r =>
   obtain ⟨n,hn⟩:=loopM_some hy
   exact loopM_of (n:=n+1) (by simp [iter,h,hn])
 | none =>
   cases hx:loopM f x with
   | none=>rfl
   | some r =>
     obtain ⟨n,hn⟩:=loopM_some hx
     cases n with
     | zero=>cases hn
     | succ n=>simp only [iter,h] at hn;rw [loopM_of hn] at hy;cases hy
end Pe
end
section
/- What is handed in: a reading of plain data by a row gives a value of the pure reading. -/
namespace Pe
open Go Go.RowKit
variable {S:Nat→Type} {P:Program} {un:Uni S}
def Flds (M:U→TypeId→Prop) (P:Program):Nat→List Field→List U→Prop
 | _,[],[]=>True
 | k,f::fs,u::us=>f.offset=k∧P.cellsOf f.type=1∧M u f.type∧Flds M P (k+1) fs us
 | _,_,_=>False
def Step (P:Program) (un:Uni S) (M:U→TypeId→Prop):U→TypeId→Prop
 | .int k,t=>P.underlying t=some (.int k)
 | .bool,t=>P.underlying t=some .bool
 | .str,t=>P.underlying t=some .string
 | .sl u,t=>∃e,P.underlying t=some (.slice e)∧P.cellsOf e=U.size un u∧0<U.size un u∧M u e
 | .st n,t=>P.cellsOf t=(un.codes n).length∧((∃fs,P.underlying t=some (.struct fs)∧Flds M P 0 fs.toList (un.codes n)) ∨
   ∃k e u,P.underlying t=some (.array k e)∧P.cellsOf e=1∧un.codes n=List.replicate k u∧M u e)
 | .mp _ _,_=>False
 | .rw _,_=>False
inductive Rd {H:Type} (un:Uni S):(us:List U)→ElL S us→List (DataW H)→Prop
 | nil {t}:Rd un [] t []
 | int {k us} {t:ElL S (.int k::us)} {ds} (hw:(Lit.int k (eI (hd t))).wf=true) (h:Rd un us (tl t) ds):Rd un (.int k::us) t (.lit (.int k (eI (hd t)))::ds)
 | bool {us} {t:ElL S (.bool::us)} {ds} (h:Rd un us (tl t) ds):Rd un (.bool::us) t (.lit (.bool (eB (hd t)))::ds)
 | str {us} {t:ElL S (.str::us)} {ds} (hs:(eS (hd t)).length≤maxLen) (h:Rd un us (tl t) ds):Rd un (.str::us) t (.lit (.string (eS (hd t)))::ds)
 | sl0 {u us} {t:ElL S (.sl u::us)} {ds} (h0:eL (hd t)=[]) (h:Rd un us (tl t) ds):Rd un (.sl u::us) t (.nil::ds)
 | sl {u us} {t:ElL S (.sl u::us)} {ds} (es sp:List (DataW H)) (hl:es.length=(eL (hd t)).length)
   (h1:∀(i:Nat) (x:El S u) (d:DataW H),(eL (hd t))[i]? =some x→es[i]? =some d→Rd un [u] (sg x) [d]) (h:Rd un us (tl t) ds):Rd un (.sl u::us) t (.slice es sp::ds)
 | st {n us} {t:ElL S (.st n::us)} {ps ds} (h1:Rd un (un.codes n) (un.get n (eT (hd t))) ps) (h:Rd un us (tl t) ds):Rd un (.st n::us) t (.agg ps::ds)
theorem DR.one_cons {D:Dat} {w:World} {u:U} {us:List U} {x:El S u} {t:ElL S us} {c cs:List Value} (h1:DR un D w [u] (sg x) c) (h2:DR un D w us t cs):DR un D w (u::us) (two x t) (c++cs):=by
 cases h1 with
 | int h=>cases h;exact .int h2
 | bool h=>cases h;exact .bool h2
 | str h=>cases h;exact .str h2
 | sl0 A c h0 h=>cases h;exact .sl0 A c h0 h2
 | sl b off c cs hc a1 a2 h=>cases h;exact .sl b off c cs hc a1 a2 h2
 | mp kc vc a1 a2 h=>cases h;exact .mp kc vc a1 a2 h2
 | rw cs a1 h=>cases h;exact .rw cs a1 h2
 | st a1 h=>cases h;rw [List.append_nil];exact .st a1 h2
theorem Rd.one_cons {H:Type} {u:U} {us:List U} {x:El S u} {t:ElL S us} {c:DataW H} {cs:List (DataW H)} (h1:Rd un [u] (sg x) [c]) (h2:Rd un us t cs):Rd un (u::us) (two x t) (c::cs):=by
 cases h1 with
 | int hw h=>exact .int hw h2
 | bool h=>exact .bool h2
 | str hs h=>exact .str hs h2
 | sl0 h0 h=>exact .sl0 h0 h2
 | sl es sp hl a1 h=>exact .sl es sp hl a1 h2
 | st a1 h=>exact .st a1 h2
section
variable {H:Type}
theorem Rd.inv_str {us:List U} {t:ElL S (.str::us)} {ds:List (DataW H)} (h:Rd un (.str::us) t ds):∃r,ds= .lit (.string (eS (hd t)))::r∧(eS (hd t)).length≤maxLen∧Rd un us (tl t) r:=by
 cases h with | str hs h=>exact ⟨_,rfl,hs,h⟩
theorem Rd.inv_sl {u:U} {us:List U} {t:ElL S (.sl u::us)} {ds:List (DataW H)} (h:Rd un (.sl u::us) t ds) :
  ∃d r,ds=d::r∧((d= .nil∧eL (hd t)=[])∨∃es sp,d= .slice es sp∧es.length=(eL (hd t)).length∧∀(i:Nat) (x:El S u) (d:DataW H),(eL (hd t))[i]? =some x→es[i]? =some d→Rd un [u] (sg x) [d])∧Rd un us (tl t) r:=by
 cases h with
 | sl0 h0 h=>exact ⟨_,_,rfl,.inl ⟨rfl,h0⟩,h⟩
 | sl es sp hl h1 h=>exact ⟨_,_,rfl,.inr ⟨es,sp,rfl,hl,h1⟩,h⟩
theorem Rd.inv_st {n:Nat} {us:List U} {t:ElL S (.st n::us)} {ds:List (DataW H)} (h:Rd un (.st n::us) t ds):∃ps r,ds= .agg ps::r∧Rd un (un.codes n) (un.get n (eT (hd t))) ps∧Rd un us (tl t) r:=by
 cases h with | st h1 h=>exact ⟨_,_,rfl,h1,h⟩
end
def allD (w:World):Dat:=fun k _=>k<w.heap.size
theorem cell_lt {w:World} {a:Addr} {v:Value} (h:w.cell? a=some v):a.block<w.heap.size∧a.spot=none:=by
 unfold World.cell? at h
 split at h
 ·rename_i c _ _ hb
  refine ⟨(Array.getElem?_eq_some_iff.1 hb).1,?_⟩
  split at h
  ·cases h
  ·rename_i hs;simpa using hs
 ·cases h
theorem add_at (a:Addr) (h:a.spot=none) (n:Nat):a.add n=⟨a.block,a.off+n,none⟩:=by
 unfold Addr.add
 obtain ⟨b,o,s⟩:=a
 simp only at h
 subst h
 split
 ·rename_i h0;subst h0;rfl
 ·rfl
theorem list_of {α:Type} {Q:Nat→α→Prop}:∀(n:Nat),(∀i,i<n→∃p,Q i p)→∃l:List α,l.length=n∧∀(i:Nat) (p:α),l[i]? =some p→Q i p
 | 0,_=>⟨[],rfl,fun i p h=>by simp at h⟩
 | n+1,h=>by
   obtain ⟨l,h1,h2⟩:=list_of n fun i hi=>h i (by omega)
   obtain ⟨p,hp⟩:=h n (by omega)
   refine ⟨l++[p],by simp [h1],fun i q hq=> ?_⟩
   rcases Nat.lt_or_ge i n with hlt | hge
   ·rw [List.getElem?_append_left (by omega)] at hq;exact h2 i q hq
   ·rw [List.getElem?_append_right (by omega),h1] at hq
    cases hk:i - n with
    | zero=>rw [hk] at hq;simp at hq;subst hq;obtain rfl:i=n:=by omega
            exact hp
    | succ k=>rw [hk] at hq;simp at hq
section
variable {H:Type} {enc:TypeId×Value→H} {w:World} {base:Nat} {spare:Nat→Bool} {held:Bool} {M:U→TypeId→Prop}
theorem in_list {n:Nat} (ih:∀u t cs x,DataW.trod enc P w base spare held n t cs=some x→M u t→∃y:El S u,DR un (allD w) w [u] (sg y) cs∧Rd un [u] (sg y) [x.1]) :
  ∀(us:List U) (ts:List TypeId) (cs:List Value) (xs:List (DataW H×List MemPlace)),ts.length=us.length→cs.length=us.length→xs.length=us.length →
   (∀(i:Nat) (u:U) (t:TypeId),us[i]? =some u→ts[i]? =some t→M u t)→(∀(i:Nat) (t:TypeId),ts[i]? =some t→DataW.trod enc P w base spare held n t ((cs.drop i).take 1)=xs[i]?) →
   ∃y:ElL S us,DR un (allD w) w us y cs∧Rd un us y (xs.map (·.1))
 | [],_,cs,xs,_,h2,h3,_,_=>by
   obtain rfl:=List.length_eq_zero_iff.1 h2
   obtain rfl:=List.length_eq_zero_iff.1 h3
   exact ⟨(),.nil,.nil⟩
 | u::us,ts,cs,xs,h1,h2,h3,h4,h5=>by
   match ts,cs,xs,h1,h2,h3 with
   | t::ts,c::cs,x::xs,h1,h2,h3 =>
     have a:=h5 0 t rfl
     obtain ⟨y,y1,y2⟩:=ih u t [c] x (by simpa using a) (h4 0 u t rfl rfl)
     obtain ⟨z,z1,z2⟩:=in_list ih us ts cs xs (by simpa using h1) (by simpa using h2) (by simpa using h3) (fun i u t hu ht=>h4 (i+1) u t (by simpa using hu) (by simpa using ht)) (fun i t ht=>by simpa using h5 (i+1) t (by simpa using ht))
     exact ⟨two y z,DR.one_cons y1 z1,Rd.one_cons y2 z2⟩
theorem Flds.get:∀{k:Nat} {fs:List Field} {us:List U},Flds M P k fs us→fs.length=us.length∧∀(i:Nat) (f:Field) (u:U),fs[i]? =some f→us[i]? =some u→f.offset=k+i∧P.cellsOf f.type=1∧M u f.type
 | _,[],[],_=>⟨rfl,fun i f u h=>by simp at h⟩
 | k,f::fs,u::us,h=>by
   obtain ⟨a,b,c,d⟩:=h
   obtain ⟨h1,h2⟩:=Flds.get d
   refine ⟨by simp [h1],fun i g v hg hv=> ?_⟩
   cases i with
   | zero=>simp at hg hv;subst hg;subst hv;exact ⟨a,b,c⟩
   | succ i=>simp at hg hv;have:=h2 i g v hg hv;exact ⟨by omega,this.2⟩
 | _,[],_::_,h=>by simp [Flds] at h
 | _,_::_,[],h=>by simp [Flds] at h
theorem in_data (hun:∀n t,un.get n (un.put n t)=t) (hM:∀u t,M u t→Step P un M u t):∀(n:Nat) (u:U) (t:TypeId) (cs:List Value) (x:DataW H×List MemPlace),
  DataW.trod enc P w base spare held n t cs=some x→M u t→∃y:El S u,DR un (allD w) w [u] (sg y) cs∧Rd un [u] (sg y) [x.1]:=by
 intro n
 induction n with
 | zero=>intro u t cs x h;simp [DataW.trod] at h
 | succ n ih =>
   intro u t cs x h hm
   have hs:=hM u t hm
   cases u with
   | mp k v=>exact hs.elim
   | rw u=>exact hs.elim
   | int k =>
     obtain ⟨z,rfl,rfl,hw⟩:=DataW.trod_int hs h
     exact ⟨z,.int .nil,.int hw .nil⟩
   | bool =>
     obtain ⟨b,rfl,rfl⟩:=DataW.trod_bool hs h
     exact ⟨b,.bool .nil,.bool .nil⟩
   | str =>
     obtain ⟨s,rfl,rfl,hl⟩:=DataW.trod_string hs h
     refine ⟨s.data.toList,?_,.str (by show s.data.toList.length≤maxLen;simpa using hl) .nil⟩
     have:=DR.str (un:=un) (D:=allD w) (w:=w) (us:=[]) (t:=sg (u:= .str) s.data.toList) (vs:=[]) .nil
     exact this
   | sl u =>
     obtain ⟨e,he,hc,hpos,hme⟩:=hs
     rcases DataW.trod_slice he h with ⟨rfl,rfl⟩ | ⟨a,len,cap,elems,rest,m,hmn,rfl,rfl,hb,hl,hcap,hel,hget,_,_⟩
     ·exact ⟨([]:List (El S u)),.sl0 none 0 rfl .nil,.sl0 rfl .nil⟩
     ·obtain rfl:n=m:=by omega
      have one:∀i,i<len→∃(ci:List Value) (y:El S u),w.cells? base (a.add (i*P.cellsOf e)) (P.cellsOf e)=some ci∧DR un (allD w) w [u] (sg y) ci∧∃d,elems[i]? =some d∧Rd un [u] (sg y) [d.1]:=by
       intro i hi
       have h1:=hget i hi
       rw [List.getElem?_eq_getElem (by omega)] at h1
       cases hci:w.cells? base (a.add (i*P.cellsOf e)) (P.cellsOf e) with
       | none=>simp [hci] at h1
       | some ci =>
         rw [hci] at h1
         obtain ⟨y,y1,y2⟩:=ih u e ci _ h1 hme
         exact ⟨ci,y,rfl,y1,_,List.getElem?_eq_getElem (by omega),y2⟩
      by_cases h0:len=0
      ·subst h0
       obtain rfl:=List.length_eq_zero_iff.1 hel
       exact ⟨([]:List (El S u)),.sl0 _ _ rfl .nil,.sl [] _ rfl (fun i x d hx=>by
        have hx':([]:List (El S u))[i]? =some x:=hx
        simp at hx') .nil⟩
      obtain ⟨l,l1,l2⟩:=list_of (Q:=fun i (p:List Value×El S u)=>w.cells? base (a.add (i*P.cellsOf e)) (P.cellsOf e)=some p.1∧DR un (allD w) w [u] (sg p.2) p.1∧∃d,elems[i]? =some d∧Rd un [u] (sg p.2) [d.1]) len (fun i hi=>by
       obtain ⟨ci,y,h1,h2,h3⟩:=one i hi
       exact ⟨(ci,y),h1,h2,h3⟩)
      have cellsAt:∀(i:Nat) (p:List Value×El S u),l[i]? =some p→p.1.length=P.cellsOf e∧∀(j:Nat) v,p.1[j]? =some v→w.cell? ((a.add (i*P.cellsOf e)).add j)=some v:=by
       intro i p hp
       obtain ⟨h1,_,_⟩:=l2 i p hp
       unfold World.cells? at h1
       split at h1
       ·have hlen:=mapM_some_length h1
        refine ⟨by simpa using hlen,fun j v hj=> ?_⟩
        have hlt:j<P.cellsOf e:=by have:=(List.getElem?_eq_some_iff.1 hj).1;simp at hlen;omega
        have:=mapM_some_get h1 j j (by simp [hlt])
        rw [this,hj]
       ·cases h1
      have hspot:a.spot=none:=by
       obtain ⟨p,hp⟩:∃p,l[0]? =some p:=⟨_,List.getElem?_eq_getElem (by omega)⟩
       obtain ⟨c1,c2⟩:=cellsAt 0 p hp
       obtain ⟨v,hv⟩:∃v,p.1[0]? =some v:=⟨_,List.getElem?_eq_getElem (by omega)⟩
       have:=(cell_lt (c2 0 v hv)).2
       simpa [Addr.add] using this
      have hsize:P.cellsOf e=U.size un u:=hc
      have hlmap:(l.map (·.2)).length=len:=by simp [l1]
      refine ⟨l.map (·.2),?_,?_⟩
      ·obtain ⟨b,o,sp⟩:=a
       simp only at hspot
       subst hspot
       have:=DR.sl (un:=un) (D:=allD w) (w:=w) (u:=u) (us:=[]) (t:=sg (u:= .sl u) (l.map (·.2))) (vs:=[]) b o cap (fun i=>((l[i]?).map (·.1)).getD []) (by
         show (l.map (·.2)).length≤cap
         omega) (fun i x hx=>by
        have hx':(l.map (·.2))[i]? =some x:=hx
        rw [List.getElem?_map] at hx'
        cases hp:l[i]? with
        | none=>simp [hp] at hx'
        | some p =>
          obtain ⟨_,c2⟩:=cellsAt i p hp
          simp only [Option.map_some,Option.getD_some]
          intro j v hj
          have:=c2 j v hj
          rw [add_at ⟨b,o,none⟩ rfl,add_at _ rfl,hsize] at this
          exact ⟨(cell_lt this).1,this⟩) (fun i x hx=>by
        have hx':(l.map (·.2))[i]? =some x:=hx
        rw [List.getElem?_map] at hx'
        cases hp:l[i]? with
        | none=>simp [hp] at hx'
        | some p =>
          simp only [hp,Option.map_some,Option.some.injEq] at hx'
          subst hx'
          exact (l2 i p hp).2.1) .nil
       have e2:(eL (hd (sg (u:= .sl u) (l.map (·.2))))).length=len:=hlmap
       rw [e2] at this
       exact this
      ·exact .sl _ _ (by rw [List.length_map,hel];exact hlmap.symm) (fun i x d hx hd'=>by
        have hx':(l.map (·.2))[i]? =some x:=hx
        rw [List.getElem?_map] at hx' hd'
        cases hp:l[i]? with
        | none=>simp [hp] at hx'
        | some p =>
          simp only [hp,Option.map_some,Option.some.injEq] at hx'
          subst hx'
          obtain ⟨_,_,d',q1,q2⟩:=l2 i p hp
          rw [q1] at hd'
          simp only [Option.map_some,Option.some.injEq] at hd'
          subst hd'
          exact q2) .nil
   | st k =>
     obtain ⟨hsz,hs⟩:=hs
     rcases hs with ⟨fs,hu,hf⟩ | ⟨m,e,u,hu,hc,hcodes,hme⟩
     ·obtain ⟨xs,m,hmn,rfl,hcl,hxl,hget⟩:=DataW.trod_struct hu h
      obtain rfl:n=m:=by omega
      obtain ⟨f1,f2⟩:=hf.get
      have f1':fs.size=(un.codes k).length:=by simpa using f1
      obtain ⟨y,y1,y2⟩:=in_list ih (un.codes k) (fs.toList.map (·.type)) cs xs (by simpa using f1) (by omega) (by omega) (fun i u t hu ht=>by
       rw [List.getElem?_map] at ht
       cases hfi:fs.toList[i]? with
       | none=>simp [hfi] at ht
       | some f=>simp [hfi] at ht;subst ht;exact (f2 i f u hfi hu).2.2) (fun i t ht=>by
       rw [List.getElem?_map] at ht
       cases hfi:fs.toList[i]? with
       | none=>simp [hfi] at ht
       | some f =>
         simp only [hfi,Option.map_some,Option.some.injEq] at ht
         subst ht
         have hlt:i<(un.codes k).length:=by have:=(List.getElem?_eq_some_iff.1 hfi).1;omega
         obtain ⟨o1,o2,_⟩:=f2 i f _ hfi (List.getElem?_eq_getElem hlt)
         have:=hget i f (by simpa using hfi)
         rw [o1,o2,Nat.zero_add] at this
         exact this)
      refine ⟨un.put k y,?_,?_⟩
      ·have:=DR.st (un:=un) (D:=allD w) (w:=w) (n:=k) (us:=[]) (t:=sg (u:= .st k) (un.put k y)) (cs:=cs) (vs:=[]) (by
        show DR un (allD w) w (un.codes k) (un.get k (un.put k y)) cs
        rw [hun];exact y1) .nil
       rwa [List.append_nil] at this
      ·exact .st (by
        show Rd un (un.codes k) (un.get k (un.put k y)) _
        rw [hun];exact y2) .nil
     ·obtain ⟨xs,m',hmn,rfl,hcl,hxl,hget⟩:=DataW.trod_array hu h
      obtain rfl:n=m':=by omega
      have hlen:(un.codes k).length=m:=by rw [hcodes];simp
      obtain ⟨y,y1,y2⟩:=in_list ih (un.codes k) (List.replicate m e) cs xs (by simp [hlen]) (by omega) (by omega) (fun i u' t' hu' ht'=>by
       rw [hcodes] at hu'
       rw [List.getElem?_replicate] at hu' ht'
       split at hu'
       ·rename_i hlt;rw [if_pos hlt] at ht';cases hu';cases ht';exact hme
       ·cases hu') (fun i t' ht'=>by
       rw [List.getElem?_replicate] at ht'
       split at ht'
       ·rename_i hlt
        cases ht'
        have:=hget i hlt
        rw [hc,Nat.mul_one] at this
        exact this
       ·cases ht')
      refine ⟨un.put k y,?_,?_⟩
      ·have:=DR.st (un:=un) (D:=allD w) (w:=w) (n:=k) (us:=[]) (t:=sg (u:= .st k) (un.put k y)) (cs:=cs) (vs:=[]) (by
        show DR un (allD w) w (un.codes k) (un.get k (un.put k y)) cs
        rw [hun];exact y1) .nil
       rwa [List.append_nil] at this
      ·exact .st (by
        show Rd un (un.codes k) (un.get k (un.put k y)) _
        rw [hun];exact y2) .nil
end
end Pe
end
section
/- From a pure model's answer to a row's contract: a law of plain data that answers true. -/
namespace Pe
open Go Go.RowKit Go.WideShapes Go.ChangeShapes
variable {S:Nat→Type} {P:Program} {un:Uni S}
section
variable {H:Type} {enc:TypeId×Value→H}
theorem post_below {f:Func} {s:ChangeSpec} {apart fresh handsOn again:Bool} {W W':World} {args:Array Value} {v:Value} {ds gs:List (DataW H)} {before pa pv:List MemPlace}
  (hW:DataW.Whole enc P f.params.toList s.vars apart W args.toList ds gs before)
  (hres:∀(b:Nat) (sp:Nat→Bool) (hd:Bool),DataW.TrodAll enc P W' b sp hd f.resultTypes.toList (v.resultList f.resultTypes.size) (s.fn H (ds++gs)).results [])
  (hargs:∀sp:Nat→Bool,(∀p∈before,sp p.block=true)→DataW.TrodAll enc P W' 0 sp true f.params.toList args.toList (s.fn H (ds++gs)).args pa)
  (hvars:∀sp:Nat→Bool,(∀p∈before,sp p.block=true)→DataW.TrodVars enc P W' sp s.vars (s.fn H (ds++gs)).vars pv)
  (hps:before=pa++pv) (hb:Below W.heap.size W W')
  (hok:∀(j:Nat) (t:TypeId) (r:Value),f.resultTypes[j]? =some t→(v.resultList f.resultTypes.size)[j]? =some r→Value.okWide P W' .any 0 t r) :
  s.post enc P f apart fresh handsOn again W args v W':=by
 have hlt:∀p∈before,p.block<W.heap.size:=fun p hp=>hW.lt p hp
 have hold:∀p∈before,(fun b=>decide (b<W.heap.size)) p.block=true:=fun p hp=>by simpa using hlt p hp
 refine ⟨ds,gs,before,[],pa,pv,hW,hres _ _ _,hargs _ hold,hvars _ hold,World.keptBut_mono (fun p hp=>⟨hp,?_⟩) (hb.frame (· ∈before)),fun _=> ?_⟩
 ·rw [hps,List.mem_append] at hp
  exact Or.inr hp
 ·obtain ⟨_,_,_,_,_,hz,hn⟩:=hW
  refine ⟨hok,_,_,([]++pa)++pv,⟨[]++pa,pv,trodAll_append (hargs _ (fun _ _=>rfl)) (hres _ _ _),hvars _ (fun _ _=>rfl),rfl,?_,?_⟩,?_⟩
  ·intro b off hp
   have hin:MemPlace.cell b off∈before:=by rw [hps];simpa using hp
   rw [hb.frozen (hlt _ hin)]
   exact hz b off hin
  ·intro ha
   have:=hn ha
   rw [hps] at this
   simpa using this
  ·intro p hp _
   rw [hps]
   simpa using hp
def ParOk (P:Program) (M:U→TypeId→Prop):List U→List TypeId→Prop
 | [],[]=>True
 | u::us,t::ts=>M u t∧(∀n,u= .st n→∃fs,P.underlying t=some (.struct fs))∧P.readableRec t=true∧t<P.types.size∧ParOk P M us ts
 | _,_=>False
theorem rep_of {M:U→TypeId→Prop} (hM:∀u t,M u t→Step P un M u t) {u:U} {t:TypeId} (hm:M u t) (hst:∀n,u= .st n→∃fs,P.underlying t=some (.struct fs)) {w:World} {r:Reach} {b:Nat} {v:Value} (hv:Value.okWide P w r b t v)
  {D:Dat} {y:El S u} (h:DR un D w [u] (sg y) v.cells.toList):Rep un [] D w (inj u y) v:=by
 have hs:=hM u t hm
 cases u with
 | mp k v=>exact hs.elim
 | rw u=>exact hs.elim
 | int k =>
   obtain ⟨n,rfl⟩:=okWide_int hs hv
   have h':DR un D w [.int k] (sg y) [.int k n]:=h
   cases h' with
   | int h2=>rfl
 | bool =>
   obtain ⟨n,rfl⟩:=okWide_bool hs hv
   have h':DR un D w [.bool] (sg y) [.bool n]:=h
   cases h' with
   | bool h2=>rfl
 | str =>
   obtain ⟨n,rfl⟩:=okWide_string hs hv
   have h':DR un D w [.str] (sg y) [.string n]:=h
   generalize hx:Value.string n=x at h' ⊢
   cases h' with
   | str h2=>rfl
 | sl u =>
   obtain ⟨e,he,_⟩:=hs
   obtain ⟨a,l,c,rfl⟩:=okWide_slice he hv
   exact h
 | st n =>
   obtain ⟨fs,hfs⟩:=hst n rfl
   obtain ⟨cs,rfl,_⟩:=okWide_struct hfs hv
   exact ⟨cs.toList,rfl,h⟩
theorem rep_all {M:U→TypeId→Prop} (hun:∀n t,un.get n (un.put n t)=t) (hM:∀u t,M u t→Step P un M u t) {w:World} {r:Reach} {base b:Nat} {spare:Nat→Bool} {held:Bool} :
  ∀{us:List U} {ts:List TypeId} {vs:List Value} {ds:List (DataW H)} {ps:List MemPlace},ParOk P M us ts→(∀(j:Nat) t v,ts[j]? =some t→vs[j]? =some v→Value.okWide P w r b t v) →
   DataW.TrodAll enc P w base spare held ts vs ds ps→∃y:ElL S us,RepL un [] (allD w) w (injL us y) vs∧Rd un us y ds
 | [],[],[],[],_,_,_,_=>⟨(),trivial,.nil⟩
 | u::us,t::ts,v::vs,d::ds,ps,hp,hv,⟨p,q,h1,h2,_⟩=>by
   obtain ⟨m1,m2,_,_,m3⟩:=hp
   obtain ⟨fuel,h1⟩:=h1
   obtain ⟨y,y1,y2⟩:=in_data hun hM fuel u t _ _ h1 m1
   obtain ⟨z,z1,z2⟩:=rep_all hun hM (us:=us) m3 (fun j t v ht hvj=>hv (j+1) t v (by simpa using ht) (by simpa using hvj)) h2
   exact ⟨two y z,⟨rep_of hM m1 m2 (hv 0 t v rfl rfl) y1,z1⟩,Rd.one_cons y2 z2⟩
theorem trod_again (hl:laidOutB P=true) {M:U→TypeId→Prop} {W W':World} (hb:Below W.heap.size W W') {sp:Nat→Bool} :
  ∀{us:List U} {ts:List TypeId} {vs:List Value} {ds:List (DataW H)} {ps:List MemPlace},ParOk P M us ts→DataW.TrodAll enc P W 0 (fun _=>true) true ts vs ds ps→(∀p∈ps,p.block<W.heap.size∧sp p.block=true) →
   DataW.TrodAll enc P W' 0 sp true ts vs ds ps
 | [],[],[],[],_,_,h,_=>h
 | u::us,t::ts,v::vs,d::ds,ps,hp,⟨p,q,h1,h2,e⟩,hs=>by
   obtain ⟨_,_,m1,m2,m3⟩:=hp
   subst e
   exact ⟨p,q,WideElems.Trod_stays hl m1 m2 h1 (fun x hx=>hb.same (hs x (List.mem_append_left _ hx)).1) (fun x hx=>(hs x (List.mem_append_left _ hx)).2),
    trod_again hl hb m3 h2 (fun x hx=>hs x (List.mem_append_right _ hx)),rfl⟩
theorem law_contract {M:U→TypeId→Prop} (hun:∀n t,un.get n (un.put n t)=t) (hM:∀u t,M u t→Step P un M u t) (hlo:laidOutB P=true) {f:FuncId} {fn:Func} {tb:TypeId} (hb:P.underlying tb=some .bool)
  (hrt:fn.resultTypes= #[tb]) {us:List U} (hps:ParOk P M us fn.params.toList) {s:ChangeSpec} (hv:s.vars=[])
  (hsp:∀ds:List (DataW H),ds.length=us.length→s.fn H ds={ results:=[.lit (.bool true)],args:=ds })
  (W:World) (base:Nat) (args:Array Value) (ds gs:List (DataW H)) (before:List MemPlace)
  (hval:∀(j:Nat) t v,fn.params[j]? =some t→args[j]? =some v→Value.okWide P W .any base t v)
  (hW:DataW.Whole enc P fn.params.toList s.vars false W args.toList ds gs before)
  (hlaw:∀y:ElL S us,Rd un us y ds→Sat P un f (injL us y) [.bool] (true,())) :
  Calls P f args W fun e W'=>∃v,e= .returned v∧s.post enc P fn false true false false W args v W':=by
 have hW':=hW
 obtain ⟨p,q,hA0,hV,rfl,hfz,hnd⟩:=hW
 have hA:DataW.TrodAll enc P W 0 (fun _=>true) true fn.params.toList args.toList ds p:=hA0
 obtain ⟨y,y1,y2⟩:=rep_all hun hM hps (fun j t v ht hvj=>hval j t v (by simpa using ht) (by simpa using hvj)) hA
 have hlen:ds.length=us.length:=by
  clear hA0 hW' hV hlaw hval hfz hnd
  have:∀{us:List U} {y:ElL S us} {ds:List (DataW H)},Rd un us y ds→ds.length=us.length:=by
   intro us y ds h
   induction h<;>simp_all
  exact this y2
 rw [hv] at hV
 have hgs:gs=[]∧q=[]:=by
  match gs,hV with
  | [],h=>exact ⟨rfl,h⟩
 obtain ⟨rfl,rfl⟩:=hgs
 have hlt:∀x∈p++[],x.block<W.heap.size:=fun x hx=>hW'.lt x hx
 refine (hlaw y y2 (allD W) W args.toList (fun k o h=>h) y1).mono fun e W' ⟨v,h1,h2,h3⟩=> ?_
 have h3':v= .bool true:=h3
 subst h1
 subst h3'
 have hfn:s.fn H (ds++[])={ results:=[.lit (.bool true)],args:=ds }:=by rw [List.append_nil];exact hsp ds hlen
 refine ⟨_,rfl,post_below (pa:=p) (pv:=[]) hW' (fun b sp hd=> ?_) (fun sp hs=> ?_) (fun sp _=> ?_) rfl h2 (ok_one hrt rfl (okWide_bool_mk hb _))⟩
 ·rw [hfn,hrt]
  exact trodAll_cons_mk (shut_bool hb _) trodAll_mk0
 ·rw [hfn]
  exact trod_again hlo h2 hps hA (fun x hx=>⟨hlt x (by simpa using hx),hs x (by simpa using hx)⟩)
 ·rw [hfn,hv];rfl
end
end Pe
end
section
/- strings.Builder's methods do what the pure reading expects of them: over any program that bears their bodies. -/
set_option linter.unusedVariables false
namespace Pe
open Go Go.RowKit Go.Shelf Go.Proofs
section
variable {P:Program} {ρ:Ren} {w w':World}
theorem BldAt.is {T e:TypeId} {b:Nat} {v:Value} {xs:List Value} (h:BldAt T e b v xs w):∃p A n c,w.heap[b]? =some (.cells #[p,v] T (0,0))∧v= .slice A n c∧(p= .pointer none∨p= .pointer (some ⟨b,0,none⟩))∧Lib.BuilderAt T e 0 b p xs w:=by
 obtain ⟨⟨p,A,n,c,h1,h2,h3⟩,h4,h5⟩:=h
 exact ⟨p,A,n,c,h1,h2,h3,Nat.zero_le _,v,h1,h4,h5⟩
theorem bld_check (L:Lays.n240 P ρ) (X:Builder.X72 P ρ) {b:Nat} {v:Value} {xs:List Value} (h:BldAt (ρ.t 72) (ρ.t 5) b v xs w) :
  Calls P (ρ.f 240) #[.pointer (some ⟨b,0,none⟩)] w fun e w'=>e= .returned (.tuple #[])∧w'.heap[b]? =some (.cells #[.pointer (some ⟨b,0,none⟩),v] (ρ.t 72) (0,0))∧w.grownBy w' (some b):=by
 obtain ⟨p,A,n,c,h1,h2,h3,h4⟩:=h.is
 rcases h3 with rfl | rfl
 ·refine (Any.Builder_copyCheck_fresh L X b w h4.cell0 h4.shape h4.frozen0).mono ?_
  rintro e w' ⟨rfl,rfl⟩
  refine ⟨rfl,by simp [World.setCell,Array.getElem?_modify,h1],⟨rfl,rfl,rfl,by simp [World.setCell],fun k hk hne=> ?_⟩⟩
  simp only [World.setCell]
  rw [Array.getElem?_modify,if_neg (fun h=>hne (by rw [←h]))]
 ·refine (Any.Builder_copyCheck_used L X b w h4.cell0).mono ?_
  rintro e w' ⟨rfl,rfl⟩
  exact ⟨rfl,h1,World.grownBy.refl _ _⟩
theorem owns_kept {e:TypeId} {v:Value} {n:Nat} {xs:List Value} {b:Nat} (h:w.ownsRow 0 e 1 v n xs) (hb:v.ownBlock≠some b) (hg:w.grownBy w' (some b)):w'.ownsRow 0 e 1 v n xs:=by
 refine ⟨h.1,?_⟩
 rcases h.2 with h1 | ⟨g,cap,cur,rfl,h2,h3,h4⟩
 ·exact .inl h1
 ·have hgl:g<w.heap.size:=(Array.getElem?_eq_some_iff.1 h3).1
  exact .inr ⟨g,cap,cur,rfl,h2,(hg.block g hgl fun h=>hb (by simp [Value.ownBlock,h])).trans h3,h4⟩
theorem run_append_str (w:World) {t u ty e:TypeId} {i:TypeInfo} (ht:P.underlying t=some (.slice e)) (hu:P.underlying u=some .string) (hi:P.info? e=some i) (hz:i.zero=some (.int .u8 0)) (hsize:i.size=1) (hby:i.bytes=1)
  {v:Value} {n:Nat} {xs:List Value} (hown:w.ownsRow 0 e 1 v n xs) (s:ByteArray) (hb:n+s.size≤4294967296) :
  ∃v' w',(Builtin.append_ #[t,u] ty #[v,.string s]).run P w= .ok v' w'∧w'.ownsRow 0 e 1 v' (n+s.size) (xs++Lib.strCells s)∧w.grownBy w' v.ownBlock∧(∀k,v'.ownBlock=some k→v.ownBlock=some k∨w.heap.size≤k):=by
 have h63:n+s.size≤maxLen:=by unfold maxLen;omega
 have hxl:xs.length=n:=by simpa using hown.1
 have hlen:(xs++Lib.strCells s).length=(n+s.size)*1:=by rw [List.length_append,hxl,Lib.strCells_length,Nat.mul_one]
 have fresh:∀(old:Nat),(w.drew.alloc (.cells (xs.toArray++(Lib.strCells s).toArray++Builtin.zeroCells (Value.int .u8 0).cells (grownCap w (n+s.size) old e - (n+s.size))) e)).ownsRow 0 e 1
    (.slice (some ⟨w.heap.size,0,none⟩) (n+s.size) (grownCap w (n+s.size) old e)) (n+s.size) (xs++Lib.strCells s):=fun old=>by
  have hge:=grownCap_ge w (n+s.size) old e
  refine ⟨hlen,.inr ⟨w.heap.size,_,_,rfl,Nat.zero_le _,heap_alloc_new w.drew _,hge,grownCap_le_maxLen w (n+s.size) old e h63,?_,?_⟩⟩
  ·have hz1:(Value.int IntKind.u8 0).cells.size=1:=rfl
   simp only [Array.size_append,List.size_toArray,size_zeroCells,hz1,hxl,Lib.strCells_length]
   omega
  ·simp only [Array.toList_append,List.append_assoc]
   rw [←List.append_assoc,←hlen]
   exact List.take_left
 have kept:∀(cs:Array Value) (row:Option Nat),w.grownBy (w.drew.alloc (.cells cs e)) row:=fun cs row=>⟨rfl,rfl,rfl,by simp,fun k hk _=>Lib.alloc_old w.drew _ k hk⟩
 have new:∀(m c:Nat) k,(Value.slice (some ⟨w.heap.size,0,none⟩) m c).ownBlock=some k→v.ownBlock=some k∨w.heap.size≤k:=fun m c k hk=>by simp [Value.ownBlock] at hk;omega
 rcases hown.2 with ⟨rfl,rfl⟩ | ⟨g,cap,cur,rfl,hbg,hg,hnc,hcm,hcs,htake⟩
 ·have hx:xs=[]:=List.eq_nil_of_length_eq_zero hxl
  subst hx
  by_cases hm:s.size=0
  ·have hn:Lib.strCells s=[]:=List.eq_nil_of_length_eq_zero (by rw [Lib.strCells_length];exact hm)
   have hf:=Lib.run_firstCells_string (P:=P) w 1 s
   rw [hm] at hf
   exact ⟨.slice none 0 0,w,by simp [Builtin.append_,run_underlying ht,run_underlying hu,Go.sizeOf,typeInfo,hi,hsize,Builtin.lenOf,hm,hf],by rw [hm,hn];exact World.ownsRow_nil w 0 e 1,World.grownBy.refl _ _,fun k hk=> .inl hk⟩
  ·have hr:=run_append_nil_string (P:=P) w t u ty e i (.int .u8 0) ht hu hi hz s (by omega) (by unfold maxLen at h63;omega) (by rw [hby];omega)
   have hgr:=fresh 0
   simp only [Nat.zero_add,List.nil_append,Array.empty_append] at hgr ⊢
   have e1:(s.data.map fun b=>Value.int .u8 b.toNat)=(Lib.strCells s).toArray:=by
    apply Array.ext'
    simp [Lib.strCells]
   rw [e1] at hr
   exact ⟨_,_,hr,hgr,kept _ _,new _ _⟩
 ·by_cases hroom:n+s.size≤cap
  ·have hr:=Lib.run_append_room_string (P:=P) w t u ty e i ht hu hi hsize g n cap cur hg s hroom (by omega)
   refine ⟨_,_,hr,⟨hlen,.inr ⟨g,cap,_,rfl,hbg,setRow_heap w g cur _ e _ hg,hroom,hcm,?_,?_⟩⟩,⟨rfl,rfl,rfl,by simp,fun k _ hk=>setRow_other w g k _ (fun e=>hk (by simp [Value.ownBlock,e]))⟩,fun k hk=> .inl hk⟩
   ·simp only [List.size_toArray,List.length_append,List.length_take,List.length_drop,Array.length_toList,Lib.strCells_length]
    omega
   ·have ht':cur.toList.take n=xs:=by simpa using htake
    rw [ht',←hlen]
    exact List.take_left
  ·have hr:=Lib.run_append_grow_string (P:=P) w t u ty e i (.int .u8 0) ht hu hi hz ⟨g,0,none⟩ n cap xs (by rw [hsize];simpa using hxl) (hown.cells (g:=g) rfl) s (by omega) (by unfold maxLen at h63;omega) (by rw [hby];exact growslice_fits (by omega) (by omega))
   exact ⟨_,_,hr,fresh cap,kept _ _,new _ _⟩
theorem append_str_wp {ops:Array Oper} {rest:List Oper} {o:Oper} {a:Act} {Q:Exit→Act→World→Prop} (hgd:o.guard=none) (sl x:Operand) (t u:TypeId) (ho:o.op= .call { callee:= .builtin .append,args:= #[sl,x],argTypes:= #[t,u] })
  (e:TypeId) (i:TypeInfo) (ht:P.underlying t=some (.slice e)) (hu:P.underlying u=some .string) (hi:P.info? e=some i) (hz:i.zero=some (.int .u8 0)) (hsize:i.size=1) (hby:i.bytes=1)
  {v:Value} {n:Nat} {xs:List Value} (hs:a.eval sl=v) (hown:w.ownsRow 0 e 1 v n xs) (s:ByteArray) (hx:a.eval x= .string s) (hb:n+s.size≤4294967296)
  (h:∀v' w',w'.ownsRow 0 e 1 v' (n+s.size) (xs++Lib.strCells s)→w.grownBy w' v.ownBlock→(∀k,v'.ownBlock=some k→v.ownBlock=some k∨w.heap.size≤k)→wpList P ops Q rest (a.put o.dst v') w'):wpList P ops Q (o::rest) a w:=by
 refine wpList_plain hgd fun K hK=> ?_
 obtain ⟨v',w',hr,h2,h3,h4⟩:=run_append_str (P:=P) w (ty:=o.type) ht hu hi hz hsize hby hown s hb
 unfold Oper.wp execOp
 simp only [ho,resolve,invoke,builtin,Sem.run_bind,Sem.run_pure,Result.andThen_ok,List.map_toArray,List.map_cons,List.map_nil,hs,hx,hr]
 exact hK _ _ (h v' w' h2 h3 h4)
theorem append_wp {ops:Array Oper} {rest:List Oper} {o:Oper} {a:Act} {Q:Exit→Act→World→Prop} (hgd:o.guard=none) (sl x:Operand) (t:TypeId) (ho:o.op= .call { callee:= .builtin .append,args:= #[sl,x],argTypes:= #[t,t] })
  (e:TypeId) (i:TypeInfo) (z:Value) (ht:P.underlying t=some (.slice e)) (hi:P.info? e=some i) (hz:i.zero=some z) (hsize:i.size=1) (hby:i.bytes=1) (hzs:z.cells.size=1)
  {v:Value} {n:Nat} {xs:List Value} (hs:a.eval sl=v) (hown:w.ownsRow 0 e 1 v n xs) (ad:Addr) (m c:Nat) (news:List Value) (hx:a.eval x= .slice (some ad) m c) (hl:news.length=m*1) (hnews:∀j u,news[j]? =some u→w.cell? (ad.add j)=some u) (h1:∀u∈news,u.oneCell'=true) (hb:n+m≤4294967296)
  (h:∀v' w',w'.ownsRow 0 e 1 v' (n+m) (xs++news)→w.grownBy w' v.ownBlock→(∀k,v'.ownBlock=some k→v.ownBlock=some k∨w.heap.size≤k)→wpList P ops Q rest (a.put o.dst v') w'):wpList P ops Q (o::rest) a w:=by
 refine wpList_plain hgd fun K hK=> ?_
 obtain ⟨v',w',hr,h2,h3,_,h4⟩:=run_append_own_at (P:=P) w 0 t o.type e i z 1 1 ht hi hz hsize hby hzs (by decide) v n xs hown ad m c news hl hnews h1 (by unfold maxLen;omega) (by omega) (Nat.zero_le _)
 unfold Oper.wp execOp
 simp only [ho,resolve,invoke,builtin,Sem.run_bind,Sem.run_pure,Result.andThen_ok,List.map_toArray,List.map_cons,List.map_nil,hs,hx,hr]
 refine hK _ _ (h v' w' h2 h3 fun k hk=> ?_)
 rcases h4 with h4 | h4
 ·exact .inl (h4▸hk)
 ·rw [h4] at hk;cases hk;exact .inr (Nat.le_refl _)
theorem bld_put_row {b:Nat} {v v':Value} {ys:List Value} {w1 w2:World} (h1:w1.heap[b]? =some (.cells #[.pointer (some ⟨b,0,none⟩),v] (ρ.t 72) (0,0))) (hg1:w.grownBy w1 (some b)) (hn:ρ.t 72≠ρ.t 5) (hne:v.ownBlock≠some b)
  (hown:w2.ownsRow 0 (ρ.t 5) 1 v' ys.length ys) (hg2:∀k,k<w1.heap.size→v.ownBlock≠some k→w2.heap[k]? =w1.heap[k]?) (hos:w2.os=w1.os∧w2.tape=w1.tape∧w2.output=w1.output∧w1.heap.size≤w2.heap.size) (hblk:∀k,v'.ownBlock=some k→v.ownBlock=some k∨w1.heap.size≤k) {A:Option Addr} {n c:Nat} (hv':v'= .slice A n c) :
  BldPut (ρ.t 72) (ρ.t 5) b v ys w (w2.setCell ⟨b,1,none⟩ v'):=by
 have hbl:b<w1.heap.size:=(Array.getElem?_eq_some_iff.1 h1).1
 have hb2:w2.heap[b]? =some (.cells #[.pointer (some ⟨b,0,none⟩),v] (ρ.t 72) (0,0)):=(hg2 b hbl hne).trans h1
 have hput:=Lib.BuilderAt.put (T:=ρ.t 72) (e:=ρ.t 5) (B:=0) (Nat.zero_le _) hb2 hown hn
 obtain ⟨_,v2,k1,k2,k3⟩:=hput
 have k0:(w2.setCell ⟨b,1,none⟩ v').heap[b]? =some (.cells #[.pointer (some ⟨b,0,none⟩),v'] (ρ.t 72) (0,0)):=by simp [World.setCell,Array.getElem?_modify,hb2]
 rw [k0] at k1
 simp at k1
 subst k1
 refine ⟨v',⟨⟨_,A,n,c,k0,hv',.inr rfl⟩,k2,k3⟩,fun k hk=>(hblk k hk).imp id fun h=>Nat.le_trans hg1.size h,⟨?_,?_,?_,?_,fun k hk hkb hkv=> ?_⟩⟩
 ·exact hos.1.trans hg1.os
 ·exact hos.2.1.trans hg1.tape
 ·exact hos.2.2.1.trans hg1.output
 ·simp only [World.setCell,Array.size_modify];exact Nat.le_trans hg1.size hos.2.2.2
 ·have e1:(w2.setCell ⟨b,1,none⟩ v').heap[k]? =w2.heap[k]? :=by
   simp only [World.setCell]
   rw [Array.getElem?_modify,if_neg (fun h=>hkb h.symm)]
  rw [e1,hg2 k (Nat.lt_of_lt_of_le hk hg1.size) hkv,hg1.block k hk fun h=>hkb (by simpa using h)]
set_option maxHeartbeats 2000000 in
set_option maxRecDepth 100000 in
theorem bld_WriteByte (L:Lays.n167 P ρ) (X:Builder.Extra P ρ):BldOk P (ρ.f 167) 0 (ρ.t 72) (ρ.t 5):=by
 intro b v xs w h c hlen
 obtain ⟨i0,hi,hz0,hz1,hz2⟩:=info_parts X.infoByte
 have mixed:=L.mixed
 have t72:=L.t72;have a72:=L.a72;have z72:=L.z72;have v72:=L.v72;have u72:=run_underlying L.t72
 have t70:=L.t70;have a70:=L.a70;have z70:=L.z70;have v70:=L.v70;have u70:=run_underlying L.t70
 have t5:=L.t5;have a5:=L.a5;have z5:=L.z5;have v5:=L.v5;have u5:=run_underlying L.t5
 have t37:=L.t37;have a37:=L.a37;have z37:=L.z37;have v37:=L.v37;have u37:=run_underlying L.t37
 have t9:=L.t9;have a9:=L.a9;have z9:=L.z9;have v9:=L.v9;have u9:=run_underlying L.t9
 have t4:=L.t4;have a4:=L.a4;have z4:=L.z4;have v4:=L.v4;have u4:=run_underlying L.t4
 have t164:=L.t164;have a164:=L.a164;have z164:=L.z164;have v164:=L.v164;have u164:=run_underlying L.t164
 have e240:∀args w,(callFunc (ρ.f 240) args).run P w= .ok (.enter (ρ.f 240) args) w:=enters_of L.f240 (by kernel_rfl) rfl
 have hck:=bld_check (P:=P) (ρ:=ρ) { L with } X.toX72 h
 obtain ⟨_,hown0,hne⟩:=h
 go_enter L.f167,Body.n167_ntmps ρ
 go_wp2_with (go_at_fn (ρ.f 240);refine hck.mono ?_)
 rintro e w1 ⟨rfl,hbk,hg1⟩
 have hown:=owns_kept hown0 hne hg1
 have c0:w1.cell? ⟨b,0,none⟩=some (.pointer (some ⟨b,0,none⟩)):=by rw [Lib.cell_of_heap hbk];rfl
 have c1:w1.cell? ⟨b,1,none⟩=some v:=by rw [Lib.cell_of_heap hbk];rfl
 go_wp2_with (at_builtin;refine append_wp rfl _ _ (ρ.t 37) rfl (ρ.t 5) i0 (.int .u8 0) L.t37 hi hz0 hz1 hz2 rfl rfl (hown.alloc _) ⟨w1.heap.size,0,none⟩ 1 1 [.int .u8 c] rfl rfl ?c1 ?c2 ?c4 ?_)
 case c1 =>
  intro j u hj
  match j,hj with
  | 0,hj=>simp at hj;subst hj;simp [Addr.add]
 case c2=>intro u hu;simp at hu;subst hu;rfl
 case c4=>unfold lim at hlen;omega
 intro v' w2 hown' hgrow hblk
 have hlt:b<w1.heap.size:=(Array.getElem?_eq_some_iff.1 hbk).1
 have hb2:w2.heap[b]? =some (.cells #[.pointer (some ⟨b,0,none⟩),v] (ρ.t 72) (0,0)):=by
  rw [hgrow.block b (by simp;omega) (fun e=>hne e.symm),Lib.alloc_old w1 _ b hlt]
  exact hbk
 have d0:w2.cell? ⟨b,0,none⟩=some (.pointer (some ⟨b,0,none⟩)):=by rw [Lib.cell_of_heap hb2];rfl
 have d1:w2.cell? ⟨b,1,none⟩=some v:=by rw [Lib.cell_of_heap hb2];rfl
 have f1:w2.frozen? ⟨b,1,none⟩=false:=Lib.frozen_of_heap hb2 1
 obtain ⟨g,cap,rfl⟩:∃g cap,v'= .slice (some ⟨g,0,none⟩) (xs.length+1) cap:=by
  rcases hown'.2 with ⟨_,h0⟩ | ⟨g,cap,cur,hv,_⟩
  ·omega
  ·exact ⟨g,cap,hv⟩
 go_wp2
 go_ret
 refine ⟨rfl,bld_put_row hbk hg1 X.neB5 hne (ys:=xs++[.int .u8 c]) (by simpa using hown') (fun k hk hkv=> ?_) ⟨hgrow.os,hgrow.tape,hgrow.output,?_⟩ (fun k hk=> ?_) rfl⟩
 ·rw [hgrow.block k (by simp;omega) (fun e=>hkv e.symm),Lib.alloc_old w1 _ k hk]
 ·have:=hgrow.size;simp at this;omega
 ·rcases hblk k hk with h | h
  ·exact .inl h
  ·exact .inr (Nat.le_trans (Nat.le_succ w1.heap.size) h)
set_option maxHeartbeats 2000000 in
set_option maxRecDepth 100000 in
theorem bld_WriteString (L:Lays.n166 P ρ) (X:Builder.Extra P ρ):BldOk P (ρ.f 166) 1 (ρ.t 72) (ρ.t 5):=by
 intro b v xs w h s hlen
 obtain ⟨i0,hi,hz0,hz1,hz2⟩:=info_parts X.infoByte
 have mixed:=L.mixed
 have t72:=L.t72;have a72:=L.a72;have z72:=L.z72;have v72:=L.v72;have u72:=run_underlying L.t72
 have t70:=L.t70;have a70:=L.a70;have z70:=L.z70;have v70:=L.v70;have u70:=run_underlying L.t70
 have t37:=L.t37;have a37:=L.a37;have z37:=L.z37;have v37:=L.v37;have u37:=run_underlying L.t37
 have t3:=L.t3;have a3:=L.a3;have z3:=L.z3;have v3:=L.v3;have u3:=run_underlying L.t3
 have t9:=L.t9;have a9:=L.a9;have z9:=L.z9;have v9:=L.v9;have u9:=run_underlying L.t9
 have t4:=L.t4;have a4:=L.a4;have z4:=L.z4;have v4:=L.v4;have u4:=run_underlying L.t4
 have t164:=L.t164;have a164:=L.a164;have z164:=L.z164;have v164:=L.v164;have u164:=run_underlying L.t164
 have t5:=X.t5;have a5:=X.a5;have z5:=X.z5;have v5:=X.v5;have u5:=run_underlying X.t5
 have e240:∀args w,(callFunc (ρ.f 240) args).run P w= .ok (.enter (ρ.f 240) args) w:=enters_of L.f240 (by kernel_rfl) rfl
 have hsz:(ByteArray.mk s.toArray).size=s.length:=by simp [ByteArray.size]
 have hck:=bld_check (P:=P) (ρ:=ρ) { L with } X.toX72 h
 obtain ⟨_,hown0,hne⟩:=h
 go_enter L.f166,Body.n166_ntmps ρ
 go_wp2_with (go_at_fn (ρ.f 240);refine hck.mono ?_)
 rintro e w1 ⟨rfl,hbk,hg1⟩
 have hown:=owns_kept hown0 hne hg1
 have c0:w1.cell? ⟨b,0,none⟩=some (.pointer (some ⟨b,0,none⟩)):=by rw [Lib.cell_of_heap hbk];rfl
 have c1:w1.cell? ⟨b,1,none⟩=some v:=by rw [Lib.cell_of_heap hbk];rfl
 go_wp2_with (at_builtin;refine append_str_wp rfl _ _ (ρ.t 37) (ρ.t 9) rfl (ρ.t 5) i0 L.t37 L.t9 hi hz0 hz1 hz2 rfl hown ⟨s.toArray⟩ rfl ?c4 ?_)
 case c4=>rw [hsz];unfold lim at hlen;exact hlen
 intro v' w2 hown' hgrow hblk
 have hlt:b<w1.heap.size:=(Array.getElem?_eq_some_iff.1 hbk).1
 have hb2:w2.heap[b]? =some (.cells #[.pointer (some ⟨b,0,none⟩),v] (ρ.t 72) (0,0)):=by
  rw [hgrow.block b hlt (fun e=>hne e.symm)]
  exact hbk
 have d0:w2.cell? ⟨b,0,none⟩=some (.pointer (some ⟨b,0,none⟩)):=by rw [Lib.cell_of_heap hb2];rfl
 have d1:w2.cell? ⟨b,1,none⟩=some v:=by rw [Lib.cell_of_heap hb2];rfl
 have f1:w2.frozen? ⟨b,1,none⟩=false:=Lib.frozen_of_heap hb2 1
 obtain ⟨ao,n',cap,rfl⟩:∃ao n' cap,v'= .slice ao n' cap:=by
  rcases hown'.2 with ⟨hv,_⟩ | ⟨g,cap,cur,hv,_⟩
  ·exact ⟨_,_,_,hv⟩
  ·exact ⟨_,_,_,hv⟩
 have hcells:(bytesOf s).map (Value.int .u8)=Lib.strCells ⟨s.toArray⟩:=by simp [bytesOf,Lib.strCells]
 go_wp2
 go_ret2
 refine ⟨by simp only;rfl,?_⟩
 rw [hcells]
 refine bld_put_row hbk hg1 X.neB5 hne (ys:=xs++Lib.strCells ⟨s.toArray⟩) (by rw [List.length_append,Lib.strCells_length];exact hown') (fun k hk hkv=> ?_) ⟨hgrow.os,hgrow.tape,hgrow.output,hgrow.size⟩ (fun k hk=>hblk k hk) rfl
 rw [hgrow.block k hk (fun e=>hkv e.symm)]
theorem bytes_cells (s:List UInt8):(bytesOf s).map (Value.int .u8)=Lib.byteCells s:=by simp [bytesOf,Lib.byteCells]
set_option maxHeartbeats 1000000 in
set_option maxRecDepth 100000 in
theorem bld_String (L:Lays.n169 P ρ) (X:Builder.Extra P ρ):BldOk P (ρ.f 169) 2 (ρ.t 72) (ρ.t 5):=by
 intro b v xs w h l hxs
 rw [bytes_cells] at hxs
 subst hxs
 obtain ⟨p,A,n,c,hbk,hv,_,h4⟩:=h.is
 obtain ⟨_,hown,hne⟩:=h
 have low:∀w',Below w.heap.size w w'→w.grownBy w' v.ownBlock:=fun w' hb=>⟨hb.os,hb.tape,hb.output,hb.size,fun k hk _=>hb.block k hk⟩
 cases l with
 | nil =>
   rcases hown.2 with ⟨rfl,_⟩ | ⟨g,cap,cur,rfl,hbg,hg,_,_,_,_⟩
   ·exact (Any.Builder_String_nil L X w.heap.size b p w hbk).mono fun e w' ⟨h1,h2⟩=>⟨h1,low w' h2⟩
   ·by_cases hc0:cap=0
    ·subst hc0
     exact (Any.Builder_String_noroom L X w.heap.size b g p cur w (Nat.le_refl _) hbk hg).mono fun e w' ⟨h1,h2⟩=>⟨h1,low w' h2⟩
    ·exact (Any.Builder_String_room L X w.heap.size b g cap p w hc0 hbk).mono fun e w' ⟨h1,h2⟩=>⟨h1,low w' h2⟩
 | cons x0 r0 =>
   have h0:x0::r0≠[]:=by simp
   generalize hl:x0::r0=l at *
   have hl0:l.length≠0:=by simpa using h0
   rw [Lib.byteCells_length] at hown
   obtain ⟨g,cap,cur,rfl,hbg,hg,hnc,hcm,hcs,htake⟩:∃g cap cur,v= .slice (some ⟨g,0,none⟩) l.length cap∧0≤g∧w.heap[g]? =some (.cells cur (ρ.t 5) (0,0))∧l.length≤cap∧cap≤maxLen∧cur.size=cap*1∧cur.toList.take (l.length*1)=Lib.byteCells l:=by
    rcases hown.2 with ⟨_,hz⟩ | ⟨g,cap,cur,hv,r⟩
    ·exact absurd hz hl0
    ·exact ⟨g,cap,cur,hv,r⟩
   have c1:w.drew.cell? ⟨b,1,none⟩=some (.slice (some ⟨g,0,none⟩) l.length cap):=by
    have:w.drew.heap[b]? =some (.cells #[p,.slice (some ⟨g,0,none⟩) l.length cap] (ρ.t 72) (0,0)):=hbk
    rw [Lib.cell_of_heap this];rfl
   have hSD:(Builtin.unsafeSliceData_ #[(ρ.t 37)] (ρ.t 127) #[.slice (some ⟨g,0,none⟩) l.length cap]).run P w.drew= .ok (.pointer (some ⟨g,0,none⟩)) w.drew :=
    Lib.run_unsafeSliceData_row _ _ _ _ _ _ (by omega)
   have hUS:(Builtin.unsafeString_ #[(ρ.t 127),(ρ.t 3)] (ρ.t 9) #[.pointer (some ⟨g,0,none⟩),.int .i64 l.length]).run P w.drew= .ok (.string ⟨l.toArray⟩) (w.drew.freeze ⟨g,0,none⟩ l.length):=by
    refine Lib.run_unsafeString_row w.drew (ρ.t 127) (ρ.t 3) (ρ.t 9) (ρ.t 5) L.t127 X.cellsByte g cur.size (by have hg':w.drew.heap[g]? =some (.cells cur (ρ.t 5) (0,0)):=hg;simp [World.shape?,hg']) l h0 (by omega) (by unfold maxLen at hcm;omega) ?_
    intro j x hx
    have:=hown.cells (g:=g) rfl j (.int .u8 x.toNat) (by simp [Lib.byteCells,hx])
    exact this
   have hend:w.grownBy (w.drew.freeze ⟨g,0,none⟩ l.length) (Value.ownBlock (.slice (some ⟨g,0,none⟩) l.length cap)):=by
    refine ⟨?_,?_,?_,?_,fun k hk hne=> ?_⟩
    ·unfold World.freeze;split<;>rfl
    ·unfold World.freeze;split<;>rfl
    ·unfold World.freeze;split<;>rfl
    ·unfold World.freeze
     split
     ·exact Nat.le_refl _
     ·show w.heap.size≤(w.heap.modify g _).size
      rw [Array.size_modify];exact Nat.le_refl _
    ·unfold World.freeze
     split
     ·rfl
     ·show (w.heap.modify g _)[k]? =_
      rw [Array.getElem?_modify,if_neg (fun h=>hne (by rw [←h];rfl))]
   clear hl
   have mixed:=L.mixed
   have t72:=L.t72;have a72:=L.a72;have z72:=L.z72;have v72:=L.v72;have u72:=run_underlying L.t72
   have t70:=L.t70;have a70:=L.a70;have z70:=L.z70;have v70:=L.v70;have u70:=run_underlying L.t70
   have t37:=L.t37;have a37:=L.a37;have z37:=L.z37;have v37:=L.v37;have u37:=run_underlying L.t37
   have t127:=L.t127;have a127:=L.a127;have z127:=L.z127;have v127:=L.v127;have u127:=run_underlying L.t127
   have t3:=L.t3;have a3:=L.a3;have z3:=L.z3;have v3:=L.v3;have u3:=run_underlying L.t3
   have t9:=L.t9;have a9:=L.a9;have z9:=L.z9;have v9:=L.v9;have u9:=run_underlying L.t9
   have t5:=X.t5;have a5:=X.a5;have z5:=X.z5;have v5:=X.v5;have u5:=run_underlying X.t5
   go_enter L.f169,Body.n169_ntmps ρ
   go_wp2
   go_region_o
   all_goals (go_wp2;go_ret;exact ⟨rfl,hend⟩)
end
end Pe
end
section
/- Loops of the models, in forms that one meets often; the small laws of the models' words. Over no program. -/
set_option maxRecDepth 100000
namespace Pe
open Go
theorem ob_some_eq {α β:Type} (a:α) (f:α→Option β):ob (some a) f=f a:=rfl
theorem oc_inl {α β R:Type} (a:α) (f:α→Option R) (g:β→Option R):oc (some (.inl a)) f g=f a:=rfl
theorem cutM_inl {σ R:Type} (t:σ) (f:σ→Option R):cutM (some (.inl t)) f=f t:=rfl
theorem br_true {α:Type} (x y:Option α):br true x y=x:=rfl
theorem br_false {α:Type} (x y:Option α):br false x y=y:=rfl
theorem br_if {α:Type} (b:Bool) (x y:Option α):br b x y=if b=true then x else y:=by cases b<;>rfl
theorem br_some_eq {α:Type} (b:Bool) (x y:α):br b (some x) (some y)=some (bif b then x else y):=by cases b<;>rfl
theorem wrap_id {n:Int} (h1: -9223372036854775808≤n) (h2:n≤9223372036854775807):Go.IntKind.i64.wrap n=n:=by
 unfold Go.IntKind.wrap
 simp [Go.IntKind.bits,Go.IntKind.signed]
 omega
theorem at?_nat {α:Type} (l:List α) (k:Nat):at? l (k:Int)=l[k]? :=rfl
theorem at?_get {α:Type} {l:List α} {k:Nat} (h:k<l.length):at? l (k:Int)=some l[k]:=by rw [at?_nat];simp [h]
theorem cat?_ok {α:Type} {l r:List α} (h:l.length+r.length≤lim):cat? l r=some (l++r):=by
 unfold cat?
 have:Nat.ble (l.length+r.length) lim=true:=by rw [Nat.ble_eq];exact h
 rw [this];rfl
theorem len_lt {α:Type} {l:List α} {k:Nat}:((k:Int)<len l)=(k<l.length):=by simp [len]
theorem loop_st {σ A R:Type} {f:σ→Option (σ⊕R)} (mk:Nat→A→σ) (n:Nat) (g:Nat→A→R) (I:Nat→A→Prop)
  (h:∀k a,k≤n→I k a→(∃a',k<n∧f (mk k a)=some (.inl (mk (k+1) a'))∧I (k+1) a'∧g (k+1) a'=g k a)∨f (mk k a)=some (.inr (g k a))) :
  ∀k a,k≤n→I k a→loopM f (mk k a)=some (g k a):=by
 have key:∀d k a,n - k≤d→k≤n→I k a→loopM f (mk k a)=some (g k a):=by
  intro d
  induction d with
  | zero =>
    intro k a hd hk hI
    rcases h k a hk hI with ⟨a',h1,_⟩ | h1
    ·omega
    ·exact loopM_end h1
  | succ d ih =>
    intro k a hd hk hI
    rcases h k a hk hI with ⟨a',h1,h2,h3,h4⟩ | h1
    ·rw [loopM_next h2,ih (k+1) a' (by omega) (by omega) h3,h4]
    ·exact loopM_end h1
 exact fun k a hk hI=>key _ k a (Nat.le_refl _) hk hI
theorem loop_ix {R:Type} {f:Int×Unit→Option ((Int×Unit)⊕R)} (n:Nat) (g:Nat→R)
  (h:∀k,k≤n→(k<n∧f ((k:Int),())=some (.inl (((k+1:Nat):Int),()))∧g (k+1)=g k)∨f ((k:Int),())=some (.inr (g k))) :
  ∀k,k≤n→loopM f ((k:Int),())=some (g k):=fun k hk =>
 loop_st (A:=Unit) (fun k _=>((k:Int),())) n (fun k _=>g k) (fun _ _=>True) (fun k _ hk _=>by
  rcases h k hk with ⟨h1,h2,h3⟩ | h1
  ·exact .inl ⟨(),h1,h2,trivial,h3⟩
  ·exact .inr h1) k () hk trivial
theorem wrap_succ {k n:Nat} (h:k<n) (hn:n≤9223372036854775807):Go.IntKind.i64.wrap ((k:Int)+1)=((k+1:Nat):Int):=by
 rw [wrap_id (by omega) (by omega)];rfl
def ff (F:Nat→Int):Nat→Int
 | 0=>0
 | n+1=>if ff F n≠0 then ff F n else F n
theorem ff_stays {F:Nat→Int} {k:Nat} (h:ff F k≠0):∀d,ff F (k+d)=ff F k
 | 0=>rfl
 | d+1=>by
   show (if ff F (k+d)≠0 then ff F (k+d) else F (k+d))=_
   rw [ff_stays h d,if_pos h]
theorem ff_le {F:Nat→Int} {n:Nat} (h:ff F n=0) {k:Nat} (hk:k≤n):ff F k=0:=by
 by_cases h0:ff F k=0
 ·exact h0
 ·exfalso
  have:=ff_stays h0 (n - k)
  rw [Nat.add_sub_cancel' hk] at this
  exact h0 (this▸h)
theorem ff_at {F:Nat→Int} {n:Nat} (h:ff F n=0) {k:Nat} (hk:k<n):F k=0:=by
 have h1:=ff_le h (Nat.succ_le_of_lt hk)
 have h2:=ff_le h (Nat.le_of_lt hk)
 simpa [ff,h2] using h1
theorem ff_first {F:Nat→Int} {n k:Nat} (hk:k<n) (h:ff F k=0) (h1:F k≠0):ff F n=F k:=by
 have h2:ff F (k+1)=F k:=by simp [ff,h]
 have:=ff_stays (F:=F) (k:=k+1) (by rw [h2];exact h1) (n - (k+1))
 rw [Nat.add_sub_cancel' hk] at this
 rw [this,h2]
theorem loop_ff {σ A R:Type} {f:σ→Option (σ⊕R)} (mk:Nat→A→σ) (n:Nat) (F:Nat→Int) (out:Int→R) (fin:R) (I:Nat→A→Prop)
  (h:∀k a,k<n→I k a→ff F k=0→(F k≠0∧f (mk k a)=some (.inr (out (F k))))∨(F k=0∧∃a',I (k+1) a'∧f (mk k a)=some (.inl (mk (k+1) a'))))
  (he:∀a,I n a→f (mk n a)=some (.inr fin)) (a0:A) (h0:I 0 a0):loopM f (mk 0 a0)=some (if ff F n≠0 then out (ff F n) else fin):=by
 refine loop_st mk n (fun _ _=>if ff F n≠0 then out (ff F n) else fin) (fun k a=>I k a∧ff F k=0) (fun k a hk hI=> ?_) 0 a0 (Nat.zero_le _) ⟨h0,rfl⟩
 by_cases hlt:k<n
 ·rcases h k a hlt hI.1 hI.2 with ⟨h1,h2⟩ | ⟨h1,a',h2,h3⟩
  ·right
   rw [ff_first hlt hI.2 h1,if_pos h1,h2]
  ·left
   exact ⟨a',hlt,h3,⟨h2,by simp [ff,hI.2,h1]⟩,rfl⟩
 ·right
  obtain rfl:k=n:=by omega
  rw [he a hI.1,if_neg (by simp [hI.2])]
def ffS {σ R:Type} (out:Int→R) (nxt:σ) (c:Int):Option (σ⊕R):=if c≠0 then some (.inr (out c)) else some (.inl nxt)
theorem loop_ff1 {R:Type} {f:Int×Unit→Option ((Int×Unit)⊕R)} (n:Nat) (F:Nat→Int) (out:Int→R) (fin:R)
  (h:∀k,k<n→ff F k=0→f ((k:Int),())=ffS out (((k+1:Nat):Int),()) (F k))
  (he:f ((n:Int),())=some (.inr fin)):loopM f ((0:Int),())=some (if ff F n≠0 then out (ff F n) else fin):=by
 refine loop_ff (A:=Unit) (fun k _=>((k:Int),())) n F out fin (fun _ _=>True) (fun k _ hk _ hz=> ?_) (fun _ _=>he) () trivial
 rw [h k hk hz]
 unfold ffS
 by_cases h0:F k≠0
 ·left;exact ⟨h0,by rw [if_pos h0]⟩
 ·right;exact ⟨by simpa using h0,(),trivial,by rw [if_neg h0]⟩
theorem ffS_zero {σ R:Type} {out:Int→R} {nxt:σ}:ffS out nxt 0=some (.inl nxt):=rfl
theorem br_ff {σ R:Type} {out:Int→R} {nxt:σ} {b:Bool} {F':Int} {X:Option (σ⊕R)} (c:Int) (hc:c≠0) (hX:b=false→X=ffS out nxt F'):br b (some (.inr (out c))) X=ffS out nxt (bif b then c else F'):=by
 cases b with
 | true=>simp [br_true,ffS,hc]
 | false=>simp only [br_false,cond_false];exact hX rfl
theorem loop_find {α R:Type} {f:Int×Unit→Option ((Int×Unit)⊕R)} (l:List α) (p:α→Bool) (out:Nat→R) (fin:R)
  (h:∀k (hk:k<l.length),f ((k:Int),())=if p l[k]=true then some (.inr (out k)) else some (.inl (((k+1:Nat):Int),())))
  (he:f ((l.length:Int),())=some (.inr fin)):loopM f ((0:Int),())=some (match l.findIdx? p with | some k=>out k | none=>fin):=by
 refine loop_st (A:=Unit) (fun k _=>((k:Int),())) l.length (fun _ _=>match l.findIdx? p with | some k=>out k | none=>fin) (fun k _=>∀j (hj:j<l.length),j<k→p l[j]=false) (fun k _ hk hI=> ?_) 0 () (Nat.zero_le _) (fun j _ hj=>by omega)
 by_cases hlt:k<l.length
 ·rw [h k hlt]
  by_cases hp:p l[k]=true
  ·right
   have:l.findIdx? p=some k:=by
    rw [List.findIdx?_eq_some_iff_getElem]
    exact ⟨hlt,hp,fun j hj=>by rw [hI j (by omega) hj];simp⟩
   rw [if_pos hp,this]
  ·left
   refine ⟨(),hlt,by rw [if_neg hp],fun j hj hjk=> ?_,rfl⟩
   by_cases hjk':j=k
   ·subst hjk';simpa using hp
   ·exact hI j hj (by omega)
 ·right
  obtain rfl:k=l.length:=by omega
  have:l.findIdx? p=none:=by
   rw [List.findIdx?_eq_none_iff]
   intro x hx
   obtain ⟨j,hj,rfl⟩:=List.getElem_of_mem hx
   exact hI j hj hj
  rw [he,this]
theorem loop_fold {α A R:Type} {σ:Type} {f:σ→Option (σ⊕R)} (mk:Nat→A→σ) (l:List α) (g:A→α→A) (out:A→R) (I:Nat→A→Prop)
  (h:∀k (hk:k<l.length) (a:A),I k a→f (mk k a)=some (.inl (mk (k+1) (g a l[k])))∧I (k+1) (g a l[k]))
  (he:∀a,I l.length a→f (mk l.length a)=some (.inr (out a))) (a0:A) (h0:I 0 a0):loopM f (mk 0 a0)=some (out (l.foldl g a0)):=by
 have:=loop_st (A:=A) (f:=f) mk l.length (fun k a=>out ((l.drop k).foldl g a)) I (fun k a hk hI=> ?_) 0 a0 (Nat.zero_le _) h0
 ·simpa using this
 ·by_cases hlt:k<l.length
  ·left
   obtain ⟨h1,h2⟩:=h k hlt a hI
   exact ⟨_,hlt,h1,h2,by rw [List.drop_eq_getElem_cons hlt];rfl⟩
  ·right
   obtain rfl:k=l.length:=by omega
   rw [he a hI,List.drop_of_length_le (Nat.le_refl _)];simp
theorem loop_any {R:Type} {f:Int×Unit→Option ((Int×Unit)⊕R)} (n:Nat) (p:Nat→Bool) (yes no:R)
  (h:∀k,k<n→f ((k:Int),())=if p k=true then some (.inr yes) else some (.inl (((k+1:Nat):Int),())))
  (he:f ((n:Int),())=some (.inr no)):loopM f ((0:Int),())=some (bif (List.range n).any p then yes else no):=by
 have:=loop_find (f:=f) (List.range n) p (fun _=>yes) no (fun k hk=>by
  have hk':k<n:=by simpa using hk
  rw [h k hk',List.getElem_range]) (by simpa using he)
 rw [this]
 cases hf:(List.range n).findIdx? p with
 | some k =>
   have:(List.range n).any p=true:=by
    rw [List.findIdx?_eq_some_iff_getElem] at hf
    obtain ⟨h1,h2,_⟩:=hf
    exact List.any_eq_true.2 ⟨_,List.getElem_mem h1,h2⟩
   rw [this];rfl
 | none =>
   have:(List.range n).any p=false:=by
    rw [List.findIdx?_eq_none_iff] at hf
    rw [List.any_eq_false];intro x hx;simpa using hf x hx
   rw [this];rfl
end Pe
end
section
/- The stable sort of Go's library as plain Lean on lists: insertion, swaps of ranges, rotation. Over no program. -/
set_option maxRecDepth 100000
namespace Pe
open Go
structure WO {α:Type} (lt:α→α→Bool):Prop where
 asym:∀a b,lt a b=true→lt b a=false
 trans:∀a b c,lt b a=false→lt c b=false→lt c a=false
def Srt {α:Type} (lt:α→α→Bool) (l:List α):Prop:=l.Pairwise fun a b=>lt b a=false
variable {α:Type} {lt:α→α→Bool}
theorem Srt.left {a b:List α} (h:Srt lt (a++b)):Srt lt a:=(List.pairwise_append.1 h).1
theorem Srt.right {a b:List α} (h:Srt lt (a++b)):Srt lt b:=(List.pairwise_append.1 h).2.1
theorem Srt.put (hw:WO lt) {P Q:List α} {x:α} (h:Srt lt (P++Q)) (hQ:∀q∈Q,lt x q=true) (hP:∀p∈P.getLast?,lt x p=false):Srt lt (P++x::Q):=by
 obtain ⟨h1,h2,h3⟩:=List.pairwise_append.1 h
 have hPx:∀p∈P,lt x p=false:=by
  intro p hp
  rcases List.eq_nil_or_concat P with rfl | ⟨P',z,rfl⟩
  ·cases hp
  ·rw [List.concat_eq_append] at *
   have hz:lt x z=false:=hP z (by simp)
   rcases List.mem_append.1 hp with hp | hp
   ·have:=(List.pairwise_append.1 h1).2.2 p hp z (by simp)
    exact hw.trans p z x this hz
   ·simp at hp;subst hp;exact hz
 refine List.pairwise_append.2 ⟨h1,List.pairwise_cons.2 ⟨fun q hq=>hw.asym x q (hQ q hq),h2⟩,fun p hp y hy=> ?_⟩
 rcases List.mem_cons.1 hy with rfl | hy
 ·exact hPx p hp
 ·exact h3 p hp y hy
theorem ins_inner {R:Type} {f:Int×List α×Unit→Option ((Int×List α×Unit)⊕R)} (out:List α→R) (X Y:List α) (x:α) (N:Nat)
  (hstep:∀(P Q:List α) (p:α),P.length+1+Q.length=N→f (((X.length+(P.length+1):Nat):Int),X++(P++[p]++x::Q)++Y,())=if lt x p=true then some (.inl (((X.length+P.length:Nat):Int),X++(P++x::(p::Q))++Y,())) else some (.inr (out (X++(P++[p]++x::Q)++Y))))
  (hend:∀Q:List α,f ((X.length:Int),X++(x::Q)++Y,())=some (.inr (out (X++(x::Q)++Y)))) :
  ∀(n:Nat) (P Q:List α),P.length=n→P.length+Q.length=N→(∀q∈Q,lt x q=true)→∃P' Q',P'++Q'=P++Q∧(∀q∈Q',lt x q=true)∧(∀p∈P'.getLast?,lt x p=false) ∧
   loopM f (((X.length+P.length:Nat):Int),X++(P++x::Q)++Y,())=some (out (X++(P'++x::Q')++Y))
 | 0,P,Q,hn,_,hQ=>by
   obtain rfl:=List.length_eq_zero_iff.1 hn
   exact ⟨[],Q,rfl,hQ,by simp,loopM_end (by simpa using hend Q)⟩
 | n+1,P,Q,hn,hN,hQ=>by
   rcases List.eq_nil_or_concat P with rfl | ⟨P',p,rfl⟩
   ·simp at hn
   ·rw [List.concat_eq_append] at *
    have hl:(P'++[p]).length=P'.length+1:=by simp
    rw [hl] at hN ⊢
    have hs:=hstep P' Q p hN
    cases hp:lt x p with
    | true =>
      rw [hp,if_pos rfl] at hs
      obtain ⟨P2,Q2,h1,h2,h3,h4⟩:=ins_inner out X Y x N hstep hend n P' (p::Q) (by simpa using hn) (by simp;omega) (fun q hq=>by
       rcases List.mem_cons.1 hq with rfl | hq
       ·exact hp
       ·exact hQ q hq)
      exact ⟨P2,Q2,by rw [h1];simp,h2,h3,by rw [loopM_next hs,h4]⟩
    | false =>
      rw [hp,if_neg (by simp)] at hs
      exact ⟨P'++[p],Q,rfl,hQ,by simpa using hp,loopM_end hs⟩
theorem ins_outer {R:Type} {f:Int×List α×Unit→Option ((Int×List α×Unit)⊕R)} (out:List α→R) (X Y:List α) (b:Nat)
  (hround:∀(S T:List α) (x:α),Srt lt S→S≠[]→X.length+S.length+(T.length+1)=b→∃S',Srt lt S'∧S'.Perm (S++[x])∧f (((X.length+S.length:Nat):Int),X++(S++x::T)++Y,())=some (.inl (((X.length+S'.length:Nat):Int),X++(S'++T)++Y,())))
  (hend:∀l:List α,f ((b:Int),l,())=some (.inr (out l))) :
  ∀(T S:List α),Srt lt S→S≠[]→X.length+S.length+T.length=b→∃S',Srt lt S'∧S'.Perm (S++T)∧loopM f (((X.length+S.length:Nat):Int),X++(S++T)++Y,())=some (out (X++S'++Y))
 | [],S,hS,_,hb=>by
   simp only [List.length_nil,Nat.add_zero] at hb
   exact ⟨S,hS,by simp,by rw [hb,List.append_nil];exact loopM_end (hend _)⟩
 | x::T,S,hS,hne,hb=>by
   obtain ⟨S',h1,h2,h3⟩:=hround S T x hS hne (by simpa using hb)
   have hl:S'.length=S.length+1:=by rw [h2.length_eq];simp
   obtain ⟨S2,g1,g2,g3⟩:=ins_outer out X Y b hround hend T S' h1 (by intro h;rw [h] at hl;simp at hl) (by rw [hl];simp at hb;omega)
   exact ⟨S2,g1,g2.trans (by simpa using h2.append_right T),by rw [loopM_next h3,g3]⟩
theorem get_mid (X Y:List α) (p:α):(X++p::Y)[X.length]? =some p:=by simp
theorem set_mid (X Y:List α) (p q:α):(X++p::Y).set X.length q=X++q::Y:=by simp
theorem swap_two (X M Y:List α) (p q:α):((X++p::(M++q::Y)).set X.length q).set (X.length+1+M.length) p=X++q::(M++p::Y):=by
 rw [set_mid]
 have:=set_mid (X++q::M) Y q p
 simp only [List.append_assoc,List.cons_append,List.length_append,List.length_cons] at this
 rw [show X.length+1+M.length=X.length+(M.length+1) by omega]
 exact this
theorem get_two (X M Y:List α) (p q:α):(X++p::(M++q::Y))[X.length+1+M.length]? =some q:=by
 have:=get_mid (X++p::M) Y q
 simp only [List.append_assoc,List.cons_append,List.length_append,List.length_cons] at this
 rw [show X.length+1+M.length=X.length+(M.length+1) by omega]
 exact this
end Pe
end
section
/- The merge of Go's stable sort as plain Lean on lists: the search, the moves of one element, the parts. Over no program. -/
set_option maxRecDepth 100000
namespace Pe
open Go
variable {α:Type} {lt:α→α→Bool}
theorem WO.refl (hw:WO lt) (a:α):lt a a=false:=by
 cases h:lt a a with
 | false=>rfl
 | true=>exact (hw.asym a a h).symm.trans h |>.symm▸rfl
theorem Srt.le_last (hw:WO lt) {P:List α} (h:Srt lt P) {x:α} (hx:x∈P):∃z,P.getLast? =some z∧lt z x=false:=by
 rcases List.eq_nil_or_concat P with rfl | ⟨P',z,rfl⟩
 ·cases hx
 ·rw [List.concat_eq_append] at *
  refine ⟨z,by simp,?_⟩
  rcases List.mem_append.1 hx with hx | hx
  ·exact (List.pairwise_append.1 h).2.2 x hx z (by simp)
  ·simp at hx;subst hx;exact hw.refl _
theorem Srt.head_le (hw:WO lt) {Q:List α} (h:Srt lt Q) {y:α} (hy:y∈Q):∃z,Q.head? =some z∧lt y z=false:=by
 cases Q with
 | nil=>cases hy
 | cons z Q =>
   refine ⟨z,rfl,?_⟩
   rcases List.mem_cons.1 hy with rfl | hy
   ·exact hw.refl _
   ·exact (List.pairwise_cons.1 h).1 y hy
theorem Srt.join (hw:WO lt) {P Q:List α} (hP:Srt lt P) (hQ:Srt lt Q) (h:∀x∈P.getLast?,∀y∈Q.head?,lt y x=false):Srt lt (P++Q):=by
 refine List.pairwise_append.2 ⟨hP,hQ,fun x hx y hy=> ?_⟩
 obtain ⟨z,h1,h2⟩:=hP.le_last hw hx
 obtain ⟨u,h3,h4⟩:=hQ.head_le hw hy
 exact hw.trans x u y (hw.trans x z u h2 (h z h1 u h3)) h4
theorem bsearch {R:Type} {f:Int×Int×Unit→Option ((Int×Int×Unit)⊕R)} (out:Nat→R) (p:Nat→Bool) (lo hi:Nat)
  (hstep:∀i j:Nat,lo≤i→i<j→j≤hi→f ((i:Int),(j:Int),())=if p ((i+j) / 2)=true then some (.inl ((((i+j) / 2+1:Nat):Int),(j:Int),())) else some (.inl ((i:Int),(((i+j) / 2:Nat):Int),())))
  (hend:∀i:Nat,lo≤i→i≤hi→f ((i:Int),(i:Int),())=some (.inr (out i))) :
  ∀(n i j:Nat),j - i≤n→lo≤i→i≤j→j≤hi→(i=lo∨p (i - 1)=true)→(j=hi∨p j=false) →
   ∃s,i≤s∧s≤j∧(s=lo∨p (s - 1)=true)∧(s=hi∨p s=false)∧loopM f ((i:Int),(j:Int),())=some (out s)
 | n,i,j,hn,h1,h2,h3,h4,h5=>by
   by_cases hij:i=j
   ·subst hij
    exact ⟨i,Nat.le_refl _,Nat.le_refl _,h4,h5,loopM_end (hend i h1 h3)⟩
   ·have hlt:i<j:=by omega
    cases n with
    | zero=>omega
    | succ n =>
      have hs:=hstep i j h1 hlt h3
      have hm1:i≤(i+j) / 2:=by omega
      have hm2:(i+j) / 2<j:=by omega
      cases hp:p ((i+j) / 2) with
      | true =>
        rw [hp,if_pos rfl] at hs
        obtain ⟨s,g1,g2,g3,g4,g5⟩:=bsearch out p lo hi hstep hend n ((i+j) / 2+1) j (by omega) (by omega) (by omega) h3 (.inr (by simpa using hp)) h5
        exact ⟨s,by omega,g2,g3,g4,by rw [loopM_next hs,g5]⟩
      | false =>
        rw [hp,if_neg (by simp)] at hs
        obtain ⟨s,g1,g2,g3,g4,g5⟩:=bsearch out p lo hi hstep hend n i ((i+j) / 2) (by omega) h1 hm1 (by omega) h4 (.inr hp)
        exact ⟨s,g1,by omega,g3,g4,by rw [loopM_next hs,g5]⟩
end Pe
end
section
/- Where Go's stable sort cuts two runs in order to merge them. Over no program. -/
set_option maxRecDepth 100000
namespace Pe
open Go
variable {α:Type} {lt:α→α→Bool}
def BS (lt:α→α→Bool) (k:Nat) (l:List α):Prop:=∃Bs:List (List α),∃R:List α,l=Bs.flatten++R∧(∀B∈Bs,B.length=k∧Srt lt B)∧R.length<k∧Srt lt R
theorem BS.done {k:Nat} {l:List α} (h:BS lt k l) (hl:l.length≤k) (hk:0<k):Srt lt l:=by
 obtain ⟨Bs,R,rfl,h1,h2,h3⟩:=h
 cases Bs with
 | nil=>simpa using h3
 | cons B Bs =>
   obtain ⟨e,h4⟩:=h1 B (by simp)
   cases Bs with
   | nil =>
     have:R=[]:=List.length_eq_zero_iff.1 (by simp at hl;omega)
     subst this;simpa using h4
   | cons C Cs =>
     have:=(h1 C (by simp)).1
     simp at hl;omega
end Pe
end
