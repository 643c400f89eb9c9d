/- PROVED HERE: a part of the seat's proofs; see the text that holds the claim's theorem. -/
import Derived.Test.YtdmdigejjdianaaGreatDoorNm
import Derived.Laws.StructEq
import Derived.ChangeKeysEq
import Derived.ChangeArms
import Derived.OpenShut
import Derived.ChangeReads
import Derived.Below
import Derived.WideShapes
import Derived.WideKeyArgs
import Derived.ChangeSame
import Derived.RowKit
import Derived.Shelf.Strings.Builder1
import Derived.Maps.AppendAt
import Derived.Test.YtdmdigejjdianaaGreatDoorPeG
import Derived.Test.YtdmdigejjdianaaGreatDoorPeD
import Derived.Test.YtdmdigejjdianaaGreatDoorPeA
section
/- Structs and arrays of scalars are alike when their parts are. -/
namespace Pe
open Go Go.RowKit
variable{S:Nat->Type}{P:Program}{un:Uni S}{D:Dat}{w:World}
def uOk(P:Program)(u:U)(T:TypeId):Bool:=match u,P.underlying T with
 | .int _,some (.int _)=>true| .bool,some .bool=>true| .str,some .string=>true|_,_=>false
theorem zc7{T:TypeId}{u:U}(h:uOk P u T=true){xs:Array Value}{off:Nat}{v:Value}(hx:xs[off]?=some v):(part T xs off).run P w= .ok v w:=by
 unfold uOk at h;cases hu:P.underlying T with
 |none=>rw[hu] at h;cases u<;>cases h|some d=>rw[hu] at h;cases u<;>cases d<;>first|(cases h;done)|simp[part,isAgg,run_underlying hu,hx]
theorem zmU{T:TypeId}{u:U}{us:List U}{t1 t2:ElL S (u::us)}{c1 c2:List Value}(hs:uOk P u T=true)(h1:DR un D w (u::us) t1 c1)(h2:DR un D w (u::us) t2 c2) :
  ∃v1 r1 v2 r2,c1=v1::r1/\c2=v2::r2/\DR un D w us t1.2 r1/\DR un D w us t2.2 r2/\∀d,(Op.equalIn (d+1) T v1 v2).run P w= .ok (eq1 u t1.1 t2.1) w:=by
 unfold uOk at hs;cases hu:P.underlying T with
 |none=>rw[hu] at hs;cases u<;>cases hs|some ds =>
   rw[hu] at hs;cases h1 with
   |int h1 =>
     cases h2 with
     |int h2 =>
       cases ds<;>first|(cases hs;done)|skip
       exact ⟨_,_,_,_,rfl,rfl,h1,h2,λd=>run_equalIn_int w d T _ _ _ _ hu⟩
   |bool h1 =>
     cases h2 with
     |bool h2 =>
       cases ds<;>first|(cases hs;done)|skip
       exact ⟨_,_,_,_,rfl,rfl,h1,h2,λd=>run_equalIn_bool w d T _ _ hu⟩
   |str h1 =>
     cases h2 with
     |str h2 =>
       cases ds<;>first|(cases hs;done)|skip
       refine ⟨_,_,_,_,rfl,rfl,h1,h2,λd=>?_⟩;rw[run_equalIn_string w d T _ _ hu,zhp,zhp];rfl
   |sl0=>cases hs|sl=>cases hs|mp=>cases hs|rw=>cases hs|fm=>cases hs|cs0=>cases hs|cs=>cases hs|st=>cases hs
def zhj(P:Program):Nat->List Field->List U->Bool
 |_,[],[]=>true
 |k, f :: fs, u :: us => f.name != "_" && Nat.beq f.offset k && uOk P u f.type && zhj P (k + 1) fs us
 |_,_,_=>false
theorem zfa{xs:List Value}{k:Nat}{v:Value}{r:List Value}(h:xs.drop k=v::r):xs.toArray[k]?=some v/\xs.drop (k+1)=r:=by
 constructor
 ·have:(xs.drop k)[0]?=some v:=by rw[h];rfl
  simpa using this
 ·rw[<-yBl,h];rfl
theorem zgW{d:Nat}{xs ys:List Value}:∀{fs:List Field}{us:List U}{k:Nat}{t1 t2:ElL S us}{c1 c2:List Value},zhj P k fs us=true->DR un D w us t1 c1->DR un D w us t2 c2->xs.drop k=c1->ys.drop k=c2 ->
  (Op.eqFields (d+1) xs.toArray ys.toArray fs).run P w= .ok (eqC us t1 t2) w
 |[],[],_,_,_,_,_,_,_,_,_,_=>by simp[Op.eqFields,eqC]
 |f::fs,u::us,k,t1,t2,c1,c2,hf,h1,h2,hx,hy=>by
   simp only [zhj,yAd] at hf;obtain ⟨⟨⟨g1,g2⟩,g3⟩,g4⟩:=hf;have hk:=yAa g2;obtain ⟨v1,r1,v2,r2,rfl,rfl,e1,e2,e3⟩:=zmU g3 h1 h2;obtain ⟨a1,a2⟩:=zfa hx;obtain ⟨b1,b2⟩:=zfa hy;have ih:=zgW (d:=d) g4 e1 e2 a2 b2;have hn : f.name ≠ "_" := by simpa using g1
   simp only[Op.eqFields,hn,ne_eq,not_false_eq_true,if_true,Sem.run_bind,hk,zc7 g3 a1,zc7 g3 b1,e3 d,Result.andThen_ok,eqC];cases eq1 u t1.1 t2.1 with
   |true=>simpa using ih|false=>simp
 |[],_::_,_,_,_,_,_,hf,_,_,_,_=>by simp[zhj] at hf
 |_::_,[],_,_,_,_,_,hf,_,_,_,_=>by simp[zhj] at hf
theorem zhI{d:Nat}{xs ys:List Value}{e:TypeId}(he:P.cellsOf e=1):∀{us:List U}{k:Nat}{t1 t2:ElL S us}{c1 c2:List Value},(us.all λu=>uOk P u e)=true->DR un D w us t1 c1->DR un D w us t2 c2->xs.drop k=c1->ys.drop k=c2 ->
  (Op.eqItems (d+1) e (P.cellsOf e) xs.toArray ys.toArray (List.range' k us.length)).run P w= .ok (eqC us t1 t2) w
 |[],_,_,_,_,_,_,_,_,_,_=>by simp[Op.eqItems,eqC]
 |u::us,k,t1,t2,c1,c2,hf,h1,h2,hx,hy=>by
   simp only[yBJ,yAd] at hf;obtain ⟨g3,g4⟩:=hf;obtain ⟨v1,r1,v2,r2,rfl,rfl,e1,e2,e3⟩:=zmU g3 h1 h2;obtain ⟨a1,a2⟩:=zfa hx;obtain ⟨b1,b2⟩:=zfa hy;have ih:=zhI (d:=d) he g4 e1 e2 a2 b2;simp only[he] at ih;simp only[yAA,yBa,Op.eqItems,Sem.run_bind,he,yA7,zc7 g3 a1,zc7 g3 b1,e3 d,Result.andThen_ok,eqC];cases eq1 u t1.1 t2.1 with
   |true=>simpa using ih|false=>simp
def zpt(P:Program)(t:TypeId)(d:TypeDesc)(us:List U):Bool:=match d with
 | .struct fs=> !P.stoodInHeld t&&zhj P 0 fs.toList us| .array n e=>Nat.beq n us.length&&Nat.beq (P.cellsOf e) 1&&us.all λu=>uOk P u e|_=>false
def eqB(P:Program)(t:TypeId)(d:TypeDesc)(us:List U):Bool:= !P.eqGuardType P.depth t&&zpt P t d us
theorem zmS{t:TypeId}{d:TypeDesc}{us:List U}(hd:P.underlying t=some d)(h:zpt P t d us=true)(D:Dat)(w:World)(t1 t2:ElL S us)(c1 c2:List Value)(h1:DR un D w us t1 c1)(h2:DR un D w us t2 c2):(Op.equalIn 10000 t (.agg c1.toArray) (.agg c2.toArray)).run P w= .ok (eqC us t1 t2) w:=by
 unfold zpt at h;cases d with
 |struct fs =>
   simp only[yAd,yA0] at h;have hf:P.fieldsOf t=fs:=by unfold Program.fieldsOf;rw[hd]
   rw[show (10000:Nat)=9999+1 from rfl,run_equalIn_agg w 9999 t _ _ (by rw[hf];exact hd) h.1,hf];exact zgW (d:=9998) h.2 h1 h2 rfl rfl
 |array n e =>
   simp only[yAd] at h;obtain ⟨⟨g1,g2⟩,g3⟩:=h;have hn:=yAa g1;have he:=yAa g2;cases hi:P.info? e with
   |none=>simp[Program.cellsOf,hi] at he|some i =>rw[show (10000:Nat)=9999+1 from rfl,run_equalIn_array w 9999 _ _ hd hi,yBq,hn];exact zhI (d:=9998) he g3 h1 h2 rfl rfl
 |_=>cases h
theorem eq_ok{t:TypeId}{d:TypeDesc}{us:List U}(hd:P.underlying t=some d)(h:eqB P t d us=true)(D:Dat)(w:World)(t1 t2:ElL S us)(c1 c2:List Value)(op:BinOp)(x y:Operand)(h1:DR un D w us t1 c1)(h2:DR un D w us t2 c2)(b:Bool)
  (hb:op= .eql/\b=eqC us t1 t2\/op= .neq/\b= !eqC us t1 t2) :
  (eqGuard op t x y (.agg c1.toArray) (.agg c2.toArray)).run P w= .ok () w/\(binOp op t (.agg c1.toArray) (.agg c2.toArray)).run P w= .ok (.bool b) w:=by
 unfold eqB at h;simp only[yAd,yA0] at h;obtain ⟨hg,h⟩:=h;refine ⟨run_eqGuard_agg w op t x y _ _ hg,?_⟩;have key:=zmS hd (show zpt P t d us=true from h) D w t1 t2 c1 c2 h1 h2;rcases hb with ⟨rfl,rfl⟩|⟨rfl,rfl⟩;·rw[run_eql_struct,key];rfl
 ·rw[run_neq_struct,key];rfl
theorem zij:∀{us:List U}{t1 t2:ElL S us}{c1 c2:List Value},us.all U.scalar=true->DR un D w us t1 c1->DR un D w us t2 c2->eqC us t1 t2=true->c1=c2
 |[],_,_,_,_,_,h1,h2,_=>by cases h1;cases h2;rfl
 |u::us,t1,t2,c1,c2,hs,h1,h2,he=>by
   simp only[yBJ,yAd] at hs;simp only[eqC,yAd] at he;cases h1 with
   |int h1 =>
     cases h2 with
     |int h2 =>have h3:eI (hd t1)=eI (hd t2):=of_decide_eq_true he.1;rw[h3,zij hs.2 h1 h2 he.2]
   |bool h1 =>
     cases h2 with
     |bool h2 =>have h3:eB (hd t1)=eB (hd t2):=(by have:=he.1;exact eq_of_beq this);rw[h3,zij hs.2 h1 h2 he.2]
   |str h1 =>
     cases h2 with
     |str h2 =>have h3:eS (hd t1)=eS (hd t2):=(by have:=he.1;exact eq_of_beq this);rw[h3,zij hs.2 h1 h2 he.2]
   |sl0=>exact absurd hs.1 (by simp[U.scalar])|sl=>exact absurd hs.1 (by simp[U.scalar])|mp=>exact absurd hs.1 (by simp[U.scalar])|rw=>exact absurd hs.1 (by simp[U.scalar])|fm=>exact absurd hs.1 (by simp[U.scalar])|cs0=>exact absurd hs.1 (by simp[U.scalar])|cs=>exact absurd hs.1 (by simp[U.scalar])|st=>exact absurd hs.1 (by simp[U.scalar])
theorem zik:∀{us:List U}{t:ElL S us}{c:List Value}(n:Nat),us.all U.scalar=true->DR un D w us t c->∀v∈c,Instr.sameBits n v v=true
 |[],_,_,_,_,h,v,hv=>by cases h;cases hv
 |u::us,t,c,n,hs,h,v,hv=>by
   simp only[yBJ,yAd] at hs;cases h with
   |int h =>
     rcases yAp.1 hv with rfl|hv;·cases n<;>simp[Instr.sameBits]
     ·exact zik n hs.2 h v hv
   |bool h =>
     rcases yAp.1 hv with rfl|hv;·cases n<;>simp[Instr.sameBits]
     ·exact zik n hs.2 h v hv
   |str h =>
     rcases yAp.1 hv with rfl|hv;·cases n<;>simp[Instr.sameBits,MapKept.bytes_beq]
     ·exact zik n hs.2 h v hv
   |sl0=>exact absurd hs.1 (by simp[U.scalar])|sl=>exact absurd hs.1 (by simp[U.scalar])|mp=>exact absurd hs.1 (by simp[U.scalar])|rw=>exact absurd hs.1 (by simp[U.scalar])|fm=>exact absurd hs.1 (by simp[U.scalar])|cs0=>exact absurd hs.1 (by simp[U.scalar])|cs=>exact absurd hs.1 (by simp[U.scalar])|st=>exact absurd hs.1 (by simp[U.scalar])
theorem zkl{p:Value->Value->Bool}:∀{l:List Value},(∀v∈l,p v v=true)->((l.zip l).all λ(x,y)=>p x y)=true|[],_=>rfl|v::l,h=>by simp only[yBi,yBJ,yAd];exact ⟨h v (by simp),zkl λx hx=>h x (by simp[hx])⟩
theorem zkR{k:U}(hk:U.key un k=true){x y:El S k}{a b:Value}(ha:Rep un [] D w (inj k x) a)(hb:Rep un [] D w (inj k y) b)(he:keq un k x y=true):a=b:=by
 cases k with
 |st n =>simp only[inj,Rep] at ha hb;obtain ⟨c1,rfl,h1⟩:=ha;obtain ⟨c2,rfl,h2⟩:=hb;rw[zij (by simpa[U.key] using hk) (ziD h1) (ziD h2) he]
 |int q=>simp only[inj,Rep] at ha hb;subst ha;subst hb;have h9: @BEq.beq Int _ x y=true:=he;have: @Eq Int x y:=eq_of_beq h9;exact congrArg (Value.int q) this
 |bool=>simp only[inj,Rep] at ha hb;subst ha;subst hb;have h9: @BEq.beq Bool _ x y=true:=he;have: @Eq Bool x y:=eq_of_beq h9;exact congrArg Value.bool this
 |str=>simp only[inj,Rep] at ha hb;subst ha;subst hb;have h9: @BEq.beq (List UInt8) _ x y=true:=he;have: @Eq (List UInt8) x y:=eq_of_beq h9;exact congrArg (λl:List UInt8=>Value.string ⟨l.toArray⟩) this
 |sl u=>simp[U.key,U.scalar] at hk|mp u v=>simp[U.key,U.scalar] at hk|rw u=>simp[U.key,U.scalar] at hk|fm u v=>simp[U.key,U.scalar] at hk|cs u=>simp[U.key,U.scalar] at hk
theorem zn9(n:Nat)(q:IntKind)(x:Int):Instr.sameBits n (.int q x) (.int q x)=true:=by cases n<;>simp[Instr.sameBits]
theorem zm6(n:Nat)(x:Bool):Instr.sameBits n (.bool x) (.bool x)=true:=by cases n<;>simp[Instr.sameBits]
theorem zn8(n:Nat)(x:ByteArray):Instr.sameBits n (.string x) (.string x)=true:=by cases n<;>simp[Instr.sameBits,MapKept.bytes_beq]
theorem znt(l m:List UInt8):((ByteArray.mk l.toArray)==(ByteArray.mk m.toArray))=(l==m):=by rw[Bool.eq_iff_iff,MapKept.bytes_beq];simp
theorem zjd{k:U}(hk:U.key un k=true){x:El S k}{a:Value}(ha:Rep un [] D w (inj k x) a):(Instr.keyThatStays a a).run P w= .ok a w:=by
 have:Instr.sameBits 10000 a a=true:=by
  cases k with
  |st n =>simp only[inj,Rep] at ha;obtain ⟨c1,rfl,h1⟩:=ha;have h2:=zik 9999 (by simpa[U.key] using hk) (ziD h1);rw[show (10000:Nat)=9999+1 from rfl];simp only[Instr.sameBits,beq_self_eq_true,Bool.true_and];exact zkl (p:=Instr.sameBits 9999) h2
  |int q=>simp only[inj,Rep] at ha;subst ha;exact zn9 _ _ _|bool=>simp only[inj,Rep] at ha;subst ha;exact zm6 _ _|str=>simp only[inj,Rep] at ha;subst ha;exact zn8 _ _|sl u=>simp[U.key,U.scalar] at hk|mp u v=>simp[U.key,U.scalar] at hk|rw u=>simp[U.key,U.scalar] at hk|fm u v=>simp[U.key,U.scalar] at hk|cs u=>simp[U.key,U.scalar] at hk
 simp[Instr.keyThatStays,this]
theorem zkX{d:TypeDesc}{k:U}{a:Value}{x:El S k}(h:∀(y:El S k)(b:Value),Rep un [] D w (inj k y) b->Instr.sameNow d a b=some (keq un k x y)):∀{l:List (El S k)}{es:List MapEntry}(i:Nat),KeysRep un D w k l es->Instr.findNow d a es i=some (zek (l.map (keq un k x)) es i)
 |[],[],_,_=>rfl|y::l,e::es,i,hr=>by
   have h1:=h y e.key hr.1;unfold Instr.findNow;rw[h1];simp only[yAk];cases keq un k x y with
   |true=>rfl|false=>simp only[zek];exact zkX h (i+1) hr.2
 |[],_::_,_,hr=>hr.elim|_::_,[],_,hr=>hr.elim
theorem zkY{kt:TypeId}{k:U}{a:Value}{x:El S k}(h:∀(y:El S k)(b:Value),Rep un [] D w (inj k y) b->(Op.equal kt a b).run P w= .ok (keq un k x y) w):∀{l:List (El S k)}{es:List MapEntry}(i:Nat),KeysRep un D w k l es->(Instr.findAsking kt a es i).run P w= .ok (zek (l.map (keq un k x)) es i) w
 |[],[],_,_=>by simp[Instr.findAsking,zek]
 |y::l,e::es,i,hr=>by
   have h1:=h y e.key hr.1;unfold Instr.findAsking;simp only[Sem.run_bind,h1,Result.andThen,yAk];cases keq un k x y with
   |true=>simp[zek]|false=>simp only[zek];exact zkY h (i+1) hr.2
 |[],_::_,_,hr=>hr.elim|_::_,[],_,hr=>hr.elim
theorem zg3{T:TypeId}{u:U}(h:uOk P u T=true)(n:Nat)(em:Bool){v:Value}(hv:∃(x:El S u),Rep un [] D w (inj u x) v):(Instr.checkKey em (n+1) T v).run P w= .ok () w:=by
 obtain ⟨x,hx⟩:=hv;unfold uOk at h;cases hu:P.underlying T with
 |none=>rw[hu] at h;cases u<;>cases h|some d =>
   rw[hu] at h;cases u with
   |int k=>simp only[inj,Rep] at hx;subst hx;cases d<;>first|(cases h;done)|simp[Instr.checkKey,run_underlying hu]
   |bool=>simp only[inj,Rep] at hx;subst hx;cases d<;>first|(cases h;done)|simp[Instr.checkKey,run_underlying hu]
   |str=>simp only[inj,Rep] at hx;subst hx;cases d<;>first|(cases h;done)|simp[Instr.checkKey,run_underlying hu]
   |_=>cases d<;>cases h
theorem zpS{u:U}{us:List U}{t:ElL S (u::us)}{c:List Value}(hs:U.scalar u=true)(h:DR un D w (u::us) t c):∃v r,c=v::r/\DR un D w us t.2 r/\∃x:El S u,Rep un [] D w (inj u x) v:=by
 cases h with
 |int h=>exact ⟨_,_,rfl,h,_,by simp only[inj,Rep];rfl⟩|bool h=>exact ⟨_,_,rfl,h,_,by simp only[inj,Rep];rfl⟩|str h=>exact ⟨_,_,rfl,h,_,by simp only[inj,Rep];rfl⟩|sl0=>simp[U.scalar] at hs|sl=>simp[U.scalar] at hs|mp=>simp[U.scalar] at hs|rw=>simp[U.scalar] at hs|fm=>simp[U.scalar] at hs|cs0=>simp[U.scalar] at hs|cs=>simp[U.scalar] at hs|st=>simp[U.scalar] at hs
theorem zf4{n:Nat}{em:Bool}{xs:List Value}:∀{fs:List Field}{us:List U}{k:Nat}{t:ElL S us}{c:List Value},zhj P k fs us=true->us.all U.scalar=true->DR un D w us t c->xs.drop k=c ->
  (forIn (m:=Sem) fs PUnit.unit λf _=>do
   if f.name ≠ "_" then Instr.checkKey em (n + 1) f.type (← part f.type xs.toArray f.offset)
   pure (ForInStep.yield PUnit.unit)).run P w= .ok PUnit.unit w
 |[],[],_,_,_,_,_,_,_=>by simp
 |f::fs,u::us,k,t,c,hf,hs,h,hx=>by
   simp only [zhj,yAd] at hf;obtain ⟨⟨⟨g1,g2⟩,g3⟩,g4⟩:=hf;simp only [yBJ,yAd] at hs;have hk:=yAa g2;obtain ⟨v,r,rfl,h1,hv⟩:=zpS hs.1 h;obtain ⟨a1,a2⟩:=zfa hx;have ih:=zf4 (n:=n) (em:=em) g4 hs.2 h1 a2;have hn : f.name ≠ "_" := by simpa using g1
   have hc:=zg3 (P:=P) g3 n em hv;simp only[List.forIn_cons,Sem.run_bind,hn,ne_eq,not_false_eq_true,if_true,hk,zc7 g3 a1,hc,Result.andThen_ok,Sem.run_pure];exact ih
 |[],_::_,_,_,_,hf,_,_,_=>by simp[zhj] at hf
 |_::_,[],_,_,_,hf,_,_,_=>by simp[zhj] at hf
def keyB(P:Program)(un:Uni S)(kt:TypeId)(k:U):Bool:=match k with
 | .st n=>(un.codes n).all U.scalar&&(match P.underlying kt with
   |some (.struct fs)=>zpt P kt (.struct fs) (un.codes n)|_=>false)
 |u=>u.scalar&&uOk P u kt
theorem zo4{kt:TypeId}{k:U}(h:keyB P un kt k=true):KeyOk P un kt k:=by
 unfold keyB at h;split at h
 ·rename_i n;simp only[yAd] at h;obtain ⟨hs,h⟩:=h;have hkey:U.key un (.st n)=true:=hs;split at h
  ·rename_i fs hd;have heq:∀(D:Dat)(w:World)(x y:El S (.st n))(a b:Value),Rep un [] D w (inj (.st n) x) a->Rep un [] D w (inj (.st n) y) b->(Op.equal kt a b).run P w= .ok (keq un (.st n) x y) w:=by
    intro D w x y a b ha hb;simp only[inj,Rep] at ha hb;obtain ⟨c1,rfl,h1⟩:=ha;obtain ⟨c2,rfl,h2⟩:=hb;exact zmS hd h D w _ _ c1 c2 (ziD h1) (ziD h2)
   refine ⟨λD w x a l es ha hr=>?_,λD w x a em ha=>?_,λD w x y a b ha hb he=>?_⟩
   ·have hask:=zkY (P:=P) (kt:=kt) (λy b hb=>heq D w x y a b ha hb) 0 hr;unfold Instr.findKey;simp only[Sem.run_bind,run_underlying hd,Result.andThen_ok];cases es with
    |nil=>cases l with
      |nil=>simp[Instr.findNow,zek]|cons y l=>exact hr.elim
    |cons e es =>have hnone:Instr.findNow (.struct fs) a (e::es) 0=none:=(by simp only[inj,Rep] at ha;obtain ⟨c1,rfl,_⟩:=ha;rfl);rw[hnone];exact hask
   ·simp only[inj,Rep] at ha;obtain ⟨c1,rfl,h1⟩:=ha;simp only[zpt,yAd] at h;have:=zf4 (P:=P) (n:=9998) (em:=em) h.2 hs (ziD h1) (xs:=c1) rfl;rw[show (10000:Nat)=9999+1 from rfl,Instr.checkKey];simp only[Sem.run_bind,run_underlying hd,Result.andThen_ok];rw[<-Array.forIn_toList]
    first
     |exact this
     |(simp only[this,Result.andThen_ok,Sem.run_pure];done)
   ·have:=zkR hkey ha hb he;subst this;exact zjd hkey ha
  ·cases h
 ·rename_i u hu;simp only[yAd] at h;obtain ⟨hs,h⟩:=h;have hkey:U.key un k=true:=by cases k<;>first|exact hs|exact absurd rfl (hu _)
  refine ⟨λD w x a l es ha hr=>?_,λD w x a em ha=>?_,λD w x y a b ha hb he=>?_⟩
  ·obtain ⟨d,hd⟩:∃d,P.underlying kt=some d:=by
    unfold uOk at h;cases hd:P.underlying kt with
    |none=>rw[hd] at h;cases k<;>cases h|some d=>exact ⟨d,rfl⟩
   have hnow:=zkX (d:=d) (a:=a) (x:=x) (λy b hb=>by
    unfold uOk at h;rw[hd] at h;cases k with
    |int q=>simp only[inj,Rep] at ha hb;subst ha;subst hb;cases d<;>first|(cases h;done)|simp[Instr.sameNow,keq,eq1]
    |bool=>simp only[inj,Rep] at ha hb;subst ha;subst hb;cases d<;>first|(cases h;done)|simp[Instr.sameNow,keq,eq1]
    |str =>
      simp only[inj,Rep] at ha hb;subst ha;subst hb;cases d<;>first|(cases h;done)|skip
      exact congrArg some (znt x y)
    |_=>cases d<;>cases h) 0 hr
   unfold Instr.findKey;simp only[Sem.run_bind,run_underlying hd,Result.andThen_ok,hnow];rfl
  ·exact zg3 h 9999 em ⟨x,ha⟩
  ·have:=zkR hkey ha hb he;subst this;exact zjd hkey ha
def zpQ(P:Program)(un:Uni S)(t:TypeId)(d:TypeDesc)(r:TyRow S):Bool:=match r.code with
 |some (.st n)=> !((un.codes n).all U.scalar&&Nat.beq r.fields.length (un.codes n).length)||eqB P t d (un.codes n)|_=>true
def mpB(P:Program)(un:Uni S)(d:TypeDesc)(r:TyRow S):Bool:=match r.mp with
 |some (kt,k,vt,_)=>(match d with
   | .map a b=>Nat.beq a kt&&Nat.beq b vt&&keyB P un kt k|_=>false)
 |none=>true
theorem za3{t:TypeId}{r:TyRow S}(d:TypeDesc)(z:Value)(hd:P.underlying t=some d)(hz:(P.info? t).bind (·.zero)=some z)(hn:(P.info? t).map (·.size)=some r.n)(hzz:r.zero=z.cells.toList.map zaD)
  (hc:(Nat.beq z.cells.size r.n&&rowB P un d r&&zpQ P un t d r&&zB z r.agg&&mpB P un d r&&arrB P un d r)=true):RowOk P un t r:=by
 simp only[yAd] at hc;obtain ⟨⟨⟨⟨⟨h1,h2⟩,h3⟩,h4⟩,h5⟩,h6⟩:=hc;refine zpz hd hz hn h1 hzz h2 h4 h6 (λkt k vt v hm=>?_) λn hcd hs=>?_
 ·unfold mpB at h5;rw[hm] at h5;cases d with
  |map a b =>simp only[yAd] at h5;rw[yAa h5.1.1,yAa h5.1.2];exact ⟨rfl,zo4 h5.2⟩|_=>cases h5
 unfold zpQ at h3;rw[hcd] at h3;simp only[hs,yCb,Bool.false_or] at h3;exact eq_ok hd h3
end Pe
end
section
/- A seat's tables, row by row. -/
namespace Pe
open Go Go.RowKit
variable{S:Nat->Type}{P:Program}{un:Uni S}
def Tr.All{α:Type}(p:Nat->α->Prop):Tr α->Prop| .leaf=>True| .node l k v r=>l.All p/\p k v/\r.All p
theorem Tr.all_get{α:Type}{p:Nat->α->Prop}:∀{T:Tr α},T.All p->∀i v,T.get i=some v->p i v
 | .leaf,_,_,_,h=>by cases h
 | .node l k u r,ha,i,v,h=>by
   obtain ⟨h1,h2,h3⟩:=ha;unfold Tr.get at h;cases hb:Nat.beq i k with
   |true=>rw[hb] at h;cases h;rw[yAa hb];exact h2|false =>
     rw[hb] at h;cases hc:Nat.blt i k with
     |true=>rw[hc] at h;exact Tr.all_get h1 i v h|false=>rw[hc] at h;exact Tr.all_get h3 i v h
def nst:U->Bool| .st _=>false|_=>true
theorem zpe(h:∀n,(un.codes n).all nst=true):zkk un:=λn u hu=>by have:=yAO.1 (h n) u hu;cases u<;>first|(cases this;done)|exact ⟨rfl,λm hm=>by cases hm⟩
def zah(P:Program)(f:FuncId):Prop:=∀args w,(callFunc f args).run P w= .ok (.enter f args) w
theorem zad {f : FuncId} {fn : Func} (h : P.funcs[f]? = some fn) (hn : (fn.name == "runtime.NumGoroutine") = false) (hb : fn.body.isNone = false) : zah P f := fun args w => by
 have hn' : ¬ fn.name = "runtime.NumGoroutine" := by simpa using hn
 have hb':¬fn.body=none:=by intro hc;rw[hc] at hb;simp at hb
 simp[callFunc,program,Sem.run,h,hn',hb']
def SigOk(P:Program)(f:FuncId):Sig->Prop| .data _ _=>zah P f| .inl fn _ _=>P.funcs[f]?=some fn/\zah P f| .eff _ _ _ _ _ _=>zah P f| .effI fn _ _ _ _ _ _=>P.funcs[f]?=some fn/\zah P f| .lin g=>zah P f/\g.ok=true| .bld k T Eb=>BldOk P f k T Eb/\zah P f| .inpl _ _ _=>zah P f
theorem zoG{tb:Tb S}(h1:tb.ty.All (RowOk P un))(h2:tb.sig.All (SigOk P)):TbOk P un tb :=
 ⟨λt r h=>Tr.all_get h1 t r h,λf _ _ h=>Tr.all_get h2 f _ h,λf _ _ _ _ _ _ h=>Tr.all_get h2 f _ h,λf _ _ _ _ _ _ _ h=>Tr.all_get h2 f _ h,λf _ _ _ h=>Tr.all_get h2 f _ h,λf _ h=>Tr.all_get h2 f _ h,λf _ _ _ h=>Tr.all_get h2 f _ h,λf _ _ _ h=>Tr.all_get h2 f _ h⟩
end Pe
end
section
/- What is known of callees, as a table. -/
namespace Pe
open Go Go.RowKit
variable{S:Nat->Type}{P:Program}{un:Uni S}
def zpp:(a b:List U)->Option (PLift (a=b))
 |[],[]=>some ⟨rfl⟩|u::us,v::vs=>match U.eq? u v,zpp us vs with|some ⟨h⟩,some ⟨k⟩=>some ⟨by rw[h,k]⟩|_,_=>none
 |_,_=>none
def zoS:(u:U)->PV S->Option (El S u)
 | .int k,.int k' n=>if k=k' then some n else none
 | .bool,.bool b=>some b| .str,.str s=>some s| .sl u,.sl v l=>match U.eq? v u with|some ⟨h⟩=>some (h▸l)|none=>none
 | .st n,.st m x=>match zeY m n with|some ⟨h⟩=>some (h▸x)|none=>none
 | .fm k v,.cont u x=>match U.eq? u (.fm k v) with|some ⟨h⟩=>some (h▸x)|none=>none
 | .cs v,.cont u x=>match U.eq? u (.cs v) with|some ⟨h⟩=>some (h▸x)|none=>none
 |_,_=>none
theorem zmg{u:U}{p:PV S}{x:El S u}(h:zoS u p=some x):p=inj u x:=by
 unfold zoS at h;split at h
 ·split at h;·rename_i hk;cases h;subst hk;rfl
  ·cases h
 ·cases h;rfl
 ·cases h;rfl
 ·split at h;·rename_i hk _;subst hk;cases h;rfl
  ·cases h
 ·split at h;·rename_i hk _;subst hk;cases h;rfl
  ·cases h
 ·split at h;·rename_i hk _;subst hk;cases h;rfl
  ·cases h
 ·split at h;·rename_i hk _;subst hk;cases h;rfl
  ·cases h
 ·cases h
def zmf:(us:List U)->List (PV S)->Option (ElL S us)
 |[],[]=>some ()|u::us,p::ps=>match zoS u p,zmf us ps with
   |some x,some t=>some (x,t)|_,_=>none
 |_,_=>none
theorem zgC:∀{us:List U}{ps:List (PV S)}{t:ElL S us},zmf us ps=some t->ps=zcp us t
 |[],[],_,_=>rfl|u::us,p::ps,t,h=>by
   unfold zmf at h;split at h;·rename_i x t' h1 h2;cases h;rw[zmg h1,zgC h2];rfl
   ·cases h
 |[],_::_,_,h=>by cases h
 |_::_,[],_,h=>by cases h
structure Entry (S:Nat->Type) where
 us:List U
 rs:List U
 spec:ElL S us->Option (ElL S rs)
def Entry.run(e:Entry S)(args:List (PV S))(rs:List U):Option (ElL S rs) :=
 match zpp e.rs rs with|some ⟨h⟩=>(zmf e.us args).bind λt=>h▸e.spec t|none=>none
structure EntryE (S:Nat->Type) where
 k:Nat
 us:List U
 ts:List TypeId
 lc:List U
 rs:List U
 ps:List U
 pan:TypeId
 spec:ElL S lc->ElL S us->Option (Out S lc rs ps)
def zmF:Nat->Nat->List (PV S)->Option (List (PV S))|0,_,l=>some l|n+1,j,.ptr b 0::r=>bif Nat.beq b j then zmF n (j+1) r else none|_+1,_,_=>none
theorem zhC:∀{n j:Nat}{args l:List (PV S)},zmF n j args=some l->args=(List.range' j n).map (λi=>.ptr i 0)++l
 |0,_,_,_,h=>by simp only[zmF] at h;cases h;simp
 |n+1,j,args,l,h=>by
   unfold zmF at h;split at h;·cases ‹n+1=0›
   ·rename_i b r heq;cases heq;obtain ⟨h1,h2⟩:=zac h;have:=yAa h1;subst this;rw[zhC h2];simp[yBa]
   ·cases h
def zkC:(a b:List Nat)->Bool|[],[]=>true|a::r,b::s=>Nat.beq a b&&zkC r s|_,_=>false
theorem zi1:∀{a b:List Nat},zkC a b=true->a=b
 |[],[],_=>rfl|a::r,b::s,h=>by simp only[zkC,yAd] at h;rw[yAa h.1,zi1 h.2]
 |[],_::_,h=>by cases h
 |_::_,[],h=>by cases h
def zph{lc lc' rs rs' ps ps':List U}(h1:lc=lc')(h2:rs=rs')(h3:ps=ps')(x:Option (Out S lc rs ps)):Option (Out S lc' rs' ps'):=by subst h1;subst h2;subst h3;exact x
def EntryE.run(e:EntryE S)(args:List (PV S))(ts:List TypeId)(lc:List U)(c:ElL S lc)(rs ps:List U)(pan:TypeId):Option (Out S lc rs ps) :=
 bif zkC e.ts ts&&Nat.beq e.pan pan then
  match zpp e.lc lc,zpp e.rs rs,zpp e.ps ps with
  |some ⟨h1⟩,some ⟨h2⟩,some ⟨h3⟩=>(zmF e.k 0 args).bind λl=>(zmf e.us l).bind λt=>zph h1 h2 h3 (e.spec (h1.symm▸c) t)|_,_,_=>none
 else none
def zoR(k:Nat):List (PV S):=(List.range' 0 k).map λi=>.ptr i 0
def EntryE.Ok(P:Program)(un:Uni S)(f:Nat)(e:EntryE S):Prop:=∀c t r,e.spec c t=some r->zpw P un f (zoR e.k++zcp e.us t) e.ts e.lc c e.rs e.ps e.pan r
def lEq{α:Type}(f:(a b:α)->Option (PLift (a=b))):(l m:List α)->Option (PLift (l=m))
 |[],[]=>some ⟨rfl⟩|a::l,b::m=>match f a b with
   |some ⟨h⟩=>(match lEq f l m with|some ⟨k⟩=>some ⟨by rw[h,k]⟩|none=>none)|none=>none
 |_,_=>none
def zn2:(a b:CTy)->Option (PLift (a=b))
 | .fr u,.fr v=>match U.eq? u v with|some ⟨h⟩=>some ⟨by rw[h]⟩|none=>none
 | .own u T,.own v T'=>match U.eq? u v with|some ⟨h⟩=>(match zeY T T' with|some ⟨k⟩=>some ⟨by rw[h,k]⟩|none=>none)|none=>none
 | .wr u T,.wr v T'=>match U.eq? u v with|some ⟨h⟩=>(match zeY T T' with|some ⟨k⟩=>some ⟨by rw[h,k]⟩|none=>none)|none=>none
 |_,_=>none
def zqt:(a b:Arg)->Option (PLift (a=b))
 | .one c,.one d=>match zn2 c d with|some ⟨h⟩=>some ⟨by rw[h]⟩|none=>none
 | .agg c,.agg d=>match lEq zn2 c d with|some ⟨h⟩=>some ⟨by rw[h]⟩|none=>none
 | .ref k,.ref j=>match zeY k j with|some ⟨h⟩=>some ⟨by rw[h]⟩|none=>none
 | .ptr k o,.ptr j p=>match zeY k j with|some ⟨h⟩=>(match zeY o p with|some ⟨q⟩=>some ⟨by rw[h,q]⟩|none=>none)|none=>none
 | .fn k,.fn j=>match zeY k j with|some ⟨h⟩=>some ⟨by rw[h]⟩|none=>none
 | .nil,.nil=>some ⟨rfl⟩| .agr c k,.agr d j=>match lEq zn2 c d with|some ⟨h⟩=>(match zeY k j with|some ⟨q⟩=>some ⟨by rw[h,q]⟩|none=>none)|none=>none
 |_,_=>none
def zql:(a b:Bool)->Option (PLift (a=b))|true,true=>some ⟨rfl⟩|false,false=>some ⟨rfl⟩|_,_=>none
def bsEq(a b:Bool×TypeId×List CTy):Option (PLift (a=b)):=match a,b with
 |(f,T,l),(g,T',m)=>match zql f g with
   |some ⟨h⟩=>(match zeY T T' with
     |some ⟨k⟩=>(match lEq zn2 l m with|some ⟨q⟩=>some ⟨by rw[h,k,q]⟩|none=>none)|none=>none)
   |none=>none
def sgEq(a b:Sg):Option (PLift (a=b)):=match a,b with
 |⟨as1,bs,rs,ps,pan⟩,⟨as2,bs',rs',ps',pan'⟩=>match lEq zqt as1 as2 with
   |some ⟨h1⟩=>(match lEq bsEq bs bs' with
     |some ⟨h2⟩=>(match lEq zqt rs rs' with
       |some ⟨h3⟩=>(match zpp ps ps' with
         |some ⟨h4⟩=>(match zeY pan pan' with
           |some ⟨h5⟩=>some ⟨by rw[h1,h2,h3,h4,h5]⟩|none=>none)
         |none=>none)
       |none=>none)
     |none=>none)
   |none=>none
structure EntryL (S:Nat->Type) where
 g:Sg
 spec:g.In S->Option (g.Out S)
def EntryL.run(e:EntryL S)(g:Sg)(t:g.In S):Option (g.Out S) :=
 match sgEq e.g g with
 |some ⟨h⟩=>h▸e.spec (h.symm▸t)|none=>none
def EntryL.Ok(P:Program)(un:Uni S)(f:Nat)(e:EntryL S):Prop:=∀t r,e.spec t=some r->zpv P un f e.g t r
structure EntryP (S:Nat->Type) where
 u:U
 T:TypeId
 k:Option FuncId
 spec:List (El S u)->Option (List (El S u))
def EntryP.args(e:EntryP S):List (PV S):=match e.k with
 |none=>[]|some g=>[.func (.func g) [] []]
def zqs:Option FuncId->List (PV S)->Bool|none,[]=>true|some g,[.func (.func g') [] []]=>Nat.beq g g'|_,_=>false
def EntryP.run(e:EntryP S)(u:U)(T:TypeId)(args:List (PV S))(l:List (El S u)):Option (List (El S u)) :=
 match U.eq? e.u u with
 |some ⟨h⟩=>bif Nat.beq e.T T&&zqs e.k args then h▸e.spec (h▸l) else none|none=>none
def znx:List (EntryP S)->(u:U)->(T:TypeId)->List (PV S)->List (El S u)->Option (List (El S u))
 |[],_,_,_,_=>none|e::r,u,T,args,l=>match e.run u T args l with
   |some x=>some x|none=>znx r u T args l
def EntryP.Ok(P:Program)(un:Uni S)(f:Nat)(e:EntryP S):Prop:=∀l l',e.spec l=some l'->zqx P un f e.u e.T e.args l l'
def EntryPs.Ok(P:Program)(un:Uni S)(f:Nat)(l:List (EntryP S)):Prop:=∀e∈l,EntryP.Ok P un f e
theorem zku{f:Nat}:∀{es:List (EntryP S)},EntryPs.Ok P un f es->∀u T args l l',znx es u T args l=some l'->zqx P un f u T args l l'
 |[],_,_,_,_,_,_,h=>by cases h
 |e::r,hok,u,T,args,l,l',h=>by
   unfold znx at h;split at h
   ·rename_i x hx;cases h;unfold EntryP.run at hx;split at hx
    ·rename_i heq _;subst heq;obtain ⟨h1,h2⟩:=zac hx;simp only[yAd] at h1;have hT:=yAa h1.1;subst hT;have ha:args=e.args:=by
      have h3:=h1.2;unfold EntryP.args;cases hk:e.k with
      |none =>
        rw[hk] at h3;cases args with
        |nil=>rfl|cons x y=>cases h3
      |some g =>
        rw[hk] at h3;unfold zqs at h3;split at h3;·rename_i heq;cases heq
        ·rename_i g0 g' heq;cases heq;rw[yAa h3]
        ·cases h3
     rw[ha];exact hok e (by simp) l l' h2
    ·cases hx
   ·exact zku (λe' he=>hok e' (by simp[he])) u T args l l' h
def zps(T:Tr (Entry S))(TE:Tr (EntryE S))(TL:Tr (EntryL S))(TP:Tr (List (EntryP S))):Orc S where
 p f u T args l:=match TP.get f with
   |some es=>znx es u T args l|none=>none
 d f args rs:=match T.get f with
   |some e=>e.run args rs|none=>none
 e f args ts lc c rs ps pan:=match TE.get f with
   |some e=>e.run args ts lc c rs ps pan|none=>none
 l f g t:=match TL.get f with
   |some e=>e.run g t|none=>none
def Entry.Ok(P:Program)(un:Uni S)(f:Nat)(e:Entry S):Prop:=∀t r,e.spec t=some r->Sat P un f (zcp e.us t) e.rs r
theorem zly{T:Tr (Entry S)}{TE:Tr (EntryE S)}{TL:Tr (EntryL S)}{TP:Tr (List (EntryP S))}(h:T.All (Entry.Ok P un))(hE:TE.All (EntryE.Ok P un))(hL:TL.All (EntryL.Ok P un))(hP:TP.All (EntryPs.Ok P un)):SoundO P un (zps T TE TL TP):=by
 refine ⟨λf args rs r hr=>?_,λf args ts lc c rs ps pan r hr=>?_,λf g t r hr=>?_,λf u T args l l' hr=>?_⟩
 ·unfold zps at hr;simp only at hr;split at hr
  ·rename_i e he;have hok:=Tr.all_get h f e he;unfold Entry.run at hr;split at hr;·rename_i hrs _;subst hrs;simp only[yBH] at hr;obtain ⟨t,h1,h2⟩:=hr;rw[zgC h1];exact hok t r h2
   ·cases hr
  ·cases hr
 ·unfold zps at hr;simp only at hr;split at hr
  ·rename_i e he;have hok:=Tr.all_get hE f e he;unfold EntryE.run at hr;obtain ⟨h1,h2⟩:=zac hr;simp only[yAd] at h1;have e1:=zi1 h1.1;have e2:=yAa h1.2;split at h2;·rename_i k1 k2 k3 _ _ _;subst e1;subst e2;subst k1;subst k2;subst k3;simp only[yBH] at h2;obtain ⟨l,h3,t,h4,h5⟩:=h2;rw[zhC h3,zgC h4];exact hok c t r h5
   ·cases h2
  ·cases hr
 ·unfold zps at hr;simp only at hr;split at hr
  ·rename_i e he;have hok:=Tr.all_get hL f e he;unfold EntryL.run at hr;split at hr;·rename_i k _;subst k;exact hok t r hr
   ·cases hr
  ·cases hr
 ·unfold zps at hr;simp only at hr;split at hr;·rename_i es he;exact zku (Tr.all_get hP f es he) u T args l l' hr
  ·cases hr
end Pe
end
section
/- Loops of the models, round by round. -/
namespace Pe
theorem zfE{σ R:Type}{f:σ->Option (σ⊕R)}{r:R}:∀{n m:Nat}{x:σ},zhe f n x=some r->n<=m->zhe f m x=some r
 |0,_,_,h,_=>by cases h
 |n+1,0,_,_,hm=>absurd hm (by omega)|n+1,m+1,x,h,hm=>by
   unfold zhe at h ⊢;split at h;·exact zfE h (by omega)
   ·exact h
   ·cases h
theorem zib{σ R:Type}{f:σ->Option (σ⊕R)}{r:R}{n:Nat}{x:σ}(h:zhe f n x=some r):zav f x=some r:=by
 have hx:∃n,(zhe f n x).isSome:=⟨n,by rw[h];rfl⟩;unfold zav;rw[dif_pos hx];have h2:=Classical.choose_spec hx;cases h3:zhe f (Classical.choose hx) x with
 |none=>rw[h3] at h2;cases h2|some r' =>have a:=zfE h (Nat.le_max_left n (Classical.choose hx));have b:=zfE h3 (Nat.le_max_right n (Classical.choose hx));rw[a] at b;exact b.symm
theorem zco{σ R:Type}{f:σ->Option (σ⊕R)}{r:R}{x:σ}(h:f x=some (.inr r)):zav f x=some r:=zib (n:=1) (by simp[zhe,h])
theorem zb8{σ R:Type}{f:σ->Option (σ⊕R)}{x y:σ}(h:f x=some (.inl y)):zav f x=zav f y:=by
 cases hy:zav f y with
 |some r =>obtain ⟨n,hn⟩:=zfz hy;exact zib (n:=n+1) (by simp[zhe,h,hn])
 |none =>
   cases hx:zav f x with
   |none=>rfl|some r =>
     obtain ⟨n,hn⟩:=zfz hx;cases n with
     |zero=>cases hn|succ n=>simp only[zhe,h] at hn;rw[zib hn] at hy;cases hy
end Pe
end
section
/- What is handed in: a reading of plain data by a row gives a value of the pure reading. -/
namespace Pe
open Go Go.RowKit
variable{S:Nat->Type}{P:Program}{un:Uni S}
structure Grp (un:Uni S) where
 g:Nat->List U
 get:(n:Nat)->S n->ElL S (g n)
 put:(n:Nat)->ElL S (g n)->S n
 get_put:∀n t,get n (put n t)=t
 dr:∀(n:Nat)(x:S n)(D:Dat)(w:World)(cs:List Value),DR un D w (g n) (get n x) cs->DR un D w (un.codes n) (un.get n x) cs
 size:∀n,zcr un (g n)=(un.codes n).length
def Grp.plain(un:Uni S)(h:∀n t,un.get n (un.put n t)=t)(hs:∀n,zcr un (un.codes n)=(un.codes n).length):Grp un:=⟨un.codes,un.get,un.put,h,λ_ _ _ _ _ h=>h,hs⟩
variable(G:Grp un)
def Flds(un:Uni S)(M:U->TypeId->Prop)(P:Program):Nat->List Field->List U->Prop|_,[],[]=>True|k,f::fs,u::us=>f.offset=k/\P.cellsOf f.type=U.size un u/\M u f.type/\Flds un M P (k+U.size un u) fs us|_,_,_=>False
def zqw(P:Program)(M:U->TypeId->Prop):U->TypeId->Prop
 | .int k,t=>P.underlying t=some (.int k)| .bool,t=>P.underlying t=some .bool| .str,t=>P.underlying t=some .string| .sl u,t=>∃e,P.underlying t=some (.slice e)/\P.cellsOf e=U.size un u/\0<U.size un u/\M u e
 | .st n,t=>P.cellsOf t=(un.codes n).length/\((∃fs,P.underlying t=some (.struct fs)/\Flds un M P 0 fs.toList (G.g n)) \/
   ∃k e u,P.underlying t=some (.array k e)/\P.cellsOf e=1/\G.g n=List.replicate k u/\U.size un u=1/\M u e)
 | .mp _ _,_=>False| .rw _,_=>False| .fm _ _,_=>False| .cs _,_=>False
inductive Rd {H:Type}:(us:List U)->ElL S us->List (DataW H)->Prop
 |nil {t}:Rd [] t []
 |int {k us} {t:ElL S (.int k::us)} {ds} (hw:(Lit.int k (eI (hd t))).wf=true) (h:Rd us (tl t) ds):Rd (.int k::us) t (.lit (.int k (eI (hd t)))::ds)
 |bool {us} {t:ElL S (.bool::us)} {ds} (h:Rd us (tl t) ds):Rd (.bool::us) t (.lit (.bool (eB (hd t)))::ds)
 |str {us} {t:ElL S (.str::us)} {ds} (hs:(eS (hd t)).length<=maxLen) (h:Rd us (tl t) ds):Rd (.str::us) t (.lit (.string (eS (hd t)))::ds)
 |sl0 {u us} {t:ElL S (.sl u::us)} {ds} (h0:eL (hd t)=[]) (h:Rd us (tl t) ds):Rd (.sl u::us) t (.nil::ds)
 | sl {u us} {t:ElL S (.sl u::us)} {ds} (es sp:List (DataW H)) (hl:es.length=(eL (hd t)).length)
   (h1:∀(i:Nat)(x:El S u)(d:DataW H),(eL (hd t))[i]?=some x->es[i]?=some d->Rd [u] (sg x) [d]) (h:Rd us (tl t) ds):Rd (.sl u::us) t (.slice es sp::ds)
 |st {n us} {t:ElL S (.st n::us)} {ps ds} (h1:Rd (G.g n) (G.get n (eT (hd t))) ps) (h:Rd us (tl t) ds):Rd (.st n::us) t (.agg ps::ds)
variable{G}
theorem DR.one_cons{D:Dat}{w:World}{u:U}{us:List U}{x:El S u}{t:ElL S us}{c cs:List Value}(h1:DR un D w [u] (sg x) c)(h2:DR un D w us t cs):DR un D w (u::us) (two x t) (c++cs):=by
 cases h1 with
 |int h=>cases h;exact .int h2|bool h=>cases h;exact .bool h2|str h=>cases h;exact .str h2|sl0 A c h0 h=>cases h;exact .sl0 A c h0 h2|sl b off c cs hc a1 a2 h=>cases h;exact .sl b off c cs hc a1 a2 h2|mp kc vc a1 a2 h=>cases h;exact .mp kc vc a1 a2 h2|rw cs a1 h=>cases h;exact .rw cs a1 h2|fm b es c l' kc vc hD hg hs hp hn hl hk a1 a2 h=>cases h;exact .fm b es c l' kc vc hD hg hs hp hn hl hk a1 a2 h2|cs0 A h0 h=>cases h;exact .cs0 A h0 h2|cs b off cs a1 a2 h=>cases h;exact .cs b off cs a1 a2 h2|st a1 h=>cases h;rw[yAW];exact .st a1 h2
theorem Rd.one_cons{H:Type}{u:U}{us:List U}{x:El S u}{t:ElL S us}{c:DataW H}{cs:List (DataW H)}(h1:Rd G [u] (sg x) [c])(h2:Rd G us t cs):Rd G (u::us) (two x t) (c::cs):=by
 cases h1 with
 |int hw h=>exact .int hw h2|bool h=>exact .bool h2|str hs h=>exact .str hs h2|sl0 h0 h=>exact .sl0 h0 h2|sl es sp hl a1 h=>exact .sl es sp hl a1 h2|st a1 h=>exact .st a1 h2
section
variable{H:Type}
theorem Rd.inv_str{us:List U}{t:ElL S (.str::us)}{ds:List (DataW H)}(h:Rd G (.str::us) t ds):∃r,ds= .lit (.string (eS (hd t)))::r/\(eS (hd t)).length<=maxLen/\Rd G us (tl t) r:=by cases h with|str hs h=>exact ⟨_,rfl,hs,h⟩
theorem Rd.inv_sl{u:U}{us:List U}{t:ElL S (.sl u::us)}{ds:List (DataW H)}(h:Rd G (.sl u::us) t ds) :
  ∃d r,ds=d::r/\((d= .nil/\eL (hd t)=[])\/∃es sp,d= .slice es sp/\es.length=(eL (hd t)).length/\∀(i:Nat)(x:El S u)(d:DataW H),(eL (hd t))[i]?=some x->es[i]?=some d->Rd G [u] (sg x) [d])/\Rd G us (tl t) r:=by
 cases h with
 |sl0 h0 h=>exact ⟨_,_,rfl,.inl ⟨rfl,h0⟩,h⟩|sl es sp hl h1 h=>exact ⟨_,_,rfl,.inr ⟨es,sp,rfl,hl,h1⟩,h⟩
theorem Rd.inv_st{n:Nat}{us:List U}{t:ElL S (.st n::us)}{ds:List (DataW H)}(h:Rd G (.st n::us) t ds):∃ps r,ds= .agg ps::r/\Rd G (G.g n) (G.get n (eT (hd t))) ps/\Rd G us (tl t) r:=by cases h with|st h1 h=>exact ⟨_,_,rfl,h1,h⟩
end
def zna(w:World):Dat:=λk _=>k<w.heap.size
theorem zmX{w:World}{a:Addr}{v:Value}(h:w.cell? a=some v):a.block<w.heap.size/\a.spot=none:=by
 unfold World.cell? at h;split at h
 ·rename_i c _ _ hb;refine ⟨(yAq.1 hb).1,?_⟩;split at h;·cases h
  ·rename_i hs;simpa using hs
 ·cases h
theorem zoD(a:Addr)(h:a.spot=none)(n:Nat):a.add n=⟨a.block,a.off+n,none⟩:=by
 unfold Addr.add;obtain ⟨b,o,s⟩:=a;simp only at h;subst h;split;·rename_i h0;subst h0;rfl
 ·rfl
theorem zmD{α:Type}{Q:Nat->α->Prop}:∀(n:Nat),(∀i,i<n->∃p,Q i p)->∃l:List α,l.length=n/\∀(i:Nat)(p:α),l[i]?=some p->Q i p
 |0,_=>⟨[],rfl,λi p h=>by simp at h⟩|n+1,h=>by
   obtain ⟨l,h1,h2⟩:=zmD n λi hi=>h i (by omega);obtain ⟨p,hp⟩:=h n (by omega);refine ⟨l++[p],by simp[h1],λi q hq=>?_⟩;rcases yAR i n with hlt|hge;·rw[yAi (by omega)] at hq;exact h2 i q hq
   ·rw[yAz (by omega),h1] at hq;cases hk:i - n with
    | zero=>rw[hk] at hq;simp at hq;subst hq;obtain rfl:i=n:=by omega
            exact hp
    |succ k=>rw[hk] at hq;simp at hq
section
variable{H:Type}{enc:TypeId×Value->H}{w:World}{base:Nat}{spare:Nat->Bool}{held:Bool}{M:U->TypeId->Prop}
theorem ziC{un:Uni S}{u:U}(h:U.size un u=1):∀m,zcr un (List.replicate m u)=m|0=>rfl|m+1=>by rw[List.replicate_succ];simp only[zcr];rw[ziC h m,h];omega
def zoc(un:Uni S){X:Type}(M:U->TypeId->Prop)(tr:TypeId->List Value->Option X):List U->List Value->List X->Prop|[],cs,xs=>cs=[]/\xs=[]|u::us,cs,xs=>∃t x r,xs=x::r/\M u t/\tr t (cs.take (U.size un u))=some x/\zoc un M tr us (cs.drop (U.size un u)) r
theorem zkb{n:Nat}(ih:∀u t cs x,DataW.trod enc P w base spare held n t cs=some x->M u t->∃y:El S u,DR un (zna w) w [u] (sg y) cs/\Rd G [u] (sg y) [x.1]) :
  ∀(us:List U)(cs:List Value)(xs:List (DataW H×List MemPlace)),zoc un M (DataW.trod enc P w base spare held n) us cs xs->∃y:ElL S us,DR un (zna w) w us y cs/\Rd G us y (xs.map (·.1))
 |[],cs,xs,h=>by obtain ⟨rfl,rfl⟩:=h;exact ⟨(),.nil,.nil⟩
 |u::us,cs,xs,h=>by obtain ⟨t,x,r,rfl,hm,h1,h2⟩:=h;obtain ⟨y,y1,y2⟩:=ih u t _ x h1 hm;obtain ⟨z,z1,z2⟩:=zkb ih us _ r h2;have:=DR.one_cons y1 z1;rw[List.take_append_drop] at this;exact ⟨two y z,this,Rd.one_cons y2 z2⟩
theorem Flds.parts{X:Type}{tr:TypeId->List Value->Option X}{cs:List Value}:∀(fs:List Field)(us:List U)(k:Nat)(xs:List X),Flds un M P k fs us->xs.length=us.length->k+zcr un us=cs.length ->
  (∀(i:Nat) f,fs[i]?=some f->tr f.type ((cs.drop f.offset).take (P.cellsOf f.type))=xs[i]?)->zoc un M tr us (cs.drop k) xs
 |[],[],k,xs,_,h1,h2,_=>⟨by simp only[zcr] at h2;rw[yA2 (by omega)],yAL.1 h1⟩|f::fs,u::us,k,xs,h,h1,h2,h3=>by
   obtain ⟨a,b,c,d⟩:=h
   match xs,h1 with
   |x::r,h1 =>have h0:=h3 0 f rfl;rw[a,b] at h0;refine ⟨f.type,x,r,rfl,c,by simpa using h0,?_⟩;rw[yBl];simp only[zcr] at h2;exact Flds.parts fs us (k+U.size un u) r d (by simpa using h1) (by omega) λi g hg=>by simpa using h3 (i+1) g (by simpa using hg)
 |[],_::_,_,_,h,_,_,_=>by simp[Flds] at h
 |_::_,[],_,_,h,_,_,_=>by simp[Flds] at h
theorem zjE{X:Type}{tr:TypeId->List Value->Option X}{u:U}{e:TypeId}(hu:U.size un u=1)(hm:M u e):∀(m:Nat)(cs:List Value)(xs:List X),cs.length=m->xs.length=m->(∀i,i<m->tr e ((cs.drop i).take 1)=xs[i]?)->zoc un M tr (List.replicate m u) cs xs
 |0,cs,xs,h1,h2,_=>⟨yAL.1 h1,yAL.1 h2⟩|m+1,cs,xs,h1,h2,h3=>by
   match xs,h2 with
   |x::r,h2 =>have h0:=h3 0 (by omega);rw[List.replicate_succ];refine ⟨e,x,r,rfl,hm,by rw[hu];simpa using h0,?_⟩;rw[hu];exact zjE hu hm m (cs.drop 1) r (by simp[h1]) (by simpa using h2) λi hi=>by have:=h3 (i+1) (by omega);rw[yBl,yBO 1 i];simpa using this
theorem zo9(hM:∀u t,M u t->zqw G P M u t):∀(n:Nat)(u:U)(t:TypeId)(cs:List Value)(x:DataW H×List MemPlace),
  DataW.trod enc P w base spare held n t cs=some x->M u t->∃y:El S u,DR un (zna w) w [u] (sg y) cs/\Rd G [u] (sg y) [x.1]:=by
 intro n;induction n with
 |zero=>intro u t cs x h;simp[DataW.trod] at h
 |succ n ih =>
   intro u t cs x h hm;have hs:=hM u t hm;cases u with
   |mp k v=>exact hs.elim|rw u=>exact hs.elim|fm k v=>exact hs.elim|cs u=>exact hs.elim|int k =>obtain ⟨z,rfl,rfl,hw⟩:=DataW.trod_int hs h;exact ⟨z,.int .nil,.int hw .nil⟩
   |bool =>obtain ⟨b,rfl,rfl⟩:=DataW.trod_bool hs h;exact ⟨b,.bool .nil,.bool .nil⟩
   |str =>obtain ⟨s,rfl,rfl,hl⟩:=DataW.trod_string hs h;refine ⟨s.data.toList,?_,.str (by show s.data.toList.length<=maxLen;simpa using hl) .nil⟩;have:=DR.str (un:=un) (D:=zna w) (w:=w) (us:=[]) (t:=sg (u:= .str) s.data.toList) (vs:=[]) .nil;exact this
   |sl u =>
     obtain ⟨e,he,hc,hpos,hme⟩:=hs;rcases DataW.trod_slice he h with ⟨rfl,rfl⟩|⟨a,len,cap,elems,rest,m,hmn,rfl,rfl,hb,hl,hcap,hel,hget,_,_⟩;·exact ⟨([]:List (El S u)),.sl0 none 0 rfl .nil,.sl0 rfl .nil⟩
     ·obtain rfl:n=m:=by omega
      have one:∀i,i<len->∃(ci:List Value) (y:El S u),w.cells? base (a.add (i*P.cellsOf e)) (P.cellsOf e)=some ci/\DR un (zna w) w [u] (sg y) ci/\∃d,elems[i]?=some d/\Rd G [u] (sg y) [d.1]:=by
       intro i hi;have h1:=hget i hi;rw[yAh (by omega)] at h1;cases hci:w.cells? base (a.add (i*P.cellsOf e)) (P.cellsOf e) with
       |none=>simp[hci] at h1|some ci =>rw[hci] at h1;obtain ⟨y,y1,y2⟩:=ih u e ci _ h1 hme;exact ⟨ci,y,rfl,y1,_,yAh (by omega),y2⟩
      by_cases h0:len=0;·subst h0;obtain rfl:=yAL.1 hel;exact ⟨([]:List (El S u)),.sl0 _ _ rfl .nil,.sl [] _ rfl (λi x d hx=>by have hx':([]:List (El S u))[i]?=some x:=hx;simp at hx') .nil⟩
      obtain ⟨l,l1,l2⟩:=zmD (Q:=λi (p:List Value×El S u)=>w.cells? base (a.add (i*P.cellsOf e)) (P.cellsOf e)=some p.1/\DR un (zna w) w [u] (sg p.2) p.1/\∃d,elems[i]?=some d/\Rd G [u] (sg p.2) [d.1]) len (λi hi=>by obtain ⟨ci,y,h1,h2,h3⟩:=one i hi;exact ⟨(ci,y),h1,h2,h3⟩);have zbF:∀(i:Nat)(p:List Value×El S u),l[i]?=some p->p.1.length=P.cellsOf e/\∀(j:Nat) v,p.1[j]?=some v->w.cell? ((a.add (i*P.cellsOf e)).add j)=some v:=by
       intro i p hp;obtain ⟨h1,_,_⟩:=l2 i p hp;unfold World.cells? at h1;split at h1
       ·have hlen:=mapM_some_length h1;refine ⟨by simpa using hlen,λj v hj=>?_⟩;have hlt:j<P.cellsOf e:=(by have:=(yAc.1 hj).1;simp at hlen;omega);have:=mapM_some_get h1 j j (by simp[hlt]);rw[this,hj]
       ·cases h1
      have hspot:a.spot=none:=(by obtain ⟨p,hp⟩:∃p,l[0]?=some p:=⟨_,yAh (by omega)⟩;obtain ⟨c1,c2⟩:=zbF 0 p hp;obtain ⟨v,hv⟩:∃v,p.1[0]?=some v:=⟨_,yAh (by omega)⟩;have:=(zmX (c2 0 v hv)).2;simpa[Addr.add] using this);have hsize:P.cellsOf e=U.size un u:=hc;have hlmap:(l.map (·.2)).length=len:=(by simp[l1]);refine ⟨l.map (·.2),?_,?_⟩
      ·obtain ⟨b,o,sp⟩:=a;simp only at hspot;subst hspot
       have:=DR.sl (un:=un) (D:=zna w) (w:=w) (u:=u) (us:=[]) (t:=sg (u:= .sl u) (l.map (·.2))) (vs:=[]) b o cap (λi=>((l[i]?).map (·.1)).getD []) (by
         show (l.map (·.2)).length<=cap;omega) (λi x hx=>by
        have hx':(l.map (·.2))[i]?=some x:=hx;rw[yAg] at hx';cases hp:l[i]? with
        |none=>simp[hp] at hx'|some p =>obtain ⟨_,c2⟩:=zbF i p hp;simp only[yAf,yBU];intro j v hj;have:=c2 j v hj;rw[zoD ⟨b,o,none⟩ rfl,zoD _ rfl,hsize] at this;exact ⟨(zmX this).1,this⟩) (λi x hx=>by
        have hx':(l.map (·.2))[i]?=some x:=hx;rw[yAg] at hx';cases hp:l[i]? with
        |none=>simp[hp] at hx'|some p =>simp only[hp,yAf,yAe] at hx';subst hx';exact (l2 i p hp).2.1) .nil
       have e2:(eL (hd (sg (u:= .sl u) (l.map (·.2))))).length=len:=hlmap;rw[e2] at this;exact this
      ·exact .sl _ _ (by rw[yCe,hel];exact hlmap.symm) (λi x d hx hd'=>by
        have hx':(l.map (·.2))[i]?=some x:=hx;rw[yAg] at hx' hd';cases hp:l[i]? with
        |none=>simp[hp] at hx'|some p =>simp only[hp,yAf,yAe] at hx';subst hx';obtain ⟨_,_,d',q1,q2⟩:=l2 i p hp;rw[q1] at hd';simp only[yAf,yAe] at hd';subst hd';exact q2) .nil
   |st k =>
     obtain ⟨hsz,hs⟩:=hs;rcases hs with ⟨fs,hu,hf⟩|⟨m,e,u,hu,hc,hcodes⟩
     ·obtain ⟨xs,m,hmn,rfl,hcl,hxl,hget⟩:=DataW.trod_struct hu h;obtain rfl:n=m:=by omega
      have hlen:fs.toList.length=(G.g k).length:=by
       have:∀(fs:List Field)(us:List U)(j:Nat),Flds un M P j fs us->fs.length=us.length:=by
        intro fs;induction fs with
        |nil=>intro us j h;cases us with
          |nil=>rfl|cons=>simp[Flds] at h
        |cons f fs ihf=>intro us j h;cases us with
          |nil=>simp[Flds] at h|cons u us=>simp[ihf us _ h.2.2.2]
       exact this _ _ _ hf
      have hp:=Flds.parts (tr:=DataW.trod enc P w base spare held n) (cs:=cs) fs.toList (G.g k) 0 xs hf (by simp at hlen;omega) (by rw[G.size];omega) (λi f hfi=>hget i f (by simpa using hfi));rw[yBC] at hp;obtain ⟨y,y1,y2⟩:=zkb ih (G.g k) cs xs hp;refine ⟨G.put k y,?_,?_⟩
      ·have:=DR.st (un:=un) (D:=zna w) (w:=w) (n:=k) (us:=[]) (t:=sg (u:= .st k) (G.put k y)) (cs:=cs) (vs:=[]) (by
        refine G.dr k (G.put k y) _ _ cs ?_;rw[G.get_put];exact y1) .nil
       rwa[yAW] at this
      ·exact .st (by show Rd G (G.g k) (G.get k (G.put k y)) _;rw[G.get_put];exact y2) .nil
     ·obtain ⟨xs,m',hmn,rfl,hcl,hxl,hget⟩:=DataW.trod_array hu h;obtain rfl:n=m':=by omega
      have hp:=zjE (un:=un) (tr:=DataW.trod enc P w base spare held n) (hcodes.2.1) hcodes.2.2 m cs xs (by rw[hcl,hsz,<-G.size,hcodes.1,ziC hcodes.2.1]) hxl (λi hi=>by have:=hget i hi;rw[hc,yA7] at this;exact this);rw[<-hcodes.1] at hp;obtain ⟨y,y1,y2⟩:=zkb ih (G.g k) cs xs hp;refine ⟨G.put k y,?_,?_⟩
      ·have:=DR.st (un:=un) (D:=zna w) (w:=w) (n:=k) (us:=[]) (t:=sg (u:= .st k) (G.put k y)) (cs:=cs) (vs:=[]) (by
        refine G.dr k (G.put k y) _ _ cs ?_;rw[G.get_put];exact y1) .nil
       rwa[yAW] at this
      ·exact .st (by show Rd G (G.g k) (G.get k (G.put k y)) _;rw[G.get_put];exact y2) .nil
end
end Pe
end
section
/- From a pure model's answer to a row's zin: a law of plain data that answers true. -/
namespace Pe
open Go Go.RowKit Go.WideShapes Go.ChangeShapes
variable{S:Nat->Type}{P:Program}{un:Uni S}{G:Grp un}
section
variable{H:Type}{enc:TypeId×Value->H}
theorem zlu{f:Func}{s:ChangeSpec}{apart fresh handsOn again:Bool}{W W':World}{args:Array Value}{v:Value}{ds gs:List (DataW H)}{zb2 pa pv:List MemPlace}
  (hW:DataW.Whole enc P f.params.toList s.vars apart W args.toList ds gs zb2)
  (hres:∀(b:Nat)(sp:Nat->Bool)(hd:Bool),DataW.TrodAll enc P W' b sp hd f.resultTypes.toList (v.resultList f.resultTypes.size) (s.fn H (ds++gs)).results [])
  (hargs:∀sp:Nat->Bool,(∀p∈zb2,sp p.block=true)->DataW.TrodAll enc P W' 0 sp true f.params.toList args.toList (s.fn H (ds++gs)).args pa)
  (hvars:∀sp:Nat->Bool,(∀p∈zb2,sp p.block=true)->DataW.TrodVars enc P W' sp s.vars (s.fn H (ds++gs)).vars pv)
  (hps:zb2=pa++pv) (hb:Below W.heap.size W W')
  (hok:∀(j:Nat)(t:TypeId)(r:Value),f.resultTypes[j]?=some t->(v.resultList f.resultTypes.size)[j]?=some r->Value.okWide P W' .any 0 t r) :
  s.post enc P f apart fresh handsOn again W args v W':=by
 have hlt:∀p∈zb2,p.block<W.heap.size:=λp hp=>hW.lt p hp;have hold:∀p∈zb2,(λb=>decide (b<W.heap.size)) p.block=true:=λp hp=>by simpa using hlt p hp
 refine ⟨ds,gs,zb2,[],pa,pv,hW,hres _ _ _,hargs _ hold,hvars _ hold,World.keptBut_mono (λp hp=>⟨hp,?_⟩) (hb.frame (· ∈zb2)),λ_=>?_⟩;·rw[hps,yAm] at hp;exact Or.inr hp
 ·obtain ⟨_,_,_,_,_,hz,hn⟩:=hW;refine ⟨hok,_,_,([]++pa)++pv,⟨[]++pa,pv,trodAll_append (hargs _ (λ_ _=>rfl)) (hres _ _ _),hvars _ (λ_ _=>rfl),rfl,?_,?_⟩,?_⟩
  ·intro b off hp;have hin:MemPlace.cell b off∈zb2:=by rw[hps];simpa using hp
   rw[hb.frozen (hlt _ hin)];exact hz b off hin
  ·intro ha;have:=hn ha;rw[hps] at this;simpa using this
  ·intro p hp _;rw[hps];simpa using hp
def zod(P:Program)(M:U->TypeId->Prop):List U->List TypeId->Prop|[],[]=>True|u::us,t::ts=>M u t/\(∀n,u= .st n->∃fs,P.underlying t=some (.struct fs))/\P.readableRec t=true/\t<P.types.size/\zod P M us ts|_,_=>False
theorem zpA{M:U->TypeId->Prop}(hM:∀u t,M u t->zqw G P M u t){u:U}{t:TypeId}(hm:M u t)(hst:∀n,u= .st n->∃fs,P.underlying t=some (.struct fs)){w:World}{r:Reach}{b:Nat}{v:Value}(hv:Value.okWide P w r b t v)
  {D:Dat} {y:El S u} (h:DR un D w [u] (sg y) v.cells.toList):Rep un [] D w (inj u y) v:=by
 have hs:=hM u t hm;cases u with
 |mp k v=>exact hs.elim|rw u=>exact hs.elim|fm k v=>exact hs.elim|cs u=>exact hs.elim|int k =>
   obtain ⟨n,rfl⟩:=okWide_int hs hv;have h':DR un D w [.int k] (sg y) [.int k n]:=h;cases h' with
   |int h2=>rfl
 |bool =>
   obtain ⟨n,rfl⟩:=okWide_bool hs hv;have h':DR un D w [.bool] (sg y) [.bool n]:=h;cases h' with
   |bool h2=>rfl
 |str =>
   obtain ⟨n,rfl⟩:=okWide_string hs hv;have h':DR un D w [.str] (sg y) [.string n]:=h;generalize hx:Value.string n=x at h' ⊢;cases h' with
   |str h2=>rfl
 |sl u =>obtain ⟨e,he,_⟩:=hs;obtain ⟨a,l,c,rfl⟩:=okWide_slice he hv;exact h
 |st n =>obtain ⟨fs,hfs⟩:=hst n rfl;obtain ⟨cs,rfl,_⟩:=okWide_struct hfs hv;exact ⟨cs.toList,rfl,h⟩
theorem zmb{M:U->TypeId->Prop}(hM:∀u t,M u t->zqw G P M u t){w:World}{r:Reach}{base b:Nat}{spare:Nat->Bool}{held:Bool} :
  ∀{us:List U}{ts:List TypeId}{vs:List Value}{ds:List (DataW H)}{ps:List MemPlace},zod P M us ts->(∀(j:Nat) t v,ts[j]?=some t->vs[j]?=some v->Value.okWide P w r b t v) ->
   DataW.TrodAll enc P w base spare held ts vs ds ps->∃y:ElL S us,RepL un [] (zna w) w (zcp us y) vs/\Rd G us y ds
 |[],[],[],[],_,_,_,_=>⟨(),trivial,.nil⟩|u::us,t::ts,v::vs,d::ds,ps,hp,hv,⟨p,q,h1,h2,_⟩=>by obtain ⟨m1,m2,_,_,m3⟩:=hp;obtain ⟨fuel,h1⟩:=h1;obtain ⟨y,y1,y2⟩:=zo9 hM fuel u t _ _ h1 m1;obtain ⟨z,z1,z2⟩:=zmb hM (us:=us) m3 (λj t v ht hvj=>hv (j+1) t v (by simpa using ht) (by simpa using hvj)) h2;exact ⟨two y z,⟨zpA hM m1 m2 (hv 0 t v rfl rfl) y1,z1⟩,Rd.one_cons y2 z2⟩
theorem zho(hl:laidOutB P=true){M:U->TypeId->Prop}{W W':World}(hb:Below W.heap.size W W'){sp:Nat->Bool} :
  ∀{us:List U}{ts:List TypeId}{vs:List Value}{ds:List (DataW H)}{ps:List MemPlace},zod P M us ts->DataW.TrodAll enc P W 0 (λ_=>true) true ts vs ds ps->(∀p∈ps,p.block<W.heap.size/\sp p.block=true) ->
   DataW.TrodAll enc P W' 0 sp true ts vs ds ps
 |[],[],[],[],_,_,h,_=>h|u::us,t::ts,v::vs,d::ds,ps,hp,⟨p,q,h1,h2,e⟩,hs=>by
   obtain ⟨_,_,m1,m2,m3⟩:=hp;subst e
   exact ⟨p,q,WideElems.Trod_stays hl m1 m2 h1 (λx hx=>hb.same (hs x (yBz _ hx)).1) (λx hx=>(hs x (yBz _ hx)).2),
    zho hl hb m3 h2 (λx hx=>hs x (yBQ _ hx)),rfl⟩
theorem zjc{M:U->TypeId->Prop}(hM:∀u t,M u t->zqw G P M u t)(hlo:laidOutB P=true){f:FuncId}{fn:Func}{tb:TypeId}(hb:P.underlying tb=some .bool)
  (hrt:fn.resultTypes= #[tb]) {us:List U} (hps:zod P M us fn.params.toList) {s:ChangeSpec} (hv:s.vars=[])
  (hsp:∀ds:List (DataW H),ds.length=us.length->s.fn H ds={ results:=[.lit (.bool true)],args:=ds })
  (W:World) (base:Nat) (args:Array Value) (ds gs:List (DataW H)) (zb2:List MemPlace)
  (hval:∀(j:Nat) t v,fn.params[j]?=some t->args[j]?=some v->Value.okWide P W .any base t v)
  (hW:DataW.Whole enc P fn.params.toList s.vars false W args.toList ds gs zb2)
  (hlaw:∀y:ElL S us,Rd G us y ds->Sat P un f (zcp us y) [.bool] (true,())) (htab:TabE un W []) :
  Calls P f args W λe W'=>∃v,e= .returned v/\s.post enc P fn false true false false W args v W':=by
 have hW':=hW;obtain ⟨p,q,hA0,hV,rfl,hfz,hnd⟩:=hW;have hA:DataW.TrodAll enc P W 0 (λ_=>true) true fn.params.toList args.toList ds p:=hA0;obtain ⟨y,y1,y2⟩:=zmb hM hps (λj t v ht hvj=>hval j t v (by simpa using ht) (by simpa using hvj)) hA;have hlen:ds.length=us.length:=by
  clear hA0 hW' hV hlaw hval hfz hnd;have:∀{us:List U}{y:ElL S us}{ds:List (DataW H)},Rd G us y ds->ds.length=us.length:=by intro us y ds h;induction h<;>simp_all
  exact this y2
 rw[hv] at hV;have hgs:gs=[]/\q=[]:=by
  match gs,hV with
  |[],h=>exact ⟨rfl,h⟩
 obtain ⟨rfl,rfl⟩:=hgs;have hlt:∀x∈p++[],x.block<W.heap.size:=λx hx=>hW'.lt x hx;refine (hlaw y y2 (zna W) W args.toList htab (λk o h=>h) y1).mono λe W' ⟨v,h1,h2,h3⟩=>?_;have h3':v= .bool true:=h3;subst h1;subst h3';have hfn:s.fn H (ds++[])={ results:=[.lit (.bool true)],args:=ds }:=by rw[yAW];exact hsp ds hlen
 refine ⟨_,rfl,zlu (pa:=p) (pv:=[]) hW' (λb sp hd=>?_) (λsp hs=>?_) (λsp _=>?_) rfl h2 (ok_one hrt rfl (okWide_bool_mk hb _))⟩;·rw[hfn,hrt];exact trodAll_cons_mk (shut_bool hb _) trodAll_mk0
 ·rw[hfn];exact zho hlo h2 hps hA (λx hx=>⟨hlt x (by simpa using hx),hs x (by simpa using hx)⟩)
 ·rw[hfn,hv];rfl
end
end Pe
end
section
/- strings.Builder's methods do what the pure reading expects of them: over any program that bears their bodies. -/
set_option linter.unusedVariables false
namespace Pe
open Go Go.RowKit Go.Shelf Go.Proofs
section
variable{P:Program}{ρ:Ren}{w w':World}
theorem BldAt.is{T e:TypeId}{b:Nat}{v:Value}{xs:List Value}(h:BldAt T e b v xs w):∃p A n c,w.heap[b]?=some (.cells #[p,v] T (0,0))/\v= .slice A n c/\(p= .pointer none\/p= .pointer (some ⟨b,0,none⟩))/\Lib.BuilderAt T e 0 b p xs w:=by obtain ⟨⟨p,A,n,c,h1,h2,h3⟩,h4,h5⟩:=h;exact ⟨p,A,n,c,h1,h2,h3,yAF _,v,h1,h4,h5⟩
theorem zjD(L:Lays.n240 P ρ)(X:Builder.X72 P ρ){b:Nat}{v:Value}{xs:List Value}(h:BldAt (ρ.t 72) (ρ.t 5) b v xs w) :
  Calls P (ρ.f 240) #[.pointer (some ⟨b,0,none⟩)] w λe w'=>e= .returned (.tuple #[])/\w'.heap[b]?=some (.cells #[.pointer (some ⟨b,0,none⟩),v] (ρ.t 72) (0,0))/\w.grownBy w' (some b):=by
 obtain ⟨p,A,n,c,h1,h2,h3,h4⟩:=h.is;rcases h3 with rfl|rfl
 ·refine (Any.Builder_copyCheck_fresh L X b w h4.cell0 h4.shape h4.frozen0).mono ?_
  rintro e w' ⟨rfl,rfl⟩
  refine ⟨rfl,by simp[World.setCell,yA4,h1],⟨rfl,rfl,rfl,by simp[World.setCell],λk hk hne=>?_⟩⟩;simp only[World.setCell];rw[yA4,if_neg (λh=>hne (by rw[<-h]))]
 ·refine (Any.Builder_copyCheck_used L X b w h4.cell0).mono ?_
  rintro e w' ⟨rfl,rfl⟩
  exact ⟨rfl,h1,World.grownBy.refl _ _⟩
theorem ziV{e:TypeId}{v:Value}{n:Nat}{xs:List Value}{b:Nat}(h:w.ownsRow 0 e 1 v n xs)(hb:v.ownBlock≠some b)(hg:w.grownBy w' (some b)):w'.ownsRow 0 e 1 v n xs:=by
 refine ⟨h.1,?_⟩;rcases h.2 with h1|⟨g,cap,cur,rfl,h2,h3,h4⟩;·exact .inl h1
 ·have hgl:g<w.heap.size:=(yAq.1 h3).1;exact .inr ⟨g,cap,cur,rfl,h2,(hg.block g hgl λh=>hb (by simp[Value.ownBlock,h])).trans h3,h4⟩
theorem zhf(w:World){t u ty e:TypeId}{i:TypeInfo}(ht:P.underlying t=some (.slice e))(hu:P.underlying u=some .string)(hi:P.info? e=some i)(hz:i.zero=some (.int .u8 0))(hsize:i.size=1)(hby:i.bytes=1)
  {v:Value} {n:Nat} {xs:List Value} (hown:w.ownsRow 0 e 1 v n xs) (s:ByteArray) (hb:n+s.size<=4294967296) :
  ∃v' w',(Builtin.append_ #[t,u] ty #[v,.string s]).run P w= .ok v' w'/\w'.ownsRow 0 e 1 v' (n+s.size) (xs++Lib.strCells s)/\w.grownBy w' v.ownBlock/\(∀k,v'.ownBlock=some k->v.ownBlock=some k\/w.heap.size<=k):=by
 have h63:n+s.size<=maxLen:=by unfold maxLen;omega
 have hxl:xs.length=n:=by simpa using hown.1
 have hlen:(xs++Lib.strCells s).length=(n+s.size)*1:=by rw[yAD,hxl,Lib.strCells_length,yA7]
 have fresh:∀(old:Nat),(w.drew.alloc (.cells (xs.toArray++(Lib.strCells s).toArray++Builtin.zeroCells (Value.int .u8 0).cells (grownCap w (n+s.size) old e - (n+s.size))) e)).ownsRow 0 e 1
    (.slice (some ⟨w.heap.size,0,none⟩) (n+s.size) (grownCap w (n+s.size) old e)) (n+s.size) (xs++Lib.strCells s):=λold=>by
  have hge:=grownCap_ge w (n+s.size) old e;refine ⟨hlen,.inr ⟨w.heap.size,_,_,rfl,yAF _,heap_alloc_new w.drew _,hge,grownCap_le_maxLen w (n+s.size) old e h63,?_,?_⟩⟩;·have hz1:(Value.int IntKind.u8 0).cells.size=1:=rfl;simp only[yB6,yBM,size_zeroCells,hz1,hxl,Lib.strCells_length];omega
  ·simp only[yBZ,yAX];rw[<-yAX,<-hlen];exact yA5
 have kept:∀(cs:Array Value)(row:Option Nat),w.grownBy (w.drew.alloc (.cells cs e)) row:=λcs row=>⟨rfl,rfl,rfl,by simp,λk hk _=>Lib.alloc_old w.drew _ k hk⟩;have new:∀(m c:Nat) k,(Value.slice (some ⟨w.heap.size,0,none⟩) m c).ownBlock=some k->v.ownBlock=some k\/w.heap.size<=k:=λm c k hk=>by simp[Value.ownBlock] at hk;omega
 rcases hown.2 with ⟨rfl,rfl⟩|⟨g,cap,cur,rfl,hbg,hg,hnc,hcm,hcs,htake⟩
 ·have hx:xs=[]:=yA1 hxl;subst hx;by_cases hm:s.size=0;·have hn:Lib.strCells s=[]:=yA1 (by rw[Lib.strCells_length];exact hm);have hf:=Lib.run_firstCells_string (P:=P) w 1 s;rw[hm] at hf;exact ⟨.slice none 0 0,w,by simp[Builtin.append_,run_underlying ht,run_underlying hu,Go.sizeOf,typeInfo,hi,hsize,Builtin.lenOf,hm,hf],by rw[hm,hn];exact World.ownsRow_nil w 0 e 1,World.grownBy.refl _ _,λk hk=>.inl hk⟩
  ·have hr:=run_append_nil_string (P:=P) w t u ty e i (.int .u8 0) ht hu hi hz s (by omega) (by unfold maxLen at h63;omega) (by rw[hby];omega);have hgr:=fresh 0;simp only[yAH,yAZ,Array.empty_append] at hgr ⊢;have e1:(s.data.map λb=>Value.int .u8 b.toNat)=(Lib.strCells s).toArray:=by
    apply Array.ext';simp[Lib.strCells]
   rw[e1] at hr;exact ⟨_,_,hr,hgr,kept _ _,new _ _⟩
 ·by_cases hroom:n+s.size<=cap
  ·have hr:=Lib.run_append_room_string (P:=P) w t u ty e i ht hu hi hsize g n cap cur hg s hroom (by omega);refine ⟨_,_,hr,⟨hlen,.inr ⟨g,cap,_,rfl,hbg,setRow_heap w g cur _ e _ hg,hroom,hcm,?_,?_⟩⟩,⟨rfl,rfl,rfl,by simp,λk _ hk=>setRow_other w g k _ (λe=>hk (by simp[Value.ownBlock,e]))⟩,λk hk=>.inl hk⟩;·simp only[yBM,yAD,yAS,yA3,yBv,Lib.strCells_length];omega
   ·have ht':cur.toList.take n=xs:=(by simpa using htake);rw[ht',<-hlen];exact yA5
  ·have hr:=Lib.run_append_grow_string (P:=P) w t u ty e i (.int .u8 0) ht hu hi hz ⟨g,0,none⟩ n cap xs (by rw[hsize];simpa using hxl) (hown.cells (g:=g) rfl) s (by omega) (by unfold maxLen at h63;omega) (by rw[hby];exact growslice_fits (by omega) (by omega));exact ⟨_,_,hr,fresh cap,kept _ _,new _ _⟩
theorem zit{ops:Array Oper}{rest:List Oper}{o:Oper}{a:Act}{Q:Exit->Act->World->Prop}(hgd:o.guard=none)(sl x:Operand)(t u:TypeId)(ho:o.op= .call { callee:= .builtin .append,args:= #[sl,x],argTypes:= #[t,u] })
  (e:TypeId) (i:TypeInfo) (ht:P.underlying t=some (.slice e)) (hu:P.underlying u=some .string) (hi:P.info? e=some i) (hz:i.zero=some (.int .u8 0)) (hsize:i.size=1) (hby:i.bytes=1)
  {v:Value} {n:Nat} {xs:List Value} (hs:a.eval sl=v) (hown:w.ownsRow 0 e 1 v n xs) (s:ByteArray) (hx:a.eval x= .string s) (hb:n+s.size<=4294967296)
  (h:∀v' w',w'.ownsRow 0 e 1 v' (n+s.size) (xs++Lib.strCells s)->w.grownBy w' v.ownBlock->(∀k,v'.ownBlock=some k->v.ownBlock=some k\/w.heap.size<=k)->wpList P ops Q rest (a.put o.dst v') w'):wpList P ops Q (o::rest) a w:=by
 refine wpList_plain hgd λK hK=>?_;obtain ⟨v',w',hr,h2,h3,h4⟩:=zhf (P:=P) w (ty:=o.type) ht hu hi hz hsize hby hown s hb;unfold Oper.wp execOp;simp only[ho,resolve,invoke,builtin,Sem.run_bind,Sem.run_pure,Result.andThen_ok,List.map_toArray,yAk,yBF,hs,hx,hr];exact hK _ _ (h v' w' h2 h3 h4)
theorem zm9{ops:Array Oper}{rest:List Oper}{o:Oper}{a:Act}{Q:Exit->Act->World->Prop}(hgd:o.guard=none)(sl x:Operand)(t:TypeId)(ho:o.op= .call { callee:= .builtin .append,args:= #[sl,x],argTypes:= #[t,t] })
  (e:TypeId) (i:TypeInfo) (z:Value) (ht:P.underlying t=some (.slice e)) (hi:P.info? e=some i) (hz:i.zero=some z) (hsize:i.size=1) (hby:i.bytes=1) (hzs:z.cells.size=1)
  {v:Value} {n:Nat} {xs:List Value} (hs:a.eval sl=v) (hown:w.ownsRow 0 e 1 v n xs) (ad:Addr) (m c:Nat) (news:List Value) (hx:a.eval x= .slice (some ad) m c) (hl:news.length=m*1) (hnews:∀j u,news[j]?=some u->w.cell? (ad.add j)=some u) (h1:∀u∈news,u.oneCell'=true) (hb:n+m<=4294967296)
  (h:∀v' w',w'.ownsRow 0 e 1 v' (n+m) (xs++news)->w.grownBy w' v.ownBlock->(∀k,v'.ownBlock=some k->v.ownBlock=some k\/w.heap.size<=k)->wpList P ops Q rest (a.put o.dst v') w'):wpList P ops Q (o::rest) a w:=by
 refine wpList_plain hgd λK hK=>?_;obtain ⟨v',w',hr,h2,h3,_,h4⟩:=run_append_own_at (P:=P) w 0 t o.type e i z 1 1 ht hi hz hsize hby hzs (by decide) v n xs hown ad m c news hl hnews h1 (by unfold maxLen;omega) (by omega) (yAF _);unfold Oper.wp execOp;simp only[ho,resolve,invoke,builtin,Sem.run_bind,Sem.run_pure,Result.andThen_ok,List.map_toArray,yAk,yBF,hs,hx,hr];refine hK _ _ (h v' w' h2 h3 λk hk=>?_);rcases h4 with h4|h4;·exact .inl (h4▸hk)
 ·rw[h4] at hk;cases hk;exact .inr (yAl _)
theorem zha{b:Nat}{v v':Value}{ys:List Value}{w1 w2:World}(h1:w1.heap[b]?=some (.cells #[.pointer (some ⟨b,0,none⟩),v] (ρ.t 72) (0,0)))(hg1:w.grownBy w1 (some b))(hn:ρ.t 72≠ρ.t 5)(hne:v.ownBlock≠some b)
  (hown:w2.ownsRow 0 (ρ.t 5) 1 v' ys.length ys) (hg2:∀k,k<w1.heap.size->v.ownBlock≠some k->w2.heap[k]?=w1.heap[k]?) (hos:w2.os=w1.os/\w2.tape=w1.tape/\w2.output=w1.output/\w1.heap.size<=w2.heap.size) (hblk:∀k,v'.ownBlock=some k->v.ownBlock=some k\/w1.heap.size<=k) {A:Option Addr} {n c:Nat} (hv':v'= .slice A n c) :
  zle (ρ.t 72) (ρ.t 5) b v ys w (w2.setCell ⟨b,1,none⟩ v'):=by
 have hbl:b<w1.heap.size:=(yAq.1 h1).1;have hb2:w2.heap[b]?=some (.cells #[.pointer (some ⟨b,0,none⟩),v] (ρ.t 72) (0,0)):=(hg2 b hbl hne).trans h1;have hput:=Lib.BuilderAt.put (T:=ρ.t 72) (e:=ρ.t 5) (B:=0) (yAF _) hb2 hown hn;obtain ⟨_,v2,k1,k2,k3⟩:=hput;have k0:(w2.setCell ⟨b,1,none⟩ v').heap[b]?=some (.cells #[.pointer (some ⟨b,0,none⟩),v'] (ρ.t 72) (0,0)):=by simp[World.setCell,yA4,hb2]
 rw[k0] at k1;simp at k1;subst k1;refine ⟨v',⟨⟨_,A,n,c,k0,hv',.inr rfl⟩,k2,k3⟩,λk hk=>(hblk k hk).imp id λh=>yAG hg1.size h,⟨?_,?_,?_,?_,λk hk hkb hkv=>?_⟩⟩;·exact hos.1.trans hg1.os
 ·exact hos.2.1.trans hg1.tape
 ·exact hos.2.2.1.trans hg1.output
 ·simp only[World.setCell,Array.size_modify];exact yAG hg1.size hos.2.2.2
 ·have e1:(w2.setCell ⟨b,1,none⟩ v').heap[k]?=w2.heap[k]? :=by
   simp only[World.setCell];rw[yA4,if_neg (λh=>hkb h.symm)]
  rw[e1,hg2 k (yAn hk hg1.size) hkv,hg1.block k hk λh=>hkb (by simpa using h)]
set_option maxHeartbeats 2000000 in
set_option maxRecDepth 100000 in
theorem bld_WriteByte(L:Lays.n167 P ρ)(X:Builder.Extra P ρ):BldOk P (ρ.f 167) 0 (ρ.t 72) (ρ.t 5):=by
 intro b v xs w h c hlen;obtain ⟨i0,hi,hz0,hz1,hz2⟩:=info_parts X.infoByte;have mixed:=L.mixed;have t72:=L.t72;have a72:=L.a72;have z72:=L.z72;have v72:=L.v72;have u72:=run_underlying L.t72;have t70:=L.t70;have a70:=L.a70;have z70:=L.z70;have v70:=L.v70;have u70:=run_underlying L.t70;have t5:=L.t5;have a5:=L.a5;have z5:=L.z5;have v5:=L.v5;have u5:=run_underlying L.t5;have t37:=L.t37;have a37:=L.a37;have z37:=L.z37;have v37:=L.v37;have u37:=run_underlying L.t37;have t9:=L.t9;have a9:=L.a9;have z9:=L.z9;have v9:=L.v9;have u9:=run_underlying L.t9;have t4:=L.t4;have a4:=L.a4;have z4:=L.z4;have v4:=L.v4;have u4:=run_underlying L.t4;have t164:=L.t164;have a164:=L.a164;have z164:=L.z164;have v164:=L.v164;have u164:=run_underlying L.t164;have e240:∀args w,(callFunc (ρ.f 240) args).run P w= .ok (.enter (ρ.f 240) args) w:=enters_of L.f240 (by kernel_rfl) rfl;have hck:=zjD (P:=P) (ρ:=ρ) { L with } X.toX72 h;obtain ⟨_,hown0,hne⟩:=h
 go_enter L.f167,Body.n167_ntmps ρ
 go_wp2_with (go_at_fn (ρ.f 240);refine hck.mono ?_)
 rintro e w1 ⟨rfl,hbk,hg1⟩
 have hown:=ziV hown0 hne hg1;have c0:w1.cell? ⟨b,0,none⟩=some (.pointer (some ⟨b,0,none⟩)):=by rw[Lib.cell_of_heap hbk];rfl
 have c1:w1.cell? ⟨b,1,none⟩=some v:=by rw[Lib.cell_of_heap hbk];rfl
 go_wp2_with (at_builtin;refine zm9 rfl _ _ (ρ.t 37) rfl (ρ.t 5) i0 (.int .u8 0) L.t37 hi hz0 hz1 hz2 rfl rfl (hown.alloc _) ⟨w1.heap.size,0,none⟩ 1 1 [.int .u8 c] rfl rfl ?c1 ?c2 ?c4 ?_)
 case c1 =>
  intro j u hj
  match j,hj with
  |0,hj=>simp at hj;subst hj;simp[Addr.add]
 case c2=>intro u hu;simp at hu;subst hu;rfl
 case c4=>unfold lim at hlen;omega
 intro v' w2 hown' hgrow hblk;have hlt:b<w1.heap.size:=(yAq.1 hbk).1;have hb2:w2.heap[b]?=some (.cells #[.pointer (some ⟨b,0,none⟩),v] (ρ.t 72) (0,0)):=by rw[hgrow.block b (by simp;omega) (λe=>hne e.symm),Lib.alloc_old w1 _ b hlt];exact hbk
 have d0:w2.cell? ⟨b,0,none⟩=some (.pointer (some ⟨b,0,none⟩)):=by rw[Lib.cell_of_heap hb2];rfl
 have d1:w2.cell? ⟨b,1,none⟩=some v:=by rw[Lib.cell_of_heap hb2];rfl
 have f1:w2.frozen? ⟨b,1,none⟩=false:=Lib.frozen_of_heap hb2 1;obtain ⟨g,cap,rfl⟩:∃g cap,v'= .slice (some ⟨g,0,none⟩) (xs.length+1) cap:=by
  rcases hown'.2 with ⟨_,h0⟩|⟨g,cap,cur,hv,_⟩;·omega
  ·exact ⟨g,cap,hv⟩
 go_wp2
 go_ret
 refine ⟨rfl,zha hbk hg1 X.neB5 hne (ys:=xs++[.int .u8 c]) (by simpa using hown') (λk hk hkv=>?_) ⟨hgrow.os,hgrow.tape,hgrow.output,?_⟩ (λk hk=>?_) rfl⟩;·rw[hgrow.block k (by simp;omega) (λe=>hkv e.symm),Lib.alloc_old w1 _ k hk]
 ·have:=hgrow.size;simp at this;omega
 ·rcases hblk k hk with h|h;·exact .inl h
  ·exact .inr (yAG (Nat.le_succ w1.heap.size) h)
set_option maxHeartbeats 2000000 in
set_option maxRecDepth 100000 in
theorem bld_WriteString(L:Lays.n166 P ρ)(X:Builder.Extra P ρ):BldOk P (ρ.f 166) 1 (ρ.t 72) (ρ.t 5):=by
 intro b v xs w h s hlen;obtain ⟨i0,hi,hz0,hz1,hz2⟩:=info_parts X.infoByte;have mixed:=L.mixed;have t72:=L.t72;have a72:=L.a72;have z72:=L.z72;have v72:=L.v72;have u72:=run_underlying L.t72;have t70:=L.t70;have a70:=L.a70;have z70:=L.z70;have v70:=L.v70;have u70:=run_underlying L.t70;have t37:=L.t37;have a37:=L.a37;have z37:=L.z37;have v37:=L.v37;have u37:=run_underlying L.t37;have t3:=L.t3;have a3:=L.a3;have z3:=L.z3;have v3:=L.v3;have u3:=run_underlying L.t3;have t9:=L.t9;have a9:=L.a9;have z9:=L.z9;have v9:=L.v9;have u9:=run_underlying L.t9;have t4:=L.t4;have a4:=L.a4;have z4:=L.z4;have v4:=L.v4;have u4:=run_underlying L.t4;have t164:=L.t164;have a164:=L.a164;have z164:=L.z164;have v164:=L.v164;have u164:=run_underlying L.t164;have t5:=X.t5;have a5:=X.a5;have z5:=X.z5;have v5:=X.v5;have u5:=run_underlying X.t5;have e240:∀args w,(callFunc (ρ.f 240) args).run P w= .ok (.enter (ρ.f 240) args) w:=enters_of L.f240 (by kernel_rfl) rfl;have hsz:(ByteArray.mk s.toArray).size=s.length:=by simp[ByteArray.size]
 have hck:=zjD (P:=P) (ρ:=ρ) { L with } X.toX72 h;obtain ⟨_,hown0,hne⟩:=h
 go_enter L.f166,Body.n166_ntmps ρ
 go_wp2_with (go_at_fn (ρ.f 240);refine hck.mono ?_)
 rintro e w1 ⟨rfl,hbk,hg1⟩
 have hown:=ziV hown0 hne hg1;have c0:w1.cell? ⟨b,0,none⟩=some (.pointer (some ⟨b,0,none⟩)):=by rw[Lib.cell_of_heap hbk];rfl
 have c1:w1.cell? ⟨b,1,none⟩=some v:=by rw[Lib.cell_of_heap hbk];rfl
 go_wp2_with (at_builtin;refine zit rfl _ _ (ρ.t 37) (ρ.t 9) rfl (ρ.t 5) i0 L.t37 L.t9 hi hz0 hz1 hz2 rfl hown ⟨s.toArray⟩ rfl ?c4 ?_)
 case c4=>rw[hsz];unfold lim at hlen;exact hlen
 intro v' w2 hown' hgrow hblk;have hlt:b<w1.heap.size:=(yAq.1 hbk).1;have hb2:w2.heap[b]?=some (.cells #[.pointer (some ⟨b,0,none⟩),v] (ρ.t 72) (0,0)):=by rw[hgrow.block b hlt (λe=>hne e.symm)];exact hbk
 have d0:w2.cell? ⟨b,0,none⟩=some (.pointer (some ⟨b,0,none⟩)):=by rw[Lib.cell_of_heap hb2];rfl
 have d1:w2.cell? ⟨b,1,none⟩=some v:=by rw[Lib.cell_of_heap hb2];rfl
 have f1:w2.frozen? ⟨b,1,none⟩=false:=Lib.frozen_of_heap hb2 1;obtain ⟨ao,n',cap,rfl⟩:∃ao n' cap,v'= .slice ao n' cap:=by
  rcases hown'.2 with ⟨hv,_⟩|⟨g,cap,cur,hv,_⟩;·exact ⟨_,_,_,hv⟩
  ·exact ⟨_,_,_,hv⟩
 have hcells:(zaj s).map (Value.int .u8)=Lib.strCells ⟨s.toArray⟩:=by simp[zaj,Lib.strCells]
 go_wp2
 go_ret2
 refine ⟨by simp only;rfl,?_⟩;rw[hcells];refine zha hbk hg1 X.neB5 hne (ys:=xs++Lib.strCells ⟨s.toArray⟩) (by rw[yAD,Lib.strCells_length];exact hown') (λk hk hkv=>?_) ⟨hgrow.os,hgrow.tape,hgrow.output,hgrow.size⟩ (λk hk=>hblk k hk) rfl;rw[hgrow.block k hk (λe=>hkv e.symm)]
theorem zkh(s:List UInt8):(zaj s).map (Value.int .u8)=Lib.byteCells s:=by simp[zaj,Lib.byteCells]
set_option maxHeartbeats 1000000 in
set_option maxRecDepth 100000 in
theorem bld_String(L:Lays.n169 P ρ)(X:Builder.Extra P ρ):BldOk P (ρ.f 169) 2 (ρ.t 72) (ρ.t 5):=by
 intro b v xs w h l hxs;rw[zkh] at hxs;subst hxs;obtain ⟨p,A,n,c,hbk,hv,_,h4⟩:=h.is;obtain ⟨_,hown,hne⟩:=h;have low:∀w',Below w.heap.size w w'->w.grownBy w' v.ownBlock:=λw' hb=>⟨hb.os,hb.tape,hb.output,hb.size,λk hk _=>hb.block k hk⟩;cases l with
 |nil =>
   rcases hown.2 with ⟨rfl,_⟩|⟨g,cap,cur,rfl,hbg,hg,_,_,_,_⟩;·exact (Any.Builder_String_nil L X w.heap.size b p w hbk).mono λe w' ⟨h1,h2⟩=>⟨h1,low w' h2⟩
   ·by_cases hc0:cap=0;·subst hc0;exact (Any.Builder_String_noroom L X w.heap.size b g p cur w (yAl _) hbk hg).mono λe w' ⟨h1,h2⟩=>⟨h1,low w' h2⟩
    ·exact (Any.Builder_String_room L X w.heap.size b g cap p w hc0 hbk).mono λe w' ⟨h1,h2⟩=>⟨h1,low w' h2⟩
 |cons x0 r0 =>
   have h0:x0::r0≠[]:=(by simp);generalize hl:x0::r0=l at *
   have hl0:l.length≠0:=(by simpa using h0);rw[Lib.byteCells_length] at hown;obtain ⟨g,cap,cur,rfl,hbg,hg,hnc,hcm,hcs,htake⟩:∃g cap cur,v= .slice (some ⟨g,0,none⟩) l.length cap/\0<=g/\w.heap[g]?=some (.cells cur (ρ.t 5) (0,0))/\l.length<=cap/\cap<=maxLen/\cur.size=cap*1/\cur.toList.take (l.length*1)=Lib.byteCells l:=by
    rcases hown.2 with ⟨_,hz⟩|⟨g,cap,cur,hv,r⟩;·exact absurd hz hl0
    ·exact ⟨g,cap,cur,hv,r⟩
   have c1:w.drew.cell? ⟨b,1,none⟩=some (.slice (some ⟨g,0,none⟩) l.length cap):=(by have:w.drew.heap[b]?=some (.cells #[p,.slice (some ⟨g,0,none⟩) l.length cap] (ρ.t 72) (0,0)):=hbk;rw[Lib.cell_of_heap this];rfl)
   have hSD:(Builtin.unsafeSliceData_ #[(ρ.t 37)] (ρ.t 127) #[.slice (some ⟨g,0,none⟩) l.length cap]).run P w.drew= .ok (.pointer (some ⟨g,0,none⟩)) w.drew :=
    Lib.run_unsafeSliceData_row _ _ _ _ _ _ (by omega)
   have hUS:(Builtin.unsafeString_ #[(ρ.t 127),(ρ.t 3)] (ρ.t 9) #[.pointer (some ⟨g,0,none⟩),.int .i64 l.length]).run P w.drew= .ok (.string ⟨l.toArray⟩) (w.drew.freeze ⟨g,0,none⟩ l.length):=(by refine Lib.run_unsafeString_row w.drew (ρ.t 127) (ρ.t 3) (ρ.t 9) (ρ.t 5) L.t127 X.cellsByte g cur.size (by have hg':w.drew.heap[g]?=some (.cells cur (ρ.t 5) (0,0)):=hg;simp[World.shape?,hg']) l h0 (by omega) (by unfold maxLen at hcm;omega) ?_;intro j x hx;have:=hown.cells (g:=g) rfl j (.int .u8 x.toNat) (by simp[Lib.byteCells,hx]);exact this);have hend:w.grownBy (w.drew.freeze ⟨g,0,none⟩ l.length) (Value.ownBlock (.slice (some ⟨g,0,none⟩) l.length cap)):=by
    refine ⟨?_,?_,?_,?_,λk hk hne=>?_⟩;·unfold World.freeze;split<;>rfl
    ·unfold World.freeze;split<;>rfl
    ·unfold World.freeze;split<;>rfl
    ·unfold World.freeze;split;·exact yAl _
     ·show w.heap.size<=(w.heap.modify g _).size;rw[Array.size_modify];exact yAl _
    ·unfold World.freeze;split;·rfl
     ·show (w.heap.modify g _)[k]?=_;rw[yA4,if_neg (λh=>hne (by rw[<-h];rfl))]
   clear hl;have mixed:=L.mixed;have t72:=L.t72;have a72:=L.a72;have z72:=L.z72;have v72:=L.v72;have u72:=run_underlying L.t72;have t70:=L.t70;have a70:=L.a70;have z70:=L.z70;have v70:=L.v70;have u70:=run_underlying L.t70;have t37:=L.t37;have a37:=L.a37;have z37:=L.z37;have v37:=L.v37;have u37:=run_underlying L.t37;have t127:=L.t127;have a127:=L.a127;have z127:=L.z127;have v127:=L.v127;have u127:=run_underlying L.t127;have t3:=L.t3;have a3:=L.a3;have z3:=L.z3;have v3:=L.v3;have u3:=run_underlying L.t3;have t9:=L.t9;have a9:=L.a9;have z9:=L.z9;have v9:=L.v9;have u9:=run_underlying L.t9;have t5:=X.t5;have a5:=X.a5;have z5:=X.z5;have v5:=X.v5;have u5:=run_underlying X.t5
   go_enter L.f169,Body.n169_ntmps ρ
   go_wp2
   go_region_o
   all_goals (go_wp2;go_ret;exact ⟨rfl,hend⟩)
end
end Pe
end
section
/- Loops of the models, in forms that one meets often; the small laws of the models' words. Over no program. -/
set_option maxRecDepth 100000
namespace Pe
open Go
theorem zaa{α β:Type}(a:α)(f:α->Option β):ob (some a) f=f a:=rfl
theorem zpG{α β R:Type}(a:α)(f:α->Option R)(g:β->Option R):oc (some (.inl a)) f g=f a:=rfl
theorem zbC{σ R:Type}(t:σ)(f:σ->Option R):zaS (some (.inl t)) f=f t:=rfl
theorem zaN{α:Type}(x y:Option α):br true x y=x:=rfl
theorem zal{α:Type}(x y:Option α):br false x y=y:=rfl
theorem zpj{α:Type}(b:Bool)(x y:Option α):br b x y=if b=true then x else y:=by cases b<;>rfl
theorem zaQ{α:Type}(b:Bool)(x y:α):br b (some x) (some y)=some (bif b then x else y):=by cases b<;>rfl
theorem zjL{n:Int}(h1: -9223372036854775808<=n)(h2:n<=9223372036854775807):Go.IntKind.i64.wrap n=n:=by unfold Go.IntKind.wrap;simp[Go.IntKind.bits,Go.IntKind.signed];omega
theorem zpn{α:Type}(l:List α)(k:Nat):at? l (k:Int)=l[k]? :=rfl
theorem za9{α:Type}{l:List α}{k:Nat}(h:k<l.length):at? l (k:Int)=some l[k]:=by rw[zpn];simp[h]
theorem zmY{α:Type}{l r:List α}(h:l.length+r.length<=lim):zbw l r=some (l++r):=by
 unfold zbw;have:Nat.ble (l.length+r.length) lim=true:=by rw[yAP];exact h
 rw[this];rfl
theorem zaY{α:Type}{l:List α}{k:Nat}:((k:Int)<len l)=(k<l.length):=by simp[len]
theorem zey{σ A R:Type}{f:σ->Option (σ⊕R)}(mk:Nat->A->σ)(n:Nat)(g:Nat->A->R)(I:Nat->A->Prop)
  (h:∀k a,k<=n->I k a->(∃a',k<n/\f (mk k a)=some (.inl (mk (k+1) a'))/\I (k+1) a'/\g (k+1) a'=g k a)\/f (mk k a)=some (.inr (g k a))) :
  ∀k a,k<=n->I k a->zav f (mk k a)=some (g k a):=by
 have key:∀d k a,n - k<=d->k<=n->I k a->zav f (mk k a)=some (g k a):=by
  intro d;induction d with
  |zero =>
    intro k a hd hk hI;rcases h k a hk hI with ⟨a',h1,_⟩|h1;·omega
    ·exact zco h1
  |succ d ih =>
    intro k a hd hk hI;rcases h k a hk hI with ⟨a',h1,h2,h3,h4⟩|h1;·rw[zb8 h2,ih (k+1) a' (by omega) (by omega) h3,h4]
    ·exact zco h1
 exact λk a hk hI=>key _ k a (yAl _) hk hI
theorem zmv{R:Type}{f:Int×Unit->Option ((Int×Unit)⊕R)}(n:Nat)(g:Nat->R)
  (h:∀k,k<=n->(k<n/\f ((k:Int),())=some (.inl (((k+1:Nat):Int),()))/\g (k+1)=g k)\/f ((k:Int),())=some (.inr (g k))) :
  ∀k,k<=n->zav f ((k:Int),())=some (g k):=λk hk =>
 zey (A:=Unit) (λk _=>((k:Int),())) n (λk _=>g k) (λ_ _=>True) (λk _ hk _=>by
  rcases h k hk with ⟨h1,h2,h3⟩|h1;·exact .inl ⟨(),h1,h2,trivial,h3⟩
  ·exact .inr h1) k () hk trivial
theorem zaF{k n:Nat}(h:k<n)(hn:n<=9223372036854775807):Go.IntKind.i64.wrap ((k:Int)+1)=((k+1:Nat):Int):=by rw[zjL (by omega) (by omega)];rfl
def ff(F:Nat->Int):Nat->Int|0=>0|n+1=>if ff F n≠0 then ff F n else F n
theorem zkZ{F:Nat->Int}{k:Nat}(h:ff F k≠0):∀d,ff F (k+d)=ff F k|0=>rfl|d+1=>by show (if ff F (k+d)≠0 then ff F (k+d) else F (k+d))=_;rw[zkZ h d,if_pos h]
theorem znY{F:Nat->Int}{n k:Nat}(hk:k<n)(h:ff F k=0)(h1:F k≠0):ff F n=F k:=by
 have h2:ff F (k+1)=F k:=by simp[ff,h]
 have:=zkZ (F:=F) (k:=k+1) (by rw[h2];exact h1) (n - (k+1));rw[Nat.add_sub_cancel' hk] at this;rw[this,h2]
theorem zo2{σ A R:Type}{f:σ->Option (σ⊕R)}(mk:Nat->A->σ)(n:Nat)(F:Nat->Int)(out:Int->R)(fin:R)(I:Nat->A->Prop)
  (h:∀k a,k<n->I k a->ff F k=0->(F k≠0/\f (mk k a)=some (.inr (out (F k))))\/(F k=0/\∃a',I (k+1) a'/\f (mk k a)=some (.inl (mk (k+1) a'))))
  (he:∀a,I n a->f (mk n a)=some (.inr fin)) (a0:A) (h0:I 0 a0):zav f (mk 0 a0)=some (if ff F n≠0 then out (ff F n) else fin):=by
 refine zey mk n (λ_ _=>if ff F n≠0 then out (ff F n) else fin) (λk a=>I k a/\ff F k=0) (λk a hk hI=>?_) 0 a0 (yAF _) ⟨h0,rfl⟩;by_cases hlt:k<n
 ·rcases h k a hlt hI.1 hI.2 with ⟨h1,h2⟩|⟨h1,a',h2,h3⟩;·right;rw[znY hlt hI.2 h1,if_pos h1,h2]
  ·left;exact ⟨a',hlt,h3,⟨h2,by simp[ff,hI.2,h1]⟩,rfl⟩
 ·right;obtain rfl:k=n:=by omega
  rw[he a hI.1,if_neg (by simp[hI.2])]
def ffS{σ R:Type}(out:Int->R)(nxt:σ)(c:Int):Option (σ⊕R):=if c≠0 then some (.inr (out c)) else some (.inl nxt)
theorem zkJ{R:Type}{f:Int×Unit->Option ((Int×Unit)⊕R)}(n:Nat)(F:Nat->Int)(out:Int->R)(fin:R)
  (h:∀k,k<n->ff F k=0->f ((k:Int),())=ffS out (((k+1:Nat):Int),()) (F k))
  (he:f ((n:Int),())=some (.inr fin)):zav f ((0:Int),())=some (if ff F n≠0 then out (ff F n) else fin):=by
 refine zo2 (A:=Unit) (λk _=>((k:Int),())) n F out fin (λ_ _=>True) (λk _ hk _ hz=>?_) (λ_ _=>he) () trivial;rw[h k hk hz];unfold ffS;by_cases h0:F k≠0;·left;exact ⟨h0,by rw[if_pos h0]⟩
 ·right;exact ⟨by simpa using h0,(),trivial,by rw[if_neg h0]⟩
theorem znZ{σ R:Type}{out:Int->R}{nxt:σ}:ffS out nxt 0=some (.inl nxt):=rfl
theorem zm4{σ R:Type}{out:Int->R}{nxt:σ}{b:Bool}{F':Int}{X:Option (σ⊕R)}(c:Int)(hc:c≠0)(hX:b=false->X=ffS out nxt F'):br b (some (.inr (out c))) X=ffS out nxt (bif b then c else F'):=by
 cases b with
 |true=>simp[zaN,ffS,hc]|false=>simp only[zal,cond_false];exact hX rfl
theorem zmx{α R:Type}{f:Int×Unit->Option ((Int×Unit)⊕R)}(l:List α)(p:α->Bool)(out:Nat->R)(fin:R)
  (h:∀k (hk:k<l.length),f ((k:Int),())=if p l[k]=true then some (.inr (out k)) else some (.inl (((k+1:Nat):Int),())))
  (he:f ((l.length:Int),())=some (.inr fin)):zav f ((0:Int),())=some (match l.findIdx? p with|some k=>out k|none=>fin):=by
 refine zey (A:=Unit) (λk _=>((k:Int),())) l.length (λ_ _=>match l.findIdx? p with|some k=>out k|none=>fin) (λk _=>∀j (hj:j<l.length),j<k->p l[j]=false) (λk _ hk hI=>?_) 0 () (yAF _) (λj _ hj=>by omega);by_cases hlt:k<l.length
 ·rw[h k hlt];by_cases hp:p l[k]=true
  ·right;have:l.findIdx? p=some k:=by
    rw[List.findIdx?_eq_some_iff_getElem];exact ⟨hlt,hp,λj hj=>by rw[hI j (by omega) hj];simp⟩
   rw[if_pos hp,this]
  ·left;refine ⟨(),hlt,by rw[if_neg hp],λj hj hjk=>?_,rfl⟩;by_cases hjk':j=k;·subst hjk';simpa using hp
   ·exact hI j hj (by omega)
 ·right;obtain rfl:k=l.length:=by omega
  have:l.findIdx? p=none:=by rw[List.findIdx?_eq_none_iff];intro x hx;obtain ⟨j,hj,rfl⟩:=List.getElem_of_mem hx;exact hI j hj hj
  rw[he,this]
theorem zmw{α A R:Type}{σ:Type}{f:σ->Option (σ⊕R)}(mk:Nat->A->σ)(l:List α)(g:A->α->A)(out:A->R)(I:Nat->A->Prop)
  (h:∀k (hk:k<l.length) (a:A),I k a->f (mk k a)=some (.inl (mk (k+1) (g a l[k])))/\I (k+1) (g a l[k]))
  (he:∀a,I l.length a->f (mk l.length a)=some (.inr (out a))) (a0:A) (h0:I 0 a0):zav f (mk 0 a0)=some (out (l.foldl g a0)):=by
 have:=zey (A:=A) (f:=f) mk l.length (λk a=>out ((l.drop k).foldl g a)) I (λk a hk hI=>?_) 0 a0 (yAF _) h0;·simpa using this
 ·by_cases hlt:k<l.length;·left;obtain ⟨h1,h2⟩:=h k hlt a hI;exact ⟨_,hlt,h1,h2,by rw[yBe hlt];rfl⟩
  ·right;obtain rfl:k=l.length:=by omega
   rw[he a hI,yB9 (yAl _)];simp
theorem zch{R:Type}{f:Int×Unit->Option ((Int×Unit)⊕R)}(n:Nat)(p:Nat->Bool)(yes no:R)
  (h:∀k,k<n->f ((k:Int),())=if p k=true then some (.inr yes) else some (.inl (((k+1:Nat):Int),())))
  (he:f ((n:Int),())=some (.inr no)):zav f ((0:Int),())=some (bif (List.range n).any p then yes else no):=by
 have:=zmx (f:=f) (List.range n) p (λ_=>yes) no (λk hk=>by
  have hk':k<n:=by simpa using hk
  rw[h k hk',yB2]) (by simpa using he)
 rw[this];cases hf:(List.range n).findIdx? p with
 |some k =>
   have:(List.range n).any p=true:=by rw[List.findIdx?_eq_some_iff_getElem] at hf;obtain ⟨h1,h2,_⟩:=hf;exact yBh.2 ⟨_,yBb h1,h2⟩
   rw[this];rfl
 |none =>
   have:(List.range n).any p=false:=by rw[List.findIdx?_eq_none_iff] at hf;rw[yBt];intro x hx;simpa using hf x hx
   rw[this];rfl
end Pe
end
section
/- The stable sort of Go's library as plain Lean on lists: insertion, swaps of ranges, rotation. Over no program. -/
set_option maxRecDepth 100000
namespace Pe
open Go
variable{α:Type}{lt:α->α->Bool}
end Pe
end
section
/- The merge of Go's stable sort as plain Lean on lists: the search, the moves of one element, the parts. Over no program. -/
set_option maxRecDepth 100000
namespace Pe
open Go
variable{α:Type}{lt:α->α->Bool}
end Pe
end
section
/- Where Go's stable sort cuts two znv in order to merge them. Over no program. -/
set_option maxRecDepth 100000
namespace Pe
open Go
variable{α:Type}{lt:α->α->Bool}
end Pe
end
