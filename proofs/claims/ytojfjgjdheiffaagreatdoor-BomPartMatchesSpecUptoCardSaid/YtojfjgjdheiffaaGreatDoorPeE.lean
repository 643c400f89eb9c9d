/- PROVED HERE: a part of the seat's proofs; see the text that holds the claim's theorem. -/
import Derived.OpenShut
import Derived.Shelf.Strings.Builder1
import Derived.Test.YtojfjgjdheiffaaGreatDoorPeG
section
namespace Pe
open Go Go.RowKit
variable{S:Nat->Type}{P:Program}{un:Uni S}{D:Dat}{w:World}
def uOk(P:Program)(u:U)(T:TypeId):Bool:=match u,P.underlying T with
 | .int _,some (.int _)=>true| .bool,some .bool=>true| .str,some .string=>true|_,_=>false
theorem zdk{T:TypeId}{u:U}(h:uOk P u T=true){xs:Array Value}{off:Nat}{v:Value}(hx:xs[off]?=some v):(part T xs off).run P w= .ok v w:=by
 unfold uOk at h;cases hu:P.underlying T with
 |none=>grind|some d=>rw[hu] at h;cases u<;>cases d<;>first|grind|simp[part,isAgg,run_underlying hu,hx]
theorem zpn{T:TypeId}{u:U}{us:List U}{t1 t2:ElL S (u::us)}{c1 c2:List Value}(hs:uOk P u T=true)(h1:DR un D w (u::us) t1 c1)(h2:DR un D w (u::us) t2 c2) :
  ∃v1 r1 v2 r2,c1=v1::r1/\c2=v2::r2/\DR un D w us t1.2 r1/\DR un D w us t2.2 r2/\∀d,(Op.equalIn (d+1) T v1 v2).run P w= .ok (eq1 u t1.1 t2.1) w:=by
 unfold uOk at hs;cases hu:P.underlying T with
 |none=>grind|some ds =>
   rw[hu] at hs;cases h1 with
   |int h1 =>
     cases h2 with
     |int h2 =>
       cases ds<;>first|grind|skip
       exact ⟨_,_,_,_,rfl,rfl,h1,h2,λd=>run_equalIn_int w d T _ _ _ _ hu⟩
   |bool h1 =>
     cases h2 with
     |bool h2 =>
       cases ds<;>first|grind|skip
       exact ⟨_,_,_,_,rfl,rfl,h1,h2,λd=>run_equalIn_bool w d T _ _ hu⟩
   |str h1 =>
     cases h2 with
     |str h2 =>
       cases ds<;>first|grind|skip
       refine ⟨_,_,_,_,rfl,rfl,h1,h2,λd=>?_⟩;rw[run_equalIn_string w d T _ _ hu,ziF,ziF];rfl
   |sl0=>cases hs|sl=>cases hs|mp=>cases hs|rw=>cases hs|cs0=>cases hs|cs=>cases hs|st=>cases hs
def ziw(P:Program):Nat->List Field->List U->Bool
 |_,[],[]=>true
 |k, f :: fs, u :: us => f.name != "_" && Nat.beq f.offset k && uOk P u f.type && ziw P (k + 1) fs us
 |_,_,_=>false
theorem zf0{xs:List Value}{k:Nat}{v:Value}{r:List Value}(h:xs.drop k=v::r):xs.toArray[k]?=some v/\xs.drop (k+1)=r:=by
 constructor
 ·have:(xs.drop k)[0]?=some v:=by rw[h];rfl
  grind
 ·rw[<-yBh,h];rfl
theorem zia{d:Nat}{xs ys:List Value}:∀{fs:List Field}{us:List U}{k:Nat}{t1 t2:ElL S us}{c1 c2:List Value},ziw P k fs us=true->DR un D w us t1 c1->DR un D w us t2 c2->xs.drop k=c1->ys.drop k=c2 ->
  (Op.eqFields (d+1) xs.toArray ys.toArray fs).run P w= .ok (eqC us t1 t2) w
 |[],[],_,_,_,_,_,_,_,_,_,_=>by simp[Op.eqFields,eqC]
 |f::fs,u::us,k,t1,t2,c1,c2,hf,h1,h2,hx,hy=>by
   simp only [ziw,yAd] at hf;obtain ⟨⟨⟨g1,g2⟩,g3⟩,g4⟩:=hf;have hk:=yAa g2;obtain ⟨v1,r1,v2,r2,rfl,rfl,e1,e2,e3⟩:=zpn g3 h1 h2;obtain ⟨a1,a2⟩:=zf0 hx;obtain ⟨b1,b2⟩:=zf0 hy;have ih:=zia (d:=d) g4 e1 e2 a2 b2;have hn : f.name ≠ "_" := by grind
   simp only[Op.eqFields,hn,ne_eq,not_false_eq_true,if_true,Sem.run_bind,hk,zdk g3 a1,zdk g3 b1,e3 d,Result.andThen_ok,eqC];cases eq1 u t1.1 t2.1 with
   |true=>grind|false=>simp
 |[],_::_,_,_,_,_,_,hf,_,_,_,_=>by grind[ziw]
 |_::_,[],_,_,_,_,_,hf,_,_,_,_=>by grind[ziw]
theorem zjd{d:Nat}{xs ys:List Value}{e:TypeId}(he:P.cellsOf e=1):∀{us:List U}{k:Nat}{t1 t2:ElL S us}{c1 c2:List Value},(us.all λu=>uOk P u e)=true->DR un D w us t1 c1->DR un D w us t2 c2->xs.drop k=c1->ys.drop k=c2 ->
  (Op.eqItems (d+1) e (P.cellsOf e) xs.toArray ys.toArray (List.range' k us.length)).run P w= .ok (eqC us t1 t2) w
 |[],_,_,_,_,_,_,_,_,_,_=>by simp[Op.eqItems,eqC]
 |u::us,k,t1,t2,c1,c2,hf,h1,h2,hx,hy=>by
   simp only[yBT,yAd] at hf;obtain ⟨g3,g4⟩:=hf;obtain ⟨v1,r1,v2,r2,rfl,rfl,e1,e2,e3⟩:=zpn g3 h1 h2;obtain ⟨a1,a2⟩:=zf0 hx;obtain ⟨b1,b2⟩:=zf0 hy;have ih:=zjd (d:=d) he g4 e1 e2 a2 b2;simp only[he] at ih;simp only[yAw,yBk,Op.eqItems,Sem.run_bind,he,yBj,zdk g3 a1,zdk g3 b1,e3 d,Result.andThen_ok,eqC];cases eq1 u t1.1 t2.1 with
   |true=>grind|false=>simp
def zsj(P:Program)(t:TypeId)(d:TypeDesc)(us:List U):Bool:=match d with
 | .struct fs=> !P.stoodInHeld t&&ziw P 0 fs.toList us| .array n e=>Nat.beq n us.length&&Nat.beq (P.cellsOf e) 1&&us.all λu=>uOk P u e|_=>false
def eqB(P:Program)(t:TypeId)(d:TypeDesc)(us:List U):Bool:= !P.eqGuardType P.depth t&&zsj P t d us
theorem zpj{t:TypeId}{d:TypeDesc}{us:List U}(hd:P.underlying t=some d)(h:zsj P t d us=true)(D:Dat)(w:World)(t1 t2:ElL S us)(c1 c2:List Value)(h1:DR un D w us t1 c1)(h2:DR un D w us t2 c2):(Op.equalIn 10000 t (.agg c1.toArray) (.agg c2.toArray)).run P w= .ok (eqC us t1 t2) w:=by
 unfold zsj at h;cases d with
 |struct fs =>
   simp only[yAd,yA4] at h;have hf:P.fieldsOf t=fs:=by grind[Program.fieldsOf]
   rw[show (10000:Nat)=9999+1 from rfl,run_equalIn_agg w 9999 t _ _ (by grind) h.1,hf];exact zia (d:=9998) h.2 h1 h2 rfl rfl
 |array n e =>
   simp only[yAd] at h;obtain ⟨⟨g1,g2⟩,g3⟩:=h;have hn:=yAa g1;have he:=yAa g2;cases hi:P.info? e with
   |none=>grind[Program.cellsOf]|some i =>rw[show (10000:Nat)=9999+1 from rfl,run_equalIn_array w 9999 _ _ hd hi,yBE,hn];exact zjd (d:=9998) he g3 h1 h2 rfl rfl
 |_=>cases h
theorem eq_ok{t:TypeId}{d:TypeDesc}{us:List U}(hd:P.underlying t=some d)(h:eqB P t d us=true)(D:Dat)(w:World)(t1 t2:ElL S us)(c1 c2:List Value)(op:BinOp)(x y:Operand)(h1:DR un D w us t1 c1)(h2:DR un D w us t2 c2)(b:Bool)
  (hb:op= .eql/\b=eqC us t1 t2\/op= .neq/\b= !eqC us t1 t2) :
  (eqGuard op t x y (.agg c1.toArray) (.agg c2.toArray)).run P w= .ok () w/\(binOp op t (.agg c1.toArray) (.agg c2.toArray)).run P w= .ok (.bool b) w:=by
 unfold eqB at h;simp only[yAd,yA4] at h;obtain ⟨hg,h⟩:=h;refine ⟨run_eqGuard_agg w op t x y _ _ hg,?_⟩;have key:=zpj hd (show zsj P t d us=true from h) D w t1 t2 c1 c2 h1 h2;rcases hb with ⟨rfl,rfl⟩|⟨rfl,rfl⟩;·rw[run_eql_struct,key];rfl
 simp_all[run_neq_struct]
theorem zj4:∀{us:List U}{t1 t2:ElL S us}{c1 c2:List Value},us.all U.scalar=true->DR un D w us t1 c1->DR un D w us t2 c2->eqC us t1 t2=true->c1=c2
 |[],_,_,_,_,_,h1,h2,_=>by cases h1;cases h2;rfl
 |u::us,t1,t2,c1,c2,hs,h1,h2,he=>by
   simp only[yBT,yAd] at hs;simp only[eqC,yAd] at he;cases h1 with
   |int h1 =>
     cases h2 with
     |int h2 =>have h3:eI (hd t1)=eI (hd t2):=of_decide_eq_true he.1;rw[h3,zj4 hs.2 h1 h2 he.2]
   |bool h1 =>
     cases h2 with
     |bool h2 =>have h3:eB (hd t1)=eB (hd t2):=(by have:=he.1;exact eq_of_beq this);rw[h3,zj4 hs.2 h1 h2 he.2]
   |str h1 =>
     cases h2 with
     |str h2 =>have h3:eS (hd t1)=eS (hd t2):=(by have:=he.1;exact eq_of_beq this);rw[h3,zj4 hs.2 h1 h2 he.2]
   |sl0=>exact absurd hs.1 (by simp[U.scalar])|sl=>exact absurd hs.1 (by simp[U.scalar])|mp=>exact absurd hs.1 (by simp[U.scalar])|rw=>exact absurd hs.1 (by simp[U.scalar])|cs0=>exact absurd hs.1 (by simp[U.scalar])|cs=>exact absurd hs.1 (by simp[U.scalar])|st=>exact absurd hs.1 (by simp[U.scalar])
theorem zj5:∀{us:List U}{t:ElL S us}{c:List Value}(n:Nat),us.all U.scalar=true->DR un D w us t c->∀v∈c,Instr.sameBits n v v=true
 |[],_,_,_,_,h,v,hv=>by cases h;cases hv
 |u::us,t,c,n,hs,h,v,hv=>by
   simp only[yBT,yAd] at hs;cases h with
   |int h =>
     rcases yAm.1 hv with rfl|hv;·grind[Instr.sameBits]
     ·exact zj5 n hs.2 h v hv
   |bool h =>
     rcases yAm.1 hv with rfl|hv;·grind[Instr.sameBits]
     ·exact zj5 n hs.2 h v hv
   |str h =>
     rcases yAm.1 hv with rfl|hv;·grind[Instr.sameBits,MapKept.bytes_beq]
     ·exact zj5 n hs.2 h v hv
   |sl0=>simp_all[U.scalar]|sl=>simp_all[U.scalar]|mp=>simp_all[U.scalar]|rw=>simp_all[U.scalar]|cs0=>simp_all[U.scalar]|cs=>simp_all[U.scalar]|st=>simp_all[U.scalar]
theorem zml{p:Value->Value->Bool}:∀{l:List Value},(∀v∈l,p v v=true)->((l.zip l).all λ(x,y)=>p x y)=true|[],_=>rfl|v::l,h=>by simp only[yBq,yBT,yAd];exact ⟨h v (by simp),zml λx hx=>h x (by simp[hx])⟩
theorem zmV{k:U}(hk:U.key un k=true){x y:El S k}{a b:Value}(ha:Rep un [] D w (inj k x) a)(hb:Rep un [] D w (inj k y) b)(he:keq un k x y=true):a=b:=by
 cases k with
 |st n =>simp only[inj,Rep] at ha hb;obtain ⟨c1,rfl,h1⟩:=ha;obtain ⟨c2,rfl,h2⟩:=hb;rw[zj4 (by grind[U.key]) (zkv h1) (zkv h2) he]
 |int q=>simp only[inj,Rep] at ha hb;subst ha;subst hb;have h9: @BEq.beq Int _ x y=true:=he;have: @Eq Int x y:=eq_of_beq h9;exact congrArg (Value.int q) this
 |bool=>simp only[inj,Rep] at ha hb;subst ha;subst hb;have h9: @BEq.beq Bool _ x y=true:=he;have: @Eq Bool x y:=eq_of_beq h9;exact congrArg Value.bool this
 |str=>simp only[inj,Rep] at ha hb;subst ha;subst hb;have h9: @BEq.beq By _ x y=true:=he;have: @Eq By x y:=eq_of_beq h9;exact congrArg (λl:By=>Value.string ⟨l.toArray⟩) this
 |sl u=>simp[U.key,U.scalar] at hk|mp u v=>simp[U.key,U.scalar] at hk|rw u=>simp[U.key,U.scalar] at hk|cs u=>simp[U.key,U.scalar] at hk
theorem zqY(n:Nat)(q:IntKind)(x:Int):Instr.sameBits n (.int q x) (.int q x)=true:=by grind[Instr.sameBits]
theorem zpC(n:Nat)(x:Bool):Instr.sameBits n (.bool x) (.bool x)=true:=by grind[Instr.sameBits]
theorem zqX(n:Nat)(x:ByteArray):Instr.sameBits n (.string x) (.string x)=true:=by grind[Instr.sameBits,MapKept.bytes_beq]
theorem zqe(l m:By):((ByteArray.mk l.toArray)==(ByteArray.mk m.toArray))=(l==m):=by rw[yBC,MapKept.bytes_beq];simp
theorem zk8{k:U}(hk:U.key un k=true){x:El S k}{a:Value}(ha:Rep un [] D w (inj k x) a):(Instr.keyThatStays a a).run P w= .ok a w:=by
 have:Instr.sameBits 10000 a a=true:=by
  cases k with
  |st n =>simp only[inj,Rep] at ha;obtain ⟨c1,rfl,h1⟩:=ha;have h2:=zj5 9999 (by grind[U.key]) (zkv h1);simp_all[Instr.sameBits,zml]
  |int q=>simp only[inj,Rep] at ha;grind[zqY]|bool=>simp only[inj,Rep] at ha;grind[zpC]|str=>simp_all[inj,Rep,zqX]|sl u=>grind[U.key,U.scalar]|mp u v=>grind[U.key,U.scalar]|rw u=>grind[U.key,U.scalar]|cs u=>grind[U.key,U.scalar]
 simp[Instr.keyThatStays,this]
theorem zm4{d:TypeDesc}{k:U}{a:Value}{x:El S k}(h:∀(y:El S k)(b:Value),Rep un [] D w (inj k y) b->Instr.sameNow d a b=some (keq un k x y)):∀{l:List (El S k)}{es:List MapEntry}(i:Nat),KeysRep un D w k l es->Instr.findNow d a es i=some (zeQ (l.map (keq un k x)) es i)
 |[],[],_,_=>rfl|y::l,e::es,i,hr=>by
   have h1:=h y e.key hr.1;unfold Instr.findNow;rw[h1];simp only[yAn];cases keq un k x y with
   |true=>rfl|false=>simp only[zeQ];exact zm4 h (i+1) hr.2
 |[],_::_,_,hr=>hr.elim|_::_,[],_,hr=>hr.elim
theorem zm5{kt:TypeId}{k:U}{a:Value}{x:El S k}(h:∀(y:El S k)(b:Value),Rep un [] D w (inj k y) b->(Op.equal kt a b).run P w= .ok (keq un k x y) w):∀{l:List (El S k)}{es:List MapEntry}(i:Nat),KeysRep un D w k l es->(Instr.findAsking kt a es i).run P w= .ok (zeQ (l.map (keq un k x)) es i) w
 |[],[],_,_=>by simp[Instr.findAsking,zeQ]
 |y::l,e::es,i,hr=>by
   have h1:=h y e.key hr.1;unfold Instr.findAsking;simp only[Sem.run_bind,h1,Result.andThen,yAn];cases keq un k x y with
   |true=>simp[zeQ]|false=>simp only[zeQ];exact zm5 h (i+1) hr.2
 |[],_::_,_,hr=>hr.elim|_::_,[],_,hr=>hr.elim
theorem zig{T:TypeId}{u:U}(h:uOk P u T=true)(n:Nat)(em:Bool){v:Value}(hv:∃(x:El S u),Rep un [] D w (inj u x) v):(Instr.checkKey em (n+1) T v).run P w= .ok () w:=by
 obtain ⟨x,hx⟩:=hv;unfold uOk at h;cases hu:P.underlying T with
 |none=>grind|some d =>
   rw[hu] at h;cases u with
   |int k=>simp only[inj,Rep] at hx;subst hx;cases d<;>first|grind|simp[Instr.checkKey,run_underlying hu]
   |bool=>simp only[inj,Rep] at hx;subst hx;cases d<;>first|grind|simp[Instr.checkKey,run_underlying hu]
   |str=>simp only[inj,Rep] at hx;subst hx;cases d<;>first|grind|simp[Instr.checkKey,run_underlying hu]
   |_=>grind
theorem zsX{u:U}{us:List U}{t:ElL S (u::us)}{c:List Value}(hs:U.scalar u=true)(h:DR un D w (u::us) t c):∃v r,c=v::r/\DR un D w us t.2 r/\∃x:El S u,Rep un [] D w (inj u x) v:=by
 cases h with
 |int h=>exact ⟨_,_,rfl,h,_,by simp only[inj,Rep];rfl⟩|bool h=>exact ⟨_,_,rfl,h,_,by simp only[inj,Rep];rfl⟩|str h=>exact ⟨_,_,rfl,h,_,by simp only[inj,Rep];rfl⟩|sl0=>grind[U.scalar]|sl=>grind[U.scalar]|mp=>grind[U.scalar]|rw=>grind[U.scalar]|cs0=>grind[U.scalar]|cs=>grind[U.scalar]|st=>grind[U.scalar]
theorem zgW{n:Nat}{em:Bool}{xs:List Value}:∀{fs:List Field}{us:List U}{k:Nat}{t:ElL S us}{c:List Value},ziw P k fs us=true->us.all U.scalar=true->DR un D w us t c->xs.drop k=c ->
  (forIn (m:=Sem) fs PUnit.unit λf _=>do
   if f.name ≠ "_" then Instr.checkKey em (n + 1) f.type (← part f.type xs.toArray f.offset)
   pure (ForInStep.yield PUnit.unit)).run P w= .ok PUnit.unit w
 |[],[],_,_,_,_,_,_,_=>by simp
 |f::fs,u::us,k,t,c,hf,hs,h,hx=>by
   simp only [ziw,yAd] at hf;obtain ⟨⟨⟨g1,g2⟩,g3⟩,g4⟩:=hf;simp only [yBT,yAd] at hs;have hk:=yAa g2;obtain ⟨v,r,rfl,h1,hv⟩:=zsX hs.1 h;obtain ⟨a1,a2⟩:=zf0 hx;have ih:=zgW (n:=n) (em:=em) g4 hs.2 h1 a2;have hn : f.name ≠ "_" := by grind
   have hc:=zig (P:=P) g3 n em hv;simp only[List.forIn_cons,Sem.run_bind,hn,ne_eq,not_false_eq_true,if_true,hk,zdk g3 a1,hc,Result.andThen_ok,Sem.run_pure];exact ih
 |[],_::_,_,_,_,hf,_,_,_=>by grind[ziw]
 |_::_,[],_,_,_,hf,_,_,_=>by grind[ziw]
def keyB(P:Program)(un:Uni S)(kt:TypeId)(k:U):Bool:=match k with
 | .st n=>(un.codes n).all U.scalar&&(match P.underlying kt with
   |some (.struct fs)=>zsj P kt (.struct fs) (un.codes n)|_=>false)
 |u=>u.scalar&&uOk P u kt
theorem zrJ{kt:TypeId}{k:U}(h:keyB P un kt k=true):KeyOk P un kt k:=by
 unfold keyB at h;split at h
 ·rename_i n;simp only[yAd] at h;obtain ⟨hs,h⟩:=h;have Q3:U.key un (.st n)=true:=hs;split at h
  ·rename_i fs hd;have heq:∀(D:Dat)(w:World)(x y:El S (.st n))(a b:Value),Rep un [] D w (inj (.st n) x) a->Rep un [] D w (inj (.st n) y) b->(Op.equal kt a b).run P w= .ok (keq un (.st n) x y) w:=by
    intro D w x y a b ha hb;simp only[inj,Rep] at ha hb;obtain ⟨c1,rfl,h1⟩:=ha;obtain ⟨c2,rfl,h2⟩:=hb;exact zpj hd h D w _ _ c1 c2 (zkv h1) (zkv h2)
   refine ⟨λD w x a l es ha hr=>?_,λD w x a em ha=>?_,λD w x y a b ha hb he=>?_⟩
   ·have hask:=zm5 (P:=P) (kt:=kt) (λy b hb=>heq D w x y a b ha hb) 0 hr;unfold Instr.findKey;simp only[Sem.run_bind,run_underlying hd,Result.andThen_ok];cases es with
    |nil=>simp_all[Instr.findNow,zeQ]
    |cons e es =>have hnone:Instr.findNow (.struct fs) a (e::es) 0=none:=(by simp only[inj,Rep] at ha;obtain ⟨c1,rfl,_⟩:=ha;rfl);grind
   ·simp only[inj,Rep] at ha;obtain ⟨c1,rfl,h1⟩:=ha;simp only[zsj,yAd] at h;have:=zgW (P:=P) (n:=9998) (em:=em) h.2 hs (zkv h1) (xs:=c1) rfl;rw[show (10000:Nat)=9999+1 from rfl,Instr.checkKey];simp only[Sem.run_bind,run_underlying hd,Result.andThen_ok];grind[Result.andThen_ok,Sem.run_pure]
   grind[zmV,zk8]
  ·cases h
 ·rename_i u hu;simp only[yAd] at h;obtain ⟨hs,h⟩:=h;have Q3:U.key un k=true:=by cases k<;>first|exact hs|simp_all
  refine ⟨λD w x a l es ha hr=>?_,λD w x a em ha=>?_,λD w x y a b ha hb he=>?_⟩
  ·obtain ⟨d,hd⟩:∃d,P.underlying kt=some d:=by
    unfold uOk at h;cases hd:P.underlying kt with
    |none=>grind|some d=>simp_all
   have hnow:=zm4 (d:=d) (a:=a) (x:=x) (λy b hb=>by
    unfold uOk at h;rw[hd] at h;cases k with
    |int q=>simp only[inj,Rep] at ha hb;grind[Instr.sameNow,keq,eq1]
    |bool=>simp only[inj,Rep] at ha hb;grind[Instr.sameNow,keq,eq1]
    |str =>
      simp only[inj,Rep] at ha hb;subst ha;subst hb;cases d<;>first|grind|skip
      exact congrArg some (zqe x y)
    |_=>grind) 0 hr
   simp_all[Instr.findKey,run_underlying]
  ·exact zig h 9999 em ⟨x,ha⟩
  grind[zmV,zk8]
def zr0(P:Program)(un:Uni S)(t:TypeId)(d:TypeDesc)(r:TyRow S):Bool:=match r.code with
 |some (.st n)=> !((un.codes n).all U.scalar&&Nat.beq r.fields.length (un.codes n).length)||eqB P t d (un.codes n)|_=>true
def mpB(P:Program)(un:Uni S)(d:TypeDesc)(r:TyRow S):Bool:=match r.mp with
 |some (kt,k,vt,_)=>(match d with
   | .map a b=>Nat.beq a kt&&Nat.beq b vt&&keyB P un kt k|_=>false)
 |none=>true
theorem zqj{t:TypeId}{r:TyRow S}(d:TypeDesc)(z:Value)(hd:P.underlying t=some d)(hz:(P.info? t).bind (·.zero)=some z)(hn:(P.info? t).map (·.size)=some r.n)(hzz:r.zero=z.cells.toList.map zaC)
  (hc:(Nat.beq z.cells.size r.n&&zqk P un d r&&zr0 P un t d r&&zB z r.agg&&mpB P un d r&&arrB P un d r)=true):RowOk P un t r:=by
 simp only[yAd] at hc;obtain ⟨⟨⟨⟨⟨h1,h2⟩,h3⟩,h4⟩,h5⟩,h6⟩:=hc;refine zsu hd hz hn h1 hzz h2 h4 h6 (λkt k vt v hm=>?_) λn hcd hs=>?_
 ·unfold mpB at h5;rw[hm] at h5;cases d with
  |map a b =>simp_all[zrJ]|_=>cases h5
 unfold zr0 at h3;rw[hcd] at h3;simp only[hs,yBS,Bool.false_or] at h3;grind[eq_ok]
end Pe
end
section
namespace Pe
open Go Go.RowKit
variable{S:Nat->Type}{P:Program}{un:Uni S}
def Tr.All{α:Type}(p:Nat->α->Prop):Tr α->Prop| .leaf=>True| .node l k v r=>l.All p/\p k v/\r.All p
theorem Tr.all_get{α:Type}{p:Nat->α->Prop}:∀{T:Tr α},T.All p->∀i v,T.get i=some v->p i v
 | .leaf,_,_,_,h=>by cases h
 | .node l k u r,ha,i,v,h=>by
   obtain ⟨h1,h2,h3⟩:=ha;unfold Tr.get at h;cases hb:Nat.beq i k with
   |true=>simp_all|false =>
     rw[hb] at h;cases hc:Nat.blt i k with
     |true=>rw[hc] at h;exact Tr.all_get h1 i v h|false=>rw[hc] at h;exact Tr.all_get h3 i v h
def nst:U->Bool| .st _=>false|_=>true
theorem zrW(h:∀n,(un.codes n).all nst=true):zns un:=λn u hu=>by have:=yAM.1 (h n) u hu;cases u<;>first|(cases this;done)|exact ⟨rfl,λm hm=>by cases hm⟩
def zf9(P:Program)(f:FuncId):Prop:=∀args w,(callFunc f args).run P w= .ok (.enter f args) w
theorem zqO {f : FuncId} {fn : Func} (h : P.funcs[f]? = some fn) (hn : (fn.name == "runtime.NumGoroutine") = false) (hb : fn.body.isNone = false) : zf9 P f := fun args w => by
 have hn' : ¬ fn.name = "runtime.NumGoroutine" := by grind
 have hb':¬fn.body=none:=by grind
 simp_all[callFunc]
def SigOk(P:Program)(f:FuncId):Sig->Prop| .data _ _=>zf9 P f| .inl fn _ _=>P.funcs[f]?=some fn/\zf9 P f| .eff _ _ _ _ _ _=>zf9 P f| .effI fn _ _ _ _ _ _=>P.funcs[f]?=some fn/\zf9 P f| .lin g=>zf9 P f/\g.ok=true| .bld k T Eb=>BldOk P f k T Eb/\zf9 P f| .inpl _ _ _=>zf9 P f
theorem zrl{tb:Tb S}(h1:tb.ty.All (RowOk P un))(h2:tb.sig.All (SigOk P)):Qc P un tb :=
 ⟨λt r h=>Tr.all_get h1 t r h,λf _ _ h=>Tr.all_get h2 f _ h,λf _ _ _ _ _ _ h=>Tr.all_get h2 f _ h,λf _ _ _ _ _ _ _ h=>Tr.all_get h2 f _ h,λf _ _ _ h=>Tr.all_get h2 f _ h,λf _ h=>Tr.all_get h2 f _ h,λf _ _ _ h=>Tr.all_get h2 f _ h,λf _ _ _ h=>Tr.all_get h2 f _ h⟩
end Pe
end
section
namespace Pe
open Go Go.RowKit
variable{S:Nat->Type}{P:Program}{un:Uni S}
def zsd:(a b:List U)->Option (PLift (a=b))
 |[],[]=>some ⟨rfl⟩|u::us,v::vs=>match U.eq? u v,zsd us vs with|some ⟨h⟩,some ⟨k⟩=>some ⟨by rw[h,k]⟩|_,_=>none
 |_,_=>none
def zrw:(u:U)->PV S->Option (El S u)
 | .int k,.int k' n=>if k=k' then some n else none
 | .bool,.bool b=>some b| .str,.str s=>some s| .sl u,.sl v l=>match U.eq? v u with|some ⟨h⟩=>some (h▸l)|none=>none
 | .st n,.st m x=>match zfL m n with|some ⟨h⟩=>some (h▸x)|none=>none
 | .cs v,.cont u x=>match U.eq? u (.cs v) with|some ⟨h⟩=>some (h▸x)|none=>none
 |_,_=>none
theorem zoM{u:U}{p:PV S}{x:El S u}(h:zrw u p=some x):p=inj u x:=by
 unfold zrw at h;split at h
 ·split at h;·rename_i hk;cases h;subst hk;rfl
  ·cases h
 ·cases h;rfl
 ·cases h;rfl
 ·split at h;·rename_i hk _;subst hk;cases h;rfl
  ·cases h
 ·split at h;·rename_i hk _;subst hk;cases h;rfl
  ·cases h
 ·split at h;·rename_i hk _;subst hk;cases h;rfl
  ·cases h
 ·cases h
def zoL:(us:List U)->List (PV S)->Option (ElL S us)
 |[],[]=>some ()|u::us,p::ps=>match zrw u p,zoL us ps with
   |some x,some t=>some (x,t)|_,_=>none
 |_,_=>none
theorem zhK:∀{us:List U}{ps:List (PV S)}{t:ElL S us},zoL us ps=some t->ps=zbQ us t
 |[],[],_,_=>rfl|u::us,p::ps,t,h=>by
   unfold zoL at h;split at h;·rename_i x t' h1 h2;cases h;rw[zoM h1,zhK h2];rfl
   ·cases h
 |[],_::_,_,h=>by cases h
 |_::_,[],_,h=>by cases h
structure Entry (S:Nat->Type) where
 us:List U
 rs:List U
 spec:ElL S us->Option (ElL S rs)
def Entry.run(e:Entry S)(args:List (PV S))(rs:List U):Option (ElL S rs) :=
 match zsd e.rs rs with|some ⟨h⟩=>(zoL e.us args).bind λt=>h▸e.spec t|none=>none
structure EntryE (S:Nat->Type) where
 k:Nat
 us:List U
 ts:List TypeId
 lc:List U
 rs:List U
 ps:List U
 pan:TypeId
 spec:ElL S lc->ElL S us->Option (Out S lc rs ps)
def zo4:Nat->Nat->List (PV S)->Option (List (PV S))|0,_,l=>some l|n+1,j,.ptr b 0::r=>bif Nat.beq b j then zo4 n (j+1) r else none|_+1,_,_=>none
theorem ziZ:∀{n j:Nat}{args l:List (PV S)},zo4 n j args=some l->args=(List.range' j n).map (λi=>.ptr i 0)++l
 |0,_,_,_,h=>by grind[zo4]
 |n+1,j,args,l,h=>by
   unfold zo4 at h;split at h;·grind
   ·rename_i b r heq;cases heq;obtain ⟨h1,h2⟩:=zae h;have:=yAa h1;subst this;rw[ziZ h2];simp[yBk]
   ·cases h
def zmF:(a b:List Nat)->Bool|[],[]=>true|a::r,b::s=>Nat.beq a b&&zmF r s|_,_=>false
theorem zkV:∀{a b:List Nat},zmF a b=true->a=b
 |[],[],_=>rfl|a::r,b::s,h=>by simp only[zmF,yAd] at h;rw[yAa h.1,zkV h.2]
 |[],_::_,h=>by cases h
 |_::_,[],h=>by cases h
def zr5{lc lc' rs rs' ps ps':List U}(h1:lc=lc')(h2:rs=rs')(h3:ps=ps')(x:Option (Out S lc rs ps)):Option (Out S lc' rs' ps'):=by subst h1;subst h2;subst h3;exact x
def EntryE.run(e:EntryE S)(args:List (PV S))(ts:List TypeId)(lc:List U)(c:ElL S lc)(rs ps:List U)(pan:TypeId):Option (Out S lc rs ps) :=
 bif zmF e.ts ts&&Nat.beq e.pan pan then
  match zsd e.lc lc,zsd e.rs rs,zsd e.ps ps with
  |some ⟨h1⟩,some ⟨h2⟩,some ⟨h3⟩=>(zo4 e.k 0 args).bind λl=>(zoL e.us l).bind λt=>zr5 h1 h2 h3 (e.spec (h1.symm▸c) t)|_,_,_=>none
 else none
def zoK(k:Nat):List (PV S):=(List.range' 0 k).map λi=>.ptr i 0
def EntryE.Ok(P:Program)(un:Uni S)(f:Nat)(e:EntryE S):Prop:=∀c t r,e.spec c t=some r->zsl P un f (zoK e.k++zbQ e.us t) e.ts e.lc c e.rs e.ps e.pan r
def lEq{α:Type}(f:(a b:α)->Option (PLift (a=b))):(l m:List α)->Option (PLift (l=m))
 |[],[]=>some ⟨rfl⟩|a::l,b::m=>match f a b with
   |some ⟨h⟩=>(match lEq f l m with|some ⟨k⟩=>some ⟨by rw[h,k]⟩|none=>none)|none=>none
 |_,_=>none
def zqP:(a b:CTy)->Option (PLift (a=b))
 | .fr u,.fr v=>match U.eq? u v with|some ⟨h⟩=>some ⟨by rw[h]⟩|none=>none
 | .own u T,.own v T'=>match U.eq? u v with|some ⟨h⟩=>(match zfL T T' with|some ⟨k⟩=>some ⟨by rw[h,k]⟩|none=>none)|none=>none
 | .wr u T,.wr v T'=>match U.eq? u v with|some ⟨h⟩=>(match zfL T T' with|some ⟨k⟩=>some ⟨by rw[h,k]⟩|none=>none)|none=>none
 |_,_=>none
def ztg:(a b:Arg)->Option (PLift (a=b))
 | .one c,.one d=>match zqP c d with|some ⟨h⟩=>some ⟨by rw[h]⟩|none=>none
 | .agg c,.agg d=>match lEq zqP c d with|some ⟨h⟩=>some ⟨by rw[h]⟩|none=>none
 | .ref k,.ref j=>match zfL k j with|some ⟨h⟩=>some ⟨by rw[h]⟩|none=>none
 | .ptr k o,.ptr j p=>match zfL k j with|some ⟨h⟩=>(match zfL o p with|some ⟨q⟩=>some ⟨by rw[h,q]⟩|none=>none)|none=>none
 | .fn k,.fn j=>match zfL k j with|some ⟨h⟩=>some ⟨by rw[h]⟩|none=>none
 | .nil,.nil=>some ⟨rfl⟩| .agr c k,.agr d j=>match lEq zqP c d with|some ⟨h⟩=>(match zfL k j with|some ⟨q⟩=>some ⟨by rw[h,q]⟩|none=>none)|none=>none
 |_,_=>none
def zs7:(a b:Bool)->Option (PLift (a=b))|true,true=>some ⟨rfl⟩|false,false=>some ⟨rfl⟩|_,_=>none
def bsEq(a b:Bool×TypeId×List CTy):Option (PLift (a=b)):=match a,b with
 |(f,T,l),(g,T',m)=>match zs7 f g with
   |some ⟨h⟩=>(match zfL T T' with
     |some ⟨k⟩=>(match lEq zqP l m with|some ⟨q⟩=>some ⟨by rw[h,k,q]⟩|none=>none)|none=>none)
   |none=>none
def sgEq(a b:Sg):Option (PLift (a=b)):=match a,b with
 |⟨as1,bs,rs,ps,pan⟩,⟨as2,bs',rs',ps',pan'⟩=>match lEq ztg as1 as2 with
   |some ⟨h1⟩=>(match lEq bsEq bs bs' with
     |some ⟨h2⟩=>(match lEq ztg rs rs' with
       |some ⟨h3⟩=>(match zsd ps ps' with
         |some ⟨h4⟩=>(match zfL pan pan' with
           |some ⟨h5⟩=>some ⟨by rw[h1,h2,h3,h4,h5]⟩|none=>none)
         |none=>none)
       |none=>none)
     |none=>none)
   |none=>none
structure EntryL (S:Nat->Type) where
 g:Sg
 spec:g.In S->Option (g.Out S)
def EntryL.run(e:EntryL S)(g:Sg)(t:g.In S):Option (g.Out S) :=
 match sgEq e.g g with
 |some ⟨h⟩=>h▸e.spec (h.symm▸t)|none=>none
def EntryL.Ok(P:Program)(un:Uni S)(f:Nat)(e:EntryL S):Prop:=∀t r,e.spec t=some r->ztk P un f e.g t r
structure EntryP (S:Nat->Type) where
 u:U
 T:TypeId
 k:Option FuncId
 spec:List (El S u)->Option (List (El S u))
def EntryP.args(e:EntryP S):List (PV S):=match e.k with
 |none=>[]|some g=>[.func (.func g) [] []]
def ztf:Option FuncId->List (PV S)->Bool|none,[]=>true|some g,[.func (.func g') [] []]=>Nat.beq g g'|_,_=>false
def EntryP.run(e:EntryP S)(u:U)(T:TypeId)(args:List (PV S))(l:List (El S u)):Option (List (El S u)) :=
 match U.eq? e.u u with
 |some ⟨h⟩=>bif Nat.beq e.T T&&ztf e.k args then h▸e.spec (h▸l) else none|none=>none
def zqh:List (EntryP S)->(u:U)->(T:TypeId)->List (PV S)->List (El S u)->Option (List (El S u))
 |[],_,_,_,_=>none|e::r,u,T,args,l=>match e.run u T args l with
   |some x=>some x|none=>zqh r u T args l
def EntryP.Ok(P:Program)(un:Uni S)(f:Nat)(e:EntryP S):Prop:=∀l l',e.spec l=some l'->zyj P un f e.u e.T e.args l l'
def EntryPs.Ok(P:Program)(un:Uni S)(f:Nat)(l:List (EntryP S)):Prop:=∀e∈l,EntryP.Ok P un f e
theorem zmx{f:Nat}:∀{es:List (EntryP S)},EntryPs.Ok P un f es->∀u T args l l',zqh es u T args l=some l'->zyj P un f u T args l l'
 |[],_,_,_,_,_,_,h=>by cases h
 |e::r,hok,u,T,args,l,l',h=>by
   unfold zqh at h;split at h
   ·rename_i x hx;cases h;unfold EntryP.run at hx;split at hx
    ·rename_i heq _;subst heq;obtain ⟨h1,h2⟩:=zae hx;simp only[yAd] at h1;have hT:=yAa h1.1;subst hT;have ha:args=e.args:=by
      have h3:=h1.2;unfold EntryP.args;cases hk:e.k with
      |none =>
        rw[hk] at h3;cases args with
        |nil=>rfl|cons x y=>cases h3
      |some g =>
        rw[hk] at h3;unfold ztf at h3;split at h3;·rename_i heq;cases heq
        ·rename_i g0 g' heq;cases heq;rw[yAa h3]
        ·cases h3
     rw[ha];exact hok e (by simp) l l' h2
    ·cases hx
   ·exact zmx (λe' he=>hok e' (by simp[he])) u T args l l' h
def zsh(T:Tr (Entry S))(TE:Tr (EntryE S))(TL:Tr (EntryL S))(TP:Tr (List (EntryP S))):Orc S where
 p f u T args l:=match TP.get f with
   |some es=>zqh es u T args l|none=>none
 d f args rs:=match T.get f with
   |some e=>e.run args rs|none=>none
 e f args ts lc c rs ps pan:=match TE.get f with
   |some e=>e.run args ts lc c rs ps pan|none=>none
 l f g t:=match TL.get f with
   |some e=>e.run g t|none=>none
def Entry.Ok(P:Program)(un:Uni S)(f:Nat)(e:Entry S):Prop:=∀t r,e.spec t=some r->Sat P un f (zbQ e.us t) e.rs r
theorem znP{T:Tr (Entry S)}{TE:Tr (EntryE S)}{TL:Tr (EntryL S)}{TP:Tr (List (EntryP S))}(h:T.All (Entry.Ok P un))(hE:TE.All (EntryE.Ok P un))(hL:TL.All (EntryL.Ok P un))(hP:TP.All (EntryPs.Ok P un)):K4 P un (zsh T TE TL TP):=by
 refine ⟨λf args rs r hr=>?_,λf args ts lc c rs ps pan r hr=>?_,λf g t r hr=>?_,λf u T args l l' hr=>?_⟩
 ·unfold zsh at hr;simp only at hr;split at hr
  ·rename_i e he;have hok:=Tr.all_get h f e he;unfold Entry.run at hr;split at hr;·rename_i hrs _;subst hrs;simp only[yCj] at hr;obtain ⟨t,h1,h2⟩:=hr;rw[zhK h1];exact hok t r h2
   ·cases hr
  ·cases hr
 ·unfold zsh at hr;simp only at hr;split at hr
  ·rename_i e he;have hok:=Tr.all_get hE f e he;unfold EntryE.run at hr;obtain ⟨h1,h2⟩:=zae hr;simp only[yAd] at h1;have e1:=zkV h1.1;have e2:=yAa h1.2;split at h2;·rename_i k1 k2 k3 _ _ _;subst e1;subst e2;subst k1;subst k2;subst k3;simp only[yCj] at h2;obtain ⟨l,h3,t,h4,h5⟩:=h2;rw[ziZ h3,zhK h4];exact hok c t r h5
   ·cases h2
  ·cases hr
 ·unfold zsh at hr;simp only at hr;split at hr
  ·rename_i e he;have hok:=Tr.all_get hL f e he;unfold EntryL.run at hr;split at hr;·rename_i k _;subst k;exact hok t r hr
   ·cases hr
  ·cases hr
 grind[zsh,zmx,Tr.all_get]
end Pe
end
section
namespace Pe
theorem zl9{σ R:Type}{f:σ->Option (σ⊕R)}{r:R}:∀{n m:Nat}{x:σ},zlH f n x=some r->n<=m->zlH f m x=some r
 |0,_,_,h,_=>by cases h
 |n+1,0,_,_,hm=>absurd hm (by omega)|n+1,m+1,x,h,hm=>by
   unfold zlH at h ⊢;split at h;·exact zl9 h (by omega)
   ·exact h
   ·cases h
theorem zjW{σ R:Type}{f:σ->Option (σ⊕R)}{r:R}{n:Nat}{x:σ}(h:zlH f n x=some r):zak f x=some r:=by
 have hx:∃n,(zlH f n x).isSome:=⟨n,by rw[h];rfl⟩;unfold zak;rw[dif_pos hx];have h2:=Classical.choose_spec hx;cases h3:zlH f (Classical.choose hx) x with
 |none=>grind|some r' =>have a:=zl9 h (Nat.le_max_left n (Classical.choose hx));have b:=zl9 h3 (Nat.le_max_right n (Classical.choose hx));rw[a] at b;exact b.symm
theorem zaD{σ R:Type}{f:σ->Option (σ⊕R)}{r:R}{x:σ}(h:f x=some (.inr r)):zak f x=some r:=zjW (n:=1) (by simp[zlH,h])
theorem zaR{σ R:Type}{f:σ->Option (σ⊕R)}{x y:σ}(h:f x=some (.inl y)):zak f x=zak f y:=by
 cases hy:zak f y with
 |some r =>obtain ⟨n,hn⟩:=zgz hy;exact zjW (n:=n+1) (by grind[zlH])
 |none =>
   cases hx:zak f x with
   |none=>rfl|some r =>
     obtain ⟨n,hn⟩:=zgz hx;cases n with
     |zero=>cases hn|succ n=>grind[zlH,zjW]
end Pe
end
section
namespace Pe
open Go Go.RowKit
variable{S:Nat->Type}{P:Program}{un:Uni S}
structure Grp (un:Uni S) where
 g:Nat->List U
 get:(n:Nat)->S n->ElL S (g n)
 put:(n:Nat)->ElL S (g n)->S n
 get_put:∀n t,get n (put n t)=t
 dr:∀(n:Nat)(x:S n)(D:Dat)(w:World)(cs:List Value),DR un D w (g n) (get n x) cs->DR un D w (un.codes n) (un.get n x) cs
 size:∀n,zcF un (g n)=(un.codes n).length
variable(G:Grp un)
def Flds(un:Uni S)(M:U->TypeId->Prop)(P:Program):Nat->List Field->List U->Prop|_,[],[]=>True|k,f::fs,u::us=>f.offset=k/\P.cellsOf f.type=U.size un u/\M u f.type/\Flds un M P (k+U.size un u) fs us|_,_,_=>False
def ztj(P:Program)(M:U->TypeId->Prop):U->TypeId->Prop
 | .int k,t=>P.underlying t=some (.int k)| .bool,t=>P.underlying t=some .bool| .str,t=>P.underlying t=some .string| .sl u,t=>∃e,P.underlying t=some (.slice e)/\P.cellsOf e=U.size un u/\0<U.size un u/\M u e
 | .st n,t=>P.cellsOf t=(un.codes n).length/\((∃fs,P.underlying t=some (.struct fs)/\Flds un M P 0 fs.toList (G.g n)) \/
   ∃k e u,P.underlying t=some (.array k e)/\P.cellsOf e=1/\G.g n=List.replicate k u/\U.size un u=1/\M u e)
 | .mp _ _,_=>False| .rw _,_=>False| .cs _,_=>False
inductive Rd {H:Type}:(us:List U)->ElL S us->List (DataW H)->Prop
 |nil {t}:Rd [] t []
 |int {k us} {t:ElL S (.int k::us)} {ds} (hw:(Lit.int k (eI (hd t))).wf=true) (h:Rd us (tl t) ds):Rd (.int k::us) t (.lit (.int k (eI (hd t)))::ds)
 |bool {us} {t:ElL S (.bool::us)} {ds} (h:Rd us (tl t) ds):Rd (.bool::us) t (.lit (.bool (eB (hd t)))::ds)
 |str {us} {t:ElL S (.str::us)} {ds} (hs:(eS (hd t)).length<=maxLen) (h:Rd us (tl t) ds):Rd (.str::us) t (.lit (.string (eS (hd t)))::ds)
 |sl0 {u us} {t:ElL S (.sl u::us)} {ds} (h0:eL (hd t)=[]) (h:Rd us (tl t) ds):Rd (.sl u::us) t (.nil::ds)
 | sl {u us} {t:ElL S (.sl u::us)} {ds} (es sp:List (DataW H)) (hl:es.length=(eL (hd t)).length)
   (h1:∀(i:Nat)(x:El S u)(d:DataW H),(eL (hd t))[i]?=some x->es[i]?=some d->Rd [u] (sg x) [d]) (h:Rd us (tl t) ds):Rd (.sl u::us) t (.slice es sp::ds)
 |st {n us} {t:ElL S (.st n::us)} {ps ds} (h1:Rd (G.g n) (G.get n (eT (hd t))) ps) (h:Rd us (tl t) ds):Rd (.st n::us) t (.agg ps::ds)
variable{G}
theorem DR.one_cons{D:Dat}{w:World}{u:U}{us:List U}{x:El S u}{t:ElL S us}{c cs:List Value}(h1:DR un D w [u] (sg x) c)(h2:DR un D w us t cs):DR un D w (u::us) (two x t) (c++cs):=by
 cases h1 with
 |int h=>cases h;exact .int h2|bool h=>cases h;exact .bool h2|str h=>cases h;exact .str h2|sl0 A c h0 h=>cases h;exact .sl0 A c h0 h2|sl b off c cs hc a1 a2 h=>cases h;exact .sl b off c cs hc a1 a2 h2|mp kc vc a1 a2 h=>cases h;exact .mp kc vc a1 a2 h2|rw cs a1 h=>cases h;exact .rw cs a1 h2|cs0 A h0 h=>cases h;exact .cs0 A h0 h2|cs b off cs a1 a2 h=>cases h;exact .cs b off cs a1 a2 h2|st a1 h=>cases h;rw[yAR];exact .st a1 h2
theorem Rd.one_cons{H:Type}{u:U}{us:List U}{x:El S u}{t:ElL S us}{c:DataW H}{cs:List (DataW H)}(h1:Rd G [u] (sg x) [c])(h2:Rd G us t cs):Rd G (u::us) (two x t) (c::cs):=by
 cases h1 with
 |int hw h=>exact .int hw h2|bool h=>exact .bool h2|str hs h=>exact .str hs h2|sl0 h0 h=>exact .sl0 h0 h2|sl es sp hl a1 h=>exact .sl es sp hl a1 h2|st a1 h=>exact .st a1 h2
section
variable{H:Type}
theorem Rd.inv_str{us:List U}{t:ElL S (.str::us)}{ds:List (DataW H)}(h:Rd G (.str::us) t ds):∃r,ds= .lit (.string (eS (hd t)))::r/\(eS (hd t)).length<=maxLen/\Rd G us (tl t) r:=by cases h with|str hs h=>simp_all
theorem Rd.inv_sl{u:U}{us:List U}{t:ElL S (.sl u::us)}{ds:List (DataW H)}(h:Rd G (.sl u::us) t ds) :
  ∃d r,ds=d::r/\((d= .nil/\eL (hd t)=[])\/∃es sp,d= .slice es sp/\es.length=(eL (hd t)).length/\∀(i:Nat)(x:El S u)(d:DataW H),(eL (hd t))[i]?=some x->es[i]?=some d->Rd G [u] (sg x) [d])/\Rd G us (tl t) r:=by
 cases h with
 |sl0 h0 h=>exact ⟨_,_,rfl,.inl ⟨rfl,h0⟩,h⟩|sl es sp hl h1 h=>exact ⟨_,_,rfl,.inr ⟨es,sp,rfl,hl,h1⟩,h⟩
theorem Rd.inv_st{n:Nat}{us:List U}{t:ElL S (.st n::us)}{ds:List (DataW H)}(h:Rd G (.st n::us) t ds):∃ps r,ds= .agg ps::r/\Rd G (G.g n) (G.get n (eT (hd t))) ps/\Rd G us (tl t) r:=by cases h with|st h1 h=>exact ⟨_,_,rfl,h1,h⟩
end
def zgb(w:World):Dat:=λk _=>k<w.heap.size
theorem zpx{w:World}{a:Addr}{v:Value}(h:w.cell? a=some v):a.block<w.heap.size/\a.spot=none:=by
 unfold World.cell? at h;split at h
 ·rename_i c _ _ hb;refine ⟨(yAE.1 hb).1,?_⟩;simp_all
 ·cases h
theorem zrg(a:Addr)(h:a.spot=none)(n:Nat):a.add n=⟨a.block,a.off+n,none⟩:=by
 unfold Addr.add;obtain ⟨b,o,s⟩:=a;grind
theorem zo1{α:Type}{Q:Nat->α->Prop}:∀(n:Nat),(∀i,i<n->∃p,Q i p)->∃l:List α,l.length=n/\∀(i:Nat)(p:α),l[i]?=some p->Q i p
 |0,_=>⟨[],rfl,λi p h=>by simp at h⟩|n+1,h=>by
   obtain ⟨l,h1,h2⟩:=zo1 n λi hi=>h i (by omega);obtain ⟨p,hp⟩:=h n (by omega);refine ⟨l++[p],by simp[h1],λi q hq=>?_⟩;rcases yAT i n with Ks|K2;·simp_all[yAk]
   ·rw[yAF (by omega),h1] at hq;grind
section
variable{H:Type}{enc:TypeId×Value->H}{w:World}{base:Nat}{spare:Nat->Bool}{held:Bool}{M:U->TypeId->Prop}
theorem zku{un:Uni S}{u:U}(h:U.size un u=1):∀m,zcF un (List.replicate m u)=m|0=>rfl|m+1=>by rw[yCb];simp only[zcF];rw[zku h m,h];omega
def zq1(un:Uni S){X:Type}(M:U->TypeId->Prop)(tr:TypeId->List Value->Option X):List U->List Value->List X->Prop|[],cs,xs=>cs=[]/\xs=[]|u::us,cs,xs=>∃t x r,xs=x::r/\M u t/\tr t (cs.take (U.size un u))=some x/\zq1 un M tr us (cs.drop (U.size un u)) r
theorem zma{n:Nat}(ih:∀u t cs x,DataW.trod enc P w base spare held n t cs=some x->M u t->∃y:El S u,DR un (zgb w) w [u] (sg y) cs/\Rd G [u] (sg y) [x.1]) :
  ∀(us:List U)(cs:List Value)(xs:List (DataW H×List MemPlace)),zq1 un M (DataW.trod enc P w base spare held n) us cs xs->∃y:ElL S us,DR un (zgb w) w us y cs/\Rd G us y (xs.map (·.1))
 |[],cs,xs,h=>by obtain ⟨rfl,rfl⟩:=h;exact ⟨(),.nil,.nil⟩
 |u::us,cs,xs,h=>by obtain ⟨t,x,r,rfl,hm,h1,h2⟩:=h;obtain ⟨y,y1,y2⟩:=ih u t _ x h1 hm;obtain ⟨z,z1,z2⟩:=zma ih us _ r h2;have:=DR.one_cons y1 z1;grind[List.take_append_drop,Rd.one_cons]
theorem Flds.parts{X:Type}{tr:TypeId->List Value->Option X}{cs:List Value}:∀(fs:List Field)(us:List U)(k:Nat)(xs:List X),Flds un M P k fs us->xs.length=us.length->k+zcF un us=cs.length ->
  (∀(i:Nat) f,fs[i]?=some f->tr f.type ((cs.drop f.offset).take (P.cellsOf f.type))=xs[i]?)->zq1 un M tr us (cs.drop k) xs
 |[],[],k,xs,_,h1,h2,_=>⟨by simp_all[zcF],yAU.1 h1⟩|f::fs,u::us,k,xs,h,h1,h2,h3=>by
   obtain ⟨a,b,c,d⟩:=h
   match xs,h1 with
   |x::r,h1 =>have h0:=h3 0 f rfl;rw[a,b] at h0;refine ⟨f.type,x,r,rfl,c,by grind,?_⟩;rw[yBh];simp only[zcF] at h2;exact Flds.parts fs us (k+U.size un u) r d (by grind) (by omega) λi g hg=>by simpa using h3 (i+1) g (by grind)
 |[],_::_,_,_,h,_,_,_=>by grind[Flds]
 |_::_,[],_,_,h,_,_,_=>by grind[Flds]
theorem zlA{X:Type}{tr:TypeId->List Value->Option X}{u:U}{e:TypeId}(hu:U.size un u=1)(hm:M u e):∀(m:Nat)(cs:List Value)(xs:List X),cs.length=m->xs.length=m->(∀i,i<m->tr e ((cs.drop i).take 1)=xs[i]?)->zq1 un M tr (List.replicate m u) cs xs
 |0,cs,xs,h1,h2,_=>⟨yAU.1 h1,yAU.1 h2⟩|m+1,cs,xs,h1,h2,h3=>by
   match xs,h2 with
   |x::r,h2 =>have h0:=h3 0 (by omega);rw[yCb];refine ⟨e,x,r,rfl,hm,by grind,?_⟩;rw[hu];exact zlA hu hm m (cs.drop 1) r (by simp[h1]) (by grind) λi hi=>by simp_all
theorem zrO(hM:∀u t,M u t->ztj G P M u t):∀(n:Nat)(u:U)(t:TypeId)(cs:List Value)(x:DataW H×List MemPlace),
  DataW.trod enc P w base spare held n t cs=some x->M u t->∃y:El S u,DR un (zgb w) w [u] (sg y) cs/\Rd G [u] (sg y) [x.1]:=by
 intro n;induction n with
 |zero=>simp_all[DataW.trod]
 |succ n ih =>
   intro u t cs x h hm;have hs:=hM u t hm;cases u with
   |mp k v=>exact hs.elim|rw u=>exact hs.elim|cs u=>exact hs.elim|int k =>obtain ⟨z,rfl,rfl,hw⟩:=DataW.trod_int hs h;exact ⟨z,.int .nil,.int hw .nil⟩
   |bool =>obtain ⟨b,rfl,rfl⟩:=DataW.trod_bool hs h;exact ⟨b,.bool .nil,.bool .nil⟩
   |str =>obtain ⟨s,rfl,rfl,hl⟩:=DataW.trod_string hs h;refine ⟨s.data.toList,?_,.str (by show s.data.toList.length<=maxLen;simpa using hl) .nil⟩;have:=DR.str (un:=un) (D:=zgb w) (w:=w) (us:=[]) (t:=sg (u:= .str) s.data.toList) (vs:=[]) .nil;exact this
   |sl u =>
     obtain ⟨e,he,hc,hpos,hme⟩:=hs;rcases DataW.trod_slice he h with ⟨rfl,rfl⟩|⟨a,len,cap,elems,rest,m,hmn,rfl,rfl,hb,hl,hcap,K9,Qg,_,_⟩;·exact ⟨([]:List (El S u)),.sl0 none 0 rfl .nil,.sl0 rfl .nil⟩
     ·obtain rfl:n=m:=by omega
      have one:∀i,i<len->∃(ci:List Value) (y:El S u),w.cells? base (a.add (i*P.cellsOf e)) (P.cellsOf e)=some ci/\DR un (zgb w) w [u] (sg y) ci/\∃d,elems[i]?=some d/\Rd G [u] (sg y) [d.1]:=by
       intro i hi;have h1:=Qg i hi;rw[yAe (by omega)] at h1;cases hci:w.cells? base (a.add (i*P.cellsOf e)) (P.cellsOf e) with
       |none=>simp[hci] at h1|some ci =>rw[hci] at h1;obtain ⟨y,y1,y2⟩:=ih u e ci _ h1 hme;exact ⟨ci,y,rfl,y1,_,yAe (by omega),y2⟩
      by_cases h0:len=0;·subst h0;obtain rfl:=yAU.1 K9;exact ⟨([]:List (El S u)),.sl0 _ _ rfl .nil,.sl [] _ rfl (λi x d hx=>by have hx':([]:List (El S u))[i]?=some x:=hx;simp at hx') .nil⟩
      obtain ⟨l,l1,l2⟩:=zo1 (Q:=λi (p:List Value×El S u)=>w.cells? base (a.add (i*P.cellsOf e)) (P.cellsOf e)=some p.1/\DR un (zgb w) w [u] (sg p.2) p.1/\∃d,elems[i]?=some d/\Rd G [u] (sg p.2) [d.1]) len (λi hi=>by obtain ⟨ci,y,h1,h2,h3⟩:=one i hi;exact ⟨(ci,y),h1,h2,h3⟩);have zbz:∀(i:Nat)(p:List Value×El S u),l[i]?=some p->p.1.length=P.cellsOf e/\∀(j:Nat) v,p.1[j]?=some v->w.cell? ((a.add (i*P.cellsOf e)).add j)=some v:=by
       intro i p hp;obtain ⟨h1,_,_⟩:=l2 i p hp;unfold World.cells? at h1;split at h1
       ·have Ku:=mapM_some_length h1;refine ⟨by simpa using Ku,λj v hj=>?_⟩;have Ks:j<P.cellsOf e:=(by have:=(yAc.1 hj).1;simp at Ku;omega);have:=mapM_some_get h1 j j (by simp[Ks]);rw[this,hj]
       ·cases h1
      have hspot:a.spot=none:=(by obtain ⟨p,hp⟩:∃p,l[0]?=some p:=⟨_,yAe (by omega)⟩;obtain ⟨c1,c2⟩:=zbz 0 p hp;obtain ⟨v,hv⟩:∃v,p.1[0]?=some v:=⟨_,yAe (by omega)⟩;have:=(zpx (c2 0 v hv)).2;simpa[Addr.add] using this);have Qp:P.cellsOf e=U.size un u:=hc;have hlmap:(l.map (·.2)).length=len:=(by simp[l1]);refine ⟨l.map (·.2),?_,?_⟩
      ·obtain ⟨b,o,sp⟩:=a;simp only at hspot;subst hspot
       have:=DR.sl (un:=un) (D:=zgb w) (w:=w) (u:=u) (us:=[]) (t:=sg (u:= .sl u) (l.map (·.2))) (vs:=[]) b o cap (λi=>((l[i]?).map (·.1)).getD []) (by
         show (l.map (·.2)).length<=cap;omega) (λi x hx=>by
        have hx':(l.map (·.2))[i]?=some x:=hx;rw[yAh] at hx';cases hp:l[i]? with
        |none=>simp[hp] at hx'|some p =>obtain ⟨_,c2⟩:=zbz i p hp;simp only[yAg,yB8];intro j v hj;have:=c2 j v hj;rw[zrg ⟨b,o,none⟩ rfl,zrg _ rfl,Qp] at this;exact ⟨(zpx this).1,this⟩) (λi x hx=>by
        have hx':(l.map (·.2))[i]?=some x:=hx;rw[yAh] at hx';cases hp:l[i]? with
        |none=>simp[hp] at hx'|some p =>simp only[hp,yAg,yAf] at hx';subst hx';exact (l2 i p hp).2.1) .nil
       have e2:(eL (hd (sg (u:= .sl u) (l.map (·.2))))).length=len:=hlmap;rw[e2] at this;exact this
      ·exact .sl _ _ (by rw[yBi,K9];exact hlmap.symm) (λi x d hx hd'=>by
        have hx':(l.map (·.2))[i]?=some x:=hx;rw[yAh] at hx' hd';cases hp:l[i]? with
        |none=>simp[hp] at hx'|some p =>simp only[hp,yAg,yAf] at hx';subst hx';obtain ⟨_,_,d',q1,q2⟩:=l2 i p hp;rw[q1] at hd';simp only[yAg,yAf] at hd';subst hd';exact q2) .nil
   |st k =>
     obtain ⟨hsz,hs⟩:=hs;rcases hs with ⟨fs,hu,hf⟩|⟨m,e,u,hu,hc,hcodes⟩
     ·obtain ⟨xs,m,hmn,rfl,hcl,hxl,Qg⟩:=DataW.trod_struct hu h;obtain rfl:n=m:=by omega
      have Ku:fs.toList.length=(G.g k).length:=by
       have:∀(fs:List Field)(us:List U)(j:Nat),Flds un M P j fs us->fs.length=us.length:=by
        intro fs;induction fs with
        |nil=>intro us j h;cases us with
          |nil=>rfl|cons=>simp[Flds] at h
        |cons f fs ihf=>intro us j h;cases us with
          |nil=>simp[Flds] at h|cons u us=>simp[ihf us _ h.2.2.2]
       exact this _ _ _ hf
      have hp:=Flds.parts (tr:=DataW.trod enc P w base spare held n) (cs:=cs) fs.toList (G.g k) 0 xs hf (by simp at Ku;omega) (by rw[G.size];omega) (λi f hfi=>Qg i f (by simpa using hfi));rw[yBo] at hp;obtain ⟨y,y1,y2⟩:=zma ih (G.g k) cs xs hp;refine ⟨G.put k y,?_,?_⟩
      ·have:=DR.st (un:=un) (D:=zgb w) (w:=w) (n:=k) (us:=[]) (t:=sg (u:= .st k) (G.put k y)) (cs:=cs) (vs:=[]) (by
        refine G.dr k (G.put k y) _ _ cs ?_;rw[G.get_put];exact y1) .nil
       rwa[yAR] at this
      ·exact .st (by show Rd G (G.g k) (G.get k (G.put k y)) _;rw[G.get_put];exact y2) .nil
     ·obtain ⟨xs,m',hmn,rfl,hcl,hxl,Qg⟩:=DataW.trod_array hu h;obtain rfl:n=m':=by omega
      have hp:=zlA (un:=un) (tr:=DataW.trod enc P w base spare held n) hcodes.2.1 hcodes.2.2 m cs xs (by rw[hcl,hsz,<-G.size,hcodes.1,zku hcodes.2.1]) hxl (λi hi=>by have:=Qg i hi;rw[hc,yBj] at this;exact this);rw[<-hcodes.1] at hp;obtain ⟨y,y1,y2⟩:=zma ih (G.g k) cs xs hp;refine ⟨G.put k y,?_,?_⟩
      ·have:=DR.st (un:=un) (D:=zgb w) (w:=w) (n:=k) (us:=[]) (t:=sg (u:= .st k) (G.put k y)) (cs:=cs) (vs:=[]) (by
        refine G.dr k (G.put k y) _ _ cs ?_;rw[G.get_put];exact y1) .nil
       rwa[yAR] at this
      ·exact .st (by show Rd G (G.g k) (G.get k (G.put k y)) _;rw[G.get_put];exact y2) .nil
end
end Pe
end
section
namespace Pe
open Go Go.RowKit Go.WideShapes Go.ChangeShapes
variable{S:Nat->Type}{P:Program}{un:Uni S}{G:Grp un}
section
variable{H:Type}{enc:TypeId×Value->H}
theorem znK{f:Func}{s:ChangeSpec}{apart fresh handsOn again:Bool}{W W':World}{args:Array Value}{v:Value}{ds gs:List (DataW H)}{before pa pv:List MemPlace}
  (hW:DataW.Whole enc P f.params.toList s.vars apart W args.toList ds gs before)
  (Q9:∀(b:Nat)(sp:Nat->Bool)(hd:Bool),DataW.TrodAll enc P W' b sp hd f.resultTypes.toList (v.resultList f.resultTypes.size) (s.fn H (ds++gs)).results [])
  (Qb:∀sp:Nat->Bool,(∀p∈before,sp p.block=true)->DataW.TrodAll enc P W' 0 sp true f.params.toList args.toList (s.fn H (ds++gs)).args pa)
  (hvars:∀sp:Nat->Bool,(∀p∈before,sp p.block=true)->DataW.TrodVars enc P W' sp s.vars (s.fn H (ds++gs)).vars pv)
  (hps:before=pa++pv) (hb:Below W.heap.size W W')
  (hok:∀(j:Nat)(t:TypeId)(r:Value),f.resultTypes[j]?=some t->(v.resultList f.resultTypes.size)[j]?=some r->Value.okWide P W' .any 0 t r) :
  s.post enc P f apart fresh handsOn again W args v W':=by
 have Ks:∀p∈before,p.block<W.heap.size:=λp hp=>hW.lt p hp;have hold:∀p∈before,(λb=>decide (b<W.heap.size)) p.block=true:=λp hp=>by grind
 refine ⟨ds,gs,before,[],pa,pv,hW,Q9 _ _ _,Qb _ hold,hvars _ hold,World.keptBut_mono (λp hp=>⟨hp,?_⟩) (hb.frame (· ∈before)),λ_=>?_⟩;·simp_all
 ·obtain ⟨_,_,_,_,_,hz,hn⟩:=hW;refine ⟨hok,_,_,([]++pa)++pv,⟨[]++pa,pv,trodAll_append (Qb _ λ_ _=>rfl) (Q9 _ _ _),hvars _ (λ_ _=>rfl),rfl,?_,?_⟩,?_⟩
  ·intro b off hp;have Kt:MemPlace.cell b off∈before:=by grind
   rw[hb.frozen (Ks _ Kt)];exact hz b off Kt
  ·grind
  grind
def zq2(P:Program)(M:U->TypeId->Prop):List U->List TypeId->Prop|[],[]=>True|u::us,t::ts=>M u t/\(∀n,u= .st n->∃fs,P.underlying t=some (.struct fs))/\P.readableRec t=true/\t<P.types.size/\zq2 P M us ts|_,_=>False
theorem zsw{M:U->TypeId->Prop}(hM:∀u t,M u t->ztj G P M u t){u:U}{t:TypeId}(hm:M u t)(hst:∀n,u= .st n->∃fs,P.underlying t=some (.struct fs)){w:World}{r:Reach}{b:Nat}{v:Value}(hv:Value.okWide P w r b t v)
  {D:Dat} {y:El S u} (h:DR un D w [u] (sg y) v.cells.toList):Rep un [] D w (inj u y) v:=by
 have hs:=hM u t hm;cases u with
 |mp k v=>exact hs.elim|rw u=>exact hs.elim|cs u=>exact hs.elim|int k =>
   obtain ⟨n,rfl⟩:=okWide_int hs hv;have h':DR un D w [.int k] (sg y) [.int k n]:=h;cases h' with
   |int h2=>rfl
 |bool =>
   obtain ⟨n,rfl⟩:=okWide_bool hs hv;have h':DR un D w [.bool] (sg y) [.bool n]:=h;cases h' with
   |bool h2=>rfl
 |str =>
   obtain ⟨n,rfl⟩:=okWide_string hs hv;have h':DR un D w [.str] (sg y) [.string n]:=h;generalize hx:Value.string n=x at h' ⊢;cases h' with
   |str h2=>rfl
 |sl u =>obtain ⟨e,he,_⟩:=hs;obtain ⟨a,l,c,rfl⟩:=okWide_slice he hv;exact h
 |st n =>obtain ⟨fs,hfs⟩:=hst n rfl;obtain ⟨cs,rfl,_⟩:=okWide_struct hfs hv;exact ⟨cs.toList,rfl,h⟩
theorem zoG{M:U->TypeId->Prop}(hM:∀u t,M u t->ztj G P M u t){w:World}{r:Reach}{base b:Nat}{spare:Nat->Bool}{held:Bool} :
  ∀{us:List U}{ts:List TypeId}{vs:List Value}{ds:List (DataW H)}{ps:List MemPlace},zq2 P M us ts->(∀(j:Nat) t v,ts[j]?=some t->vs[j]?=some v->Value.okWide P w r b t v) ->
   DataW.TrodAll enc P w base spare held ts vs ds ps->∃y:ElL S us,Ke un [] (zgb w) w (zbQ us y) vs/\Rd G us y ds
 |[],[],[],[],_,_,_,_=>⟨(),trivial,.nil⟩|u::us,t::ts,v::vs,d::ds,ps,hp,hv,⟨p,q,h1,h2,_⟩=>by obtain ⟨m1,m2,_,_,m3⟩:=hp;obtain ⟨fuel,h1⟩:=h1;obtain ⟨y,y1,y2⟩:=zrO hM fuel u t _ _ h1 m1;obtain ⟨z,z1,z2⟩:=zoG hM (us:=us) m3 (λj t v ht hvj=>hv (j+1) t v (by grind) (by grind)) h2;exact ⟨two y z,⟨zsw hM m1 m2 (hv 0 t v rfl rfl) y1,z1⟩,Rd.one_cons y2 z2⟩
theorem ziD(hl:laidOutB P=true){M:U->TypeId->Prop}{W W':World}(hb:Below W.heap.size W W'){sp:Nat->Bool} :
  ∀{us:List U}{ts:List TypeId}{vs:List Value}{ds:List (DataW H)}{ps:List MemPlace},zq2 P M us ts->DataW.TrodAll enc P W 0 (λ_=>true) true ts vs ds ps->(∀p∈ps,p.block<W.heap.size/\sp p.block=true) ->
   DataW.TrodAll enc P W' 0 sp true ts vs ds ps
 |[],[],[],[],_,_,h,_=>h|u::us,t::ts,v::vs,d::ds,ps,hp,⟨p,q,h1,h2,e⟩,hs=>by
   obtain ⟨_,_,m1,m2,m3⟩:=hp;subst e
   exact ⟨p,q,WideElems.Trod_stays hl m1 m2 h1 (λx hx=>hb.same (hs x (yBP _ hx)).1) (λx hx=>(hs x (yBP _ hx)).2),
    ziD hl hb m3 h2 (λx hx=>hs x (yB5 _ hx)),rfl⟩
theorem zk7{M:U->TypeId->Prop}(hM:∀u t,M u t->ztj G P M u t)(hlo:laidOutB P=true){f:FuncId}{fn:Func}{tb:TypeId}(hb:P.underlying tb=some .bool)
  (hrt:fn.resultTypes= #[tb]) {us:List U} (hps:zq2 P M us fn.params.toList) {s:ChangeSpec} (hv:s.vars=[])
  (hsp:∀ds:List (DataW H),ds.length=us.length->s.fn H ds={ results:=[.lit (.bool true)],args:=ds })
  (W:World) (base:Nat) (args:Array Value) (ds gs:List (DataW H)) (before:List MemPlace)
  (Qt:∀(j:Nat) t v,fn.params[j]?=some t->args[j]?=some v->Value.okWide P W .any base t v)
  (hW:DataW.Whole enc P fn.params.toList s.vars false W args.toList ds gs before)
  (hlaw:∀y:ElL S us,Rd G us y ds->Sat P un f (zbQ us y) [.bool] (true,())) (htab:TabE un W []) :
  Calls P f args W λe W'=>∃v,e= .returned v/\s.post enc P fn false true false false W args v W':=by
 have hW':=hW;obtain ⟨p,q,hA0,hV,rfl,hfz,hnd⟩:=hW;have hA:DataW.TrodAll enc P W 0 (λ_=>true) true fn.params.toList args.toList ds p:=hA0;obtain ⟨y,y1,y2⟩:=zoG hM hps (λj t v ht hvj=>Qt j t v (by simpa using ht) (by simpa using hvj)) hA;have Ku:ds.length=us.length:=by
  clear hA0 hW' hV hlaw Qt hfz hnd;have:∀{us:List U}{y:ElL S us}{ds:List (DataW H)},Rd G us y ds->ds.length=us.length:=by intro us y ds h;induction h<;>simp_all
  exact this y2
 rw[hv] at hV;have hgs:gs=[]/\q=[]:=by
  match gs,hV with
  |[],h=>exact ⟨rfl,h⟩
 obtain ⟨rfl,rfl⟩:=hgs;have Ks:∀x∈p++[],x.block<W.heap.size:=λx hx=>hW'.lt x hx;refine (hlaw y y2 (zgb W) W args.toList htab (λk o h=>h) y1).mono λe W' ⟨v,h1,h2,h3⟩=>?_;have h3':v= .bool true:=h3;subst h1;subst h3';have hfn:s.fn H (ds++[])={ results:=[.lit (.bool true)],args:=ds }:=by rw[yAR];exact hsp ds Ku
 refine ⟨_,rfl,znK (pa:=p) (pv:=[]) hW' (λb sp hd=>?_) (λsp hs=>?_) (λsp _=>?_) rfl h2 (ok_one hrt rfl (okWide_bool_mk hb _))⟩;·rw[hfn,hrt];exact trodAll_cons_mk (shut_bool hb _) trodAll_mk0
 ·rw[hfn];exact ziD hlo h2 hps hA (λx hx=>⟨Ks x (by simpa using hx),hs x (by simpa using hx)⟩)
 ·rw[hfn,hv];rfl
end
end Pe
end
section
set_option linter.unusedVariables false
namespace Pe
open Go Go.RowKit Go.Shelf Go.Proofs
section
variable{P:Program}{ρ:Ren}{w w':World}
theorem BldAt.is{T e:TypeId}{b:Nat}{v:Value}{xs:List Value}(h:BldAt T e b v xs w):∃p A n c,w.heap[b]?=some (.cells #[p,v] T (0,0))/\v= .slice A n c/\(p= .pointer none\/p= .pointer (some ⟨b,0,none⟩))/\Lib.BuilderAt T e 0 b p xs w:=by obtain ⟨⟨p,A,n,c,h1,h2,h3⟩,h4,h5⟩:=h;exact ⟨p,A,n,c,h1,h2,h3,yAA _,v,h1,h4,h5⟩
theorem zAp(L:Lays.n240 P ρ)(X:Builder.X72 P ρ){b:Nat}{v:Value}{xs:List Value}(h:BldAt (ρ.t 72) (ρ.t 5) b v xs w) :
  Calls P (ρ.f 240) #[.pointer (some ⟨b,0,none⟩)] w λe w'=>e= .returned (.tuple #[])/\w'.heap[b]?=some (.cells #[.pointer (some ⟨b,0,none⟩),v] (ρ.t 72) (0,0))/\w.grownBy w' (some b):=by
 obtain ⟨p,A,n,c,h1,h2,h3,h4⟩:=h.is;rcases h3 with rfl|rfl
 ·refine (Any.Builder_copyCheck_fresh L X b w h4.cell0 h4.shape h4.frozen0).mono ?_
  rintro e w' ⟨rfl,rfl⟩
  refine ⟨rfl,by simp[World.setCell,yB1,h1],⟨rfl,rfl,rfl,by simp[World.setCell],λk hk hne=>?_⟩⟩;simp only[World.setCell];rw[yB1,if_neg λh=>hne (by rw[<-h])]
 ·refine (Any.Builder_copyCheck_used L X b w h4.cell0).mono ?_
  simp_all[World.grownBy.refl]
theorem zAc{e:TypeId}{v:Value}{n:Nat}{xs:List Value}{b:Nat}(h:w.ownsRow 0 e 1 v n xs)(hb:v.ownBlock≠some b)(hg:w.grownBy w' (some b)):w'.ownsRow 0 e 1 v n xs:=by
 refine ⟨h.1,?_⟩;rcases h.2 with h1|⟨g,cap,cur,rfl,h2,h3,h4⟩;·exact .inl h1
 ·have hgl:g<w.heap.size:=(yAE.1 h3).1;exact .inr ⟨g,cap,cur,rfl,h2,(hg.block g hgl λh=>hb (by simp[Value.ownBlock,h])).trans h3,h4⟩
theorem zCe(w:World){t u ty e:TypeId}{i:TypeInfo}(ht:P.underlying t=some (.slice e))(hu:P.underlying u=some .string)(hi:P.info? e=some i)(hz:i.zero=some (.int .u8 0))(Qp:i.size=1)(hby:i.bytes=1)
  {v:Value} {n:Nat} {xs:List Value} (K5:w.ownsRow 0 e 1 v n xs) (s:ByteArray) (hb:n+s.size<=4294967296) :
  ∃v' w',(Builtin.append_ #[t,u] ty #[v,.string s]).run P w= .ok v' w'/\w'.ownsRow 0 e 1 v' (n+s.size) (xs++Lib.strCells s)/\w.grownBy w' v.ownBlock/\(∀k,v'.ownBlock=some k->v.ownBlock=some k\/w.heap.size<=k):=by
 have h63:n+s.size<=maxLen:=by unfold maxLen;omega
 have hxl:xs.length=n:=by simpa using K5.1
 have Ku:(xs++Lib.strCells s).length=(n+s.size)*1:=by rw[yAI,hxl,Lib.strCells_length,yBj]
 have fresh:∀(old:Nat),(w.drew.alloc (.cells (xs.toArray++(Lib.strCells s).toArray++Builtin.zeroCells (Value.int .u8 0).cells (grownCap w (n+s.size) old e - (n+s.size))) e)).ownsRow 0 e 1
    (.slice (some ⟨w.heap.size,0,none⟩) (n+s.size) (grownCap w (n+s.size) old e)) (n+s.size) (xs++Lib.strCells s):=λold=>by
  have K2:=grownCap_ge w (n+s.size) old e;refine ⟨Ku,.inr ⟨w.heap.size,_,_,rfl,yAA _,heap_alloc_new w.drew _,K2,grownCap_le_maxLen w (n+s.size) old e h63,?_,?_⟩⟩;·have hz1:(Value.int IntKind.u8 0).cells.size=1:=rfl;simp only[Array.size_append,List.size_toArray,size_zeroCells,hz1,hxl,Lib.strCells_length];omega
  ·simp only[Array.toList_append,yA5];rw[<-yA5,<-Ku];exact yBr
 have kept:∀(cs:Array Value)(row:Option Nat),w.grownBy (w.drew.alloc (.cells cs e)) row:=λcs row=>⟨rfl,rfl,rfl,by simp,λk hk _=>Lib.alloc_old w.drew _ k hk⟩;have new:∀(m c:Nat) k,(Value.slice (some ⟨w.heap.size,0,none⟩) m c).ownBlock=some k->v.ownBlock=some k\/w.heap.size<=k:=λm c k hk=>by simp[Value.ownBlock] at hk;omega
 rcases K5.2 with ⟨rfl,rfl⟩|⟨g,cap,cur,rfl,hbg,hg,hnc,hcm,hcs,htake⟩
 ·have hx:xs=[]:=yBG hxl;subst hx;by_cases hm:s.size=0;·have hn:Lib.strCells s=[]:=yBG (by rw[Lib.strCells_length];exact hm);have hf:=Lib.run_firstCells_string (P:=P) w 1 s;rw[hm] at hf;exact ⟨.slice none 0 0,w,by simp[Builtin.append_,run_underlying ht,run_underlying hu,Go.sizeOf,typeInfo,hi,Qp,Builtin.lenOf,hm,hf],by rw[hm,hn];exact World.ownsRow_nil w 0 e 1,World.grownBy.refl _ _,λk hk=>.inl hk⟩
  ·have hr:=run_append_nil_string (P:=P) w t u ty e i (.int .u8 0) ht hu hi hz s (by omega) (by unfold maxLen at h63;omega) (by rw[hby];omega);have hgr:=fresh 0;simp only[yAJ,yBb,Array.empty_append] at hgr ⊢;have e1:(s.data.map λb=>Value.int .u8 b.toNat)=(Lib.strCells s).toArray:=by
    apply Array.ext';simp[Lib.strCells]
   rw[e1] at hr;exact ⟨_,_,hr,hgr,kept _ _,new _ _⟩
 ·by_cases hroom:n+s.size<=cap
  ·have hr:=Lib.run_append_room_string (P:=P) w t u ty e i ht hu hi Qp g n cap cur hg s hroom (by omega);refine ⟨_,_,hr,⟨Ku,.inr ⟨g,cap,_,rfl,hbg,setRow_heap w g cur _ e _ hg,hroom,hcm,?_,?_⟩⟩,⟨rfl,rfl,rfl,by simp,λk _ hk=>setRow_other w g k _ λe=>hk (by simp[Value.ownBlock,e])⟩,λk hk=>.inl hk⟩;·simp only[List.size_toArray,yAI,yAY,yAL,Array.length_toList,Lib.strCells_length];omega
   ·have ht':cur.toList.take n=xs:=(by simpa using htake);rw[ht',<-Ku];exact yBr
  ·have hr:=Lib.run_append_grow_string (P:=P) w t u ty e i (.int .u8 0) ht hu hi hz ⟨g,0,none⟩ n cap xs (by rw[Qp];simpa using hxl) (K5.cells (g:=g) rfl) s (by omega) (by unfold maxLen at h63;omega) (by rw[hby];exact growslice_fits (by omega) (by omega));exact ⟨_,_,hr,fresh cap,kept _ _,new _ _⟩
theorem zCt{ops:Array Oper}{rest:List Oper}{o:Oper}{a:Act}{Q:Exit->Act->World->Prop}(hgd:o.guard=none)(sl x:Operand)(t u:TypeId)(ho:o.op= .call { callee:= .builtin .append,args:= #[sl,x],argTypes:= #[t,u] })
  (e:TypeId) (i:TypeInfo) (ht:P.underlying t=some (.slice e)) (hu:P.underlying u=some .string) (hi:P.info? e=some i) (hz:i.zero=some (.int .u8 0)) (Qp:i.size=1) (hby:i.bytes=1)
  {v:Value} {n:Nat} {xs:List Value} (hs:a.eval sl=v) (K5:w.ownsRow 0 e 1 v n xs) (s:ByteArray) (hx:a.eval x= .string s) (hb:n+s.size<=4294967296)
  (h:∀v' w',w'.ownsRow 0 e 1 v' (n+s.size) (xs++Lib.strCells s)->w.grownBy w' v.ownBlock->(∀k,v'.ownBlock=some k->v.ownBlock=some k\/w.heap.size<=k)->wpList P ops Q rest (a.put o.dst v') w'):wpList P ops Q (o::rest) a w:=by
 refine wpList_plain hgd λK hK=>?_;obtain ⟨v',w',hr,h2,h3,h4⟩:=zCe (P:=P) w (ty:=o.type) ht hu hi hz Qp hby K5 s hb;unfold Oper.wp execOp;simp only[ho,resolve,invoke,builtin,Sem.run_bind,Sem.run_pure,Result.andThen_ok,List.map_toArray,yAn,List.map_nil,hs,hx,hr];exact hK _ _ (h v' w' h2 h3 h4)
theorem zAq{ops:Array Oper}{rest:List Oper}{o:Oper}{a:Act}{Q:Exit->Act->World->Prop}(hgd:o.guard=none)(sl x:Operand)(t:TypeId)(ho:o.op= .call { callee:= .builtin .append,args:= #[sl,x],argTypes:= #[t,t] })
  (e:TypeId) (i:TypeInfo) (z:Value) (ht:P.underlying t=some (.slice e)) (hi:P.info? e=some i) (hz:i.zero=some z) (Qp:i.size=1) (hby:i.bytes=1) (hzs:z.cells.size=1)
  {v:Value} {n:Nat} {xs:List Value} (hs:a.eval sl=v) (K5:w.ownsRow 0 e 1 v n xs) (ad:Addr) (m c:Nat) (news:List Value) (hx:a.eval x= .slice (some ad) m c) (hl:news.length=m*1) (hnews:∀j u,news[j]?=some u->w.cell? (ad.add j)=some u) (h1:∀u∈news,u.oneCell'=true) (hb:n+m<=4294967296)
  (h:∀v' w',w'.ownsRow 0 e 1 v' (n+m) (xs++news)->w.grownBy w' v.ownBlock->(∀k,v'.ownBlock=some k->v.ownBlock=some k\/w.heap.size<=k)->wpList P ops Q rest (a.put o.dst v') w'):wpList P ops Q (o::rest) a w:=by
 refine wpList_plain hgd λK hK=>?_;obtain ⟨v',w',hr,h2,h3,_,h4⟩:=run_append_own_at (P:=P) w 0 t o.type e i z 1 1 ht hi hz Qp hby hzs (by decide) v n xs K5 ad m c news hl hnews h1 (by grind[maxLen]) (by omega) (yAA _);unfold Oper.wp execOp;simp only[ho,resolve,invoke,builtin,Sem.run_bind,Sem.run_pure,Result.andThen_ok,List.map_toArray,yAn,List.map_nil,hs,hx,hr];refine hK _ _ (h v' w' h2 h3 λk hk=>?_);rcases h4 with h4|h4;·grind
 simp_all
theorem zzG{b:Nat}{v v':Value}{ys:List Value}{w1 w2:World}(h1:w1.heap[b]?=some (.cells #[.pointer (some ⟨b,0,none⟩),v] (ρ.t 72) (0,0)))(hg1:w.grownBy w1 (some b))(hn:ρ.t 72≠ρ.t 5)(hne:v.ownBlock≠some b)
  (K5:w2.ownsRow 0 (ρ.t 5) 1 v' ys.length ys) (hg2:∀k,k<w1.heap.size->v.ownBlock≠some k->w2.heap[k]?=w1.heap[k]?) (hos:w2.os=w1.os/\w2.tape=w1.tape/\w2.output=w1.output/\w1.heap.size<=w2.heap.size) (Ql:∀k,v'.ownBlock=some k->v.ownBlock=some k\/w1.heap.size<=k) {A:Option Addr} {n c:Nat} (hv':v'= .slice A n c) :
  zpP (ρ.t 72) (ρ.t 5) b v ys w (w2.setCell ⟨b,1,none⟩ v'):=by
 have hbl:b<w1.heap.size:=(yAE.1 h1).1;have hb2:w2.heap[b]?=some (.cells #[.pointer (some ⟨b,0,none⟩),v] (ρ.t 72) (0,0)):=(hg2 b hbl hne).trans h1;have hput:=Lib.BuilderAt.put (T:=ρ.t 72) (e:=ρ.t 5) (B:=0) (yAA _) hb2 K5 hn;obtain ⟨_,v2,k1,k2,k3⟩:=hput;have k0:(w2.setCell ⟨b,1,none⟩ v').heap[b]?=some (.cells #[.pointer (some ⟨b,0,none⟩),v'] (ρ.t 72) (0,0)):=by simp[World.setCell,yB1,hb2]
 rw[k0] at k1;simp at k1;subst k1;refine ⟨v',⟨⟨_,A,n,c,k0,hv',.inr rfl⟩,k2,k3⟩,λk hk=>(Ql k hk).imp id λh=>yAo hg1.size h,⟨?_,?_,?_,?_,λk hk hkb hkv=>?_⟩⟩;·exact hos.1.trans hg1.os
 ·exact hos.2.1.trans hg1.tape
 ·exact hos.2.2.1.trans hg1.output
 ·simp only[World.setCell,Array.size_modify];exact yAo hg1.size hos.2.2.2
 ·have e1:(w2.setCell ⟨b,1,none⟩ v').heap[k]?=w2.heap[k]? :=by
   simp only[World.setCell];rw[yB1,if_neg λh=>hkb h.symm]
  rw[e1,hg2 k (yAq hk hg1.size) hkv,hg1.block k hk λh=>hkb (by simpa using h)]
set_option maxHeartbeats 2000000 in
set_option maxRecDepth 100000 in
theorem bld_WriteByte(L:Lays.n167 P ρ)(X:Builder.Extra P ρ):BldOk P (ρ.f 167) 0 (ρ.t 72) (ρ.t 5):=by
 intro b v xs w h c Ku;obtain ⟨i0,hi,hz0,hz1,hz2⟩:=info_parts X.infoByte;have mixed:=L.mixed;have t72:=L.t72;have a72:=L.a72;have z72:=L.z72;have v72:=L.v72;have u72:=run_underlying L.t72;have t70:=L.t70;have a70:=L.a70;have z70:=L.z70;have v70:=L.v70;have u70:=run_underlying L.t70;have t5:=L.t5;have a5:=L.a5;have z5:=L.z5;have v5:=L.v5;have u5:=run_underlying L.t5;have t37:=L.t37;have a37:=L.a37;have z37:=L.z37;have v37:=L.v37;have u37:=run_underlying L.t37;have t9:=L.t9;have a9:=L.a9;have z9:=L.z9;have v9:=L.v9;have u9:=run_underlying L.t9;have t4:=L.t4;have a4:=L.a4;have z4:=L.z4;have v4:=L.v4;have u4:=run_underlying L.t4;have t164:=L.t164;have a164:=L.a164;have z164:=L.z164;have v164:=L.v164;have u164:=run_underlying L.t164;have e240:∀args w,(callFunc (ρ.f 240) args).run P w= .ok (.enter (ρ.f 240) args) w:=enters_of L.f240 (by kernel_rfl) rfl;have hck:=zAp (P:=P) (ρ:=ρ) { L with } X.toX72 h;obtain ⟨_,hown0,hne⟩:=h
 go_enter L.f167,Body.n167_ntmps ρ
 go_wp2_with (go_at_fn (ρ.f 240);refine hck.mono ?_)
 rintro e w1 ⟨rfl,hbk,hg1⟩
 have K5:=zAc hown0 hne hg1;have c0:w1.cell? ⟨b,0,none⟩=some (.pointer (some ⟨b,0,none⟩)):=by rw[Lib.cell_of_heap hbk];rfl
 have c1:w1.cell? ⟨b,1,none⟩=some v:=by rw[Lib.cell_of_heap hbk];rfl
 go_wp2_with (at_builtin;refine zAq rfl _ _ (ρ.t 37) rfl (ρ.t 5) i0 (.int .u8 0) L.t37 hi hz0 hz1 hz2 rfl rfl (K5.alloc _) ⟨w1.heap.size,0,none⟩ 1 1 [.int .u8 c] rfl rfl ?c1 ?c2 ?c4 ?_)
 case c1 =>
  intro j u hj
  match j,hj with
  |0,hj=>simp at hj;subst hj;simp[Addr.add]
 case c2=>intro u hu;simp at hu;subst hu;rfl
 case c4=>unfold lim at Ku;omega
 intro v' w2 hown' hgrow Ql;have Ks:b<w1.heap.size:=(yAE.1 hbk).1;have hb2:w2.heap[b]?=some (.cells #[.pointer (some ⟨b,0,none⟩),v] (ρ.t 72) (0,0)):=by rw[hgrow.block b (by simp;omega) (λe=>hne e.symm),Lib.alloc_old w1 _ b Ks];exact hbk
 have d0:w2.cell? ⟨b,0,none⟩=some (.pointer (some ⟨b,0,none⟩)):=by rw[Lib.cell_of_heap hb2];rfl
 have d1:w2.cell? ⟨b,1,none⟩=some v:=by rw[Lib.cell_of_heap hb2];rfl
 have f1:w2.frozen? ⟨b,1,none⟩=false:=Lib.frozen_of_heap hb2 1;obtain ⟨g,cap,rfl⟩:∃g cap,v'= .slice (some ⟨g,0,none⟩) (xs.length+1) cap:=by
  rcases hown'.2 with ⟨_,h0⟩|⟨g,cap,cur,hv,_⟩;·omega
  ·exact ⟨g,cap,hv⟩
 go_wp2
 go_ret
 refine ⟨rfl,zzG hbk hg1 X.neB5 hne (ys:=xs++[.int .u8 c]) (by simpa using hown') (λk hk hkv=>?_) ⟨hgrow.os,hgrow.tape,hgrow.output,?_⟩ (λk hk=>?_) rfl⟩;·rw[hgrow.block k (by simp;omega) (λe=>hkv e.symm),Lib.alloc_old w1 _ k hk]
 ·have:=hgrow.size;simp at this;omega
 ·rcases Ql k hk with h|h;·exact .inl h
  ·exact .inr (yAo (Nat.le_succ w1.heap.size) h)
set_option maxHeartbeats 2000000 in
set_option maxRecDepth 100000 in
theorem bld_WriteString(L:Lays.n166 P ρ)(X:Builder.Extra P ρ):BldOk P (ρ.f 166) 1 (ρ.t 72) (ρ.t 5):=by
 intro b v xs w h s Ku;obtain ⟨i0,hi,hz0,hz1,hz2⟩:=info_parts X.infoByte;have mixed:=L.mixed;have t72:=L.t72;have a72:=L.a72;have z72:=L.z72;have v72:=L.v72;have u72:=run_underlying L.t72;have t70:=L.t70;have a70:=L.a70;have z70:=L.z70;have v70:=L.v70;have u70:=run_underlying L.t70;have t37:=L.t37;have a37:=L.a37;have z37:=L.z37;have v37:=L.v37;have u37:=run_underlying L.t37;have t3:=L.t3;have a3:=L.a3;have z3:=L.z3;have v3:=L.v3;have u3:=run_underlying L.t3;have t9:=L.t9;have a9:=L.a9;have z9:=L.z9;have v9:=L.v9;have u9:=run_underlying L.t9;have t4:=L.t4;have a4:=L.a4;have z4:=L.z4;have v4:=L.v4;have u4:=run_underlying L.t4;have t164:=L.t164;have a164:=L.a164;have z164:=L.z164;have v164:=L.v164;have u164:=run_underlying L.t164;have t5:=X.t5;have a5:=X.a5;have z5:=X.z5;have v5:=X.v5;have u5:=run_underlying X.t5;have e240:∀args w,(callFunc (ρ.f 240) args).run P w= .ok (.enter (ρ.f 240) args) w:=enters_of L.f240 (by kernel_rfl) rfl;have hsz:(ByteArray.mk s.toArray).size=s.length:=by simp[ByteArray.size]
 have hck:=zAp (P:=P) (ρ:=ρ) { L with } X.toX72 h;obtain ⟨_,hown0,hne⟩:=h
 go_enter L.f166,Body.n166_ntmps ρ
 go_wp2_with (go_at_fn (ρ.f 240);refine hck.mono ?_)
 rintro e w1 ⟨rfl,hbk,hg1⟩
 have K5:=zAc hown0 hne hg1;have c0:w1.cell? ⟨b,0,none⟩=some (.pointer (some ⟨b,0,none⟩)):=by rw[Lib.cell_of_heap hbk];rfl
 have c1:w1.cell? ⟨b,1,none⟩=some v:=by rw[Lib.cell_of_heap hbk];rfl
 go_wp2_with (at_builtin;refine zCt rfl _ _ (ρ.t 37) (ρ.t 9) rfl (ρ.t 5) i0 L.t37 L.t9 hi hz0 hz1 hz2 rfl K5 ⟨s.toArray⟩ rfl ?c4 ?_)
 case c4=>rw[hsz];unfold lim at Ku;exact Ku
 intro v' w2 hown' hgrow Ql;have Ks:b<w1.heap.size:=(yAE.1 hbk).1;have hb2:w2.heap[b]?=some (.cells #[.pointer (some ⟨b,0,none⟩),v] (ρ.t 72) (0,0)):=by rw[hgrow.block b Ks λe=>hne e.symm];exact hbk
 have d0:w2.cell? ⟨b,0,none⟩=some (.pointer (some ⟨b,0,none⟩)):=by rw[Lib.cell_of_heap hb2];rfl
 have d1:w2.cell? ⟨b,1,none⟩=some v:=by rw[Lib.cell_of_heap hb2];rfl
 have f1:w2.frozen? ⟨b,1,none⟩=false:=Lib.frozen_of_heap hb2 1;obtain ⟨ao,n',cap,rfl⟩:∃ao n' cap,v'= .slice ao n' cap:=by
  rcases hown'.2 with ⟨hv,_⟩|⟨g,cap,cur,hv,_⟩;·exact ⟨_,_,_,hv⟩
  ·exact ⟨_,_,_,hv⟩
 have Qj:(zaT s).map (Value.int .u8)=Lib.strCells ⟨s.toArray⟩:=by simp[zaT,Lib.strCells]
 go_wp2
 go_ret2
 refine ⟨by simp only;rfl,?_⟩;rw[Qj];refine zzG hbk hg1 X.neB5 hne (ys:=xs++Lib.strCells ⟨s.toArray⟩) (by rw[yAI,Lib.strCells_length];exact hown') (λk hk hkv=>?_) ⟨hgrow.os,hgrow.tape,hgrow.output,hgrow.size⟩ (λk hk=>Ql k hk) rfl;rw[hgrow.block k hk λe=>hkv e.symm]
theorem zzE(s:By):(zaT s).map (Value.int .u8)=Lib.byteCells s:=by simp[zaT,Lib.byteCells]
set_option maxHeartbeats 1000000 in
set_option maxRecDepth 100000 in
theorem bld_String(L:Lays.n169 P ρ)(X:Builder.Extra P ρ):BldOk P (ρ.f 169) 2 (ρ.t 72) (ρ.t 5):=by
 intro b v xs w h l hxs;rw[zzE] at hxs;subst hxs;obtain ⟨p,A,n,c,hbk,hv,_,h4⟩:=h.is;obtain ⟨_,K5,hne⟩:=h;have low:∀w',Below w.heap.size w w'->w.grownBy w' v.ownBlock:=λw' hb=>⟨hb.os,hb.tape,hb.output,hb.size,λk hk _=>hb.block k hk⟩;cases l with
 |nil =>
   rcases K5.2 with ⟨rfl,_⟩|⟨g,cap,cur,rfl,hbg,hg,_,_,_,_⟩;·exact (Any.Builder_String_nil L X w.heap.size b p w hbk).mono λe w' ⟨h1,h2⟩=>⟨h1,low w' h2⟩
   ·by_cases hc0:cap=0;·subst hc0;exact (Any.Builder_String_noroom L X w.heap.size b g p cur w (yAi _) hbk hg).mono λe w' ⟨h1,h2⟩=>⟨h1,low w' h2⟩
    ·exact (Any.Builder_String_room L X w.heap.size b g cap p w hc0 hbk).mono λe w' ⟨h1,h2⟩=>⟨h1,low w' h2⟩
 |cons x0 r0 =>
   have h0:x0::r0≠[]:=(by simp);generalize hl:x0::r0=l at *
   have hl0:l.length≠0:=(by simpa using h0);rw[Lib.byteCells_length] at K5;obtain ⟨g,cap,cur,rfl,hbg,hg,hnc,hcm,hcs,htake⟩:∃g cap cur,v= .slice (some ⟨g,0,none⟩) l.length cap/\0<=g/\w.heap[g]?=some (.cells cur (ρ.t 5) (0,0))/\l.length<=cap/\cap<=maxLen/\cur.size=cap*1/\cur.toList.take (l.length*1)=Lib.byteCells l:=by
    rcases K5.2 with ⟨_,hz⟩|⟨g,cap,cur,hv,r⟩;·exact absurd hz hl0
    ·exact ⟨g,cap,cur,hv,r⟩
   have c1:w.drew.cell? ⟨b,1,none⟩=some (.slice (some ⟨g,0,none⟩) l.length cap):=(by have:w.drew.heap[b]?=some (.cells #[p,.slice (some ⟨g,0,none⟩) l.length cap] (ρ.t 72) (0,0)):=hbk;rw[Lib.cell_of_heap this];rfl)
   have hSD:(Builtin.unsafeSliceData_ #[ρ.t 37] (ρ.t 127) #[.slice (some ⟨g,0,none⟩) l.length cap]).run P w.drew= .ok (.pointer (some ⟨g,0,none⟩)) w.drew :=
    Lib.run_unsafeSliceData_row _ _ _ _ _ _ (by omega)
   have hUS:(Builtin.unsafeString_ #[ρ.t 127,ρ.t 3] (ρ.t 9) #[.pointer (some ⟨g,0,none⟩),.int .i64 l.length]).run P w.drew= .ok (.string ⟨l.toArray⟩) (w.drew.freeze ⟨g,0,none⟩ l.length):=(by refine Lib.run_unsafeString_row w.drew (ρ.t 127) (ρ.t 3) (ρ.t 9) (ρ.t 5) L.t127 X.cellsByte g cur.size (by have hg':w.drew.heap[g]?=some (.cells cur (ρ.t 5) (0,0)):=hg;simp[World.shape?,hg']) l h0 (by omega) (by unfold maxLen at hcm;omega) ?_;intro j x hx;have:=K5.cells (g:=g) rfl j (.int .u8 x.toNat) (by simp[Lib.byteCells,hx]);exact this);have hend:w.grownBy (w.drew.freeze ⟨g,0,none⟩ l.length) (Value.ownBlock (.slice (some ⟨g,0,none⟩) l.length cap)):=by
    refine ⟨?_,?_,?_,?_,λk hk hne=>?_⟩;·unfold World.freeze;split<;>rfl
    ·unfold World.freeze;split<;>rfl
    ·unfold World.freeze;split<;>rfl
    ·unfold World.freeze;split;·exact yAi _
     ·show w.heap.size<=(w.heap.modify g _).size;rw[Array.size_modify];exact yAi _
    ·unfold World.freeze;split;·rfl
     ·show (w.heap.modify g _)[k]?=_;rw[yB1,if_neg (λh=>hne (by rw[<-h];rfl))]
   clear hl;have mixed:=L.mixed;have t72:=L.t72;have a72:=L.a72;have z72:=L.z72;have v72:=L.v72;have u72:=run_underlying L.t72;have t70:=L.t70;have a70:=L.a70;have z70:=L.z70;have v70:=L.v70;have u70:=run_underlying L.t70;have t37:=L.t37;have a37:=L.a37;have z37:=L.z37;have v37:=L.v37;have u37:=run_underlying L.t37;have t127:=L.t127;have a127:=L.a127;have z127:=L.z127;have v127:=L.v127;have u127:=run_underlying L.t127;have t3:=L.t3;have a3:=L.a3;have z3:=L.z3;have v3:=L.v3;have u3:=run_underlying L.t3;have t9:=L.t9;have a9:=L.a9;have z9:=L.z9;have v9:=L.v9;have u9:=run_underlying L.t9;have t5:=X.t5;have a5:=X.a5;have z5:=X.z5;have v5:=X.v5;have u5:=run_underlying X.t5
   go_enter L.f169,Body.n169_ntmps ρ
   go_wp2
   go_region_o
   all_goals (go_wp2;go_ret;exact ⟨rfl,hend⟩)
end
end Pe
end
section
set_option maxRecDepth 100000
namespace Pe
open Go
theorem zaa{α β:Type}(a:α)(f:α->Option β):ob (some a) f=f a:=rfl
theorem zaA{α β R:Type}(a:α)(f:α->Option R)(g:β->Option R):oc (some (.inl a)) f g=f a:=rfl
theorem zbf{α β R:Type}(b:β)(f:α->Option R)(g:β->Option R):oc (some (.inr b)) f g=g b:=rfl
theorem zaj{σ R:Type}(t:σ)(f:σ->Option R):zaE (some (.inl t)) f=f t:=rfl
theorem zaU{σ R:Type}(r:R)(f:σ->Option R):zaE (some (.inr r)) f=some r:=rfl
theorem zac{α:Type}(x y:Option α):br true x y=x:=rfl
theorem zab{α:Type}(x y:Option α):br false x y=y:=rfl
theorem zfq{α:Type}(b:Bool)(x y:Option α):br b x y=if b=true then x else y:=by cases b<;>rfl
theorem zai{α:Type}(b:Bool)(x y:α):br b (some x) (some y)=some (bif b then x else y):=by cases b<;>rfl
theorem zbS(b x:Bool):(bif b then true else x)=(b||x):=by cases b<;>rfl
theorem zcw(b x:Bool):(bif b then x else false)=(b&&x):=by cases b<;>rfl
theorem zaH{n:Int}(h1: -9223372036854775808<=n)(h2:n<=9223372036854775807):Go.IntKind.i64.wrap n=n:=by grind[IntKind.wrap,IntKind.bits,IntKind.signed]
theorem zcV{α:Type}(l:List α)(k:Nat):at? l (k:Int)=l[k]? :=rfl
theorem zan{α:Type}{l:List α}{k:Nat}(h:k<l.length):at? l (k:Int)=some l[k]:=by grind[zcV]
theorem zhM{α:Type}{l:List α}{i j:Nat}(h1:i<=j)(h2:j<=l.length):zhN l (i:Int) (j:Int)=some ((l.drop i).take (j - i)):=by
 show (bif Nat.ble i j&&Nat.ble j l.length then some ((l.drop i).take (j - i)) else none)=_;have:(Nat.ble i j&&Nat.ble j l.length)=true:=by simp[yAK,h1,h2]
 rw[this];rfl
theorem zbc{α:Type}{l r:List α}(h:l.length+r.length<=lim):zdJ l r=some (l++r):=by
 unfold zdJ;have:Nat.ble (l.length+r.length) lim=true:=by simp_all
 rw[this];rfl
theorem zao{α:Type}{l:List α}{k:Nat}:((k:Int)<len l)=(k<l.length):=by simp[len]
theorem zby{σ A R:Type}{f:σ->Option (σ⊕R)}(mk:Nat->A->σ)(n:Nat)(g:Nat->A->R)(I:Nat->A->Prop)
  (h:∀k a,k<=n->I k a->(∃a',k<n/\f (mk k a)=some (.inl (mk (k+1) a'))/\I (k+1) a'/\g (k+1) a'=g k a)\/f (mk k a)=some (.inr (g k a))) :
  ∀k a,k<=n->I k a->zak f (mk k a)=some (g k a):=by
 have key:∀d k a,n - k<=d->k<=n->I k a->zak f (mk k a)=some (g k a):=by
  intro d;induction d with
  |zero =>
    grind[zaD]
  |succ d ih =>
    grind[zaR,zaD]
 exact λk a hk hI=>key _ k a (yAi _) hk hI
theorem zhY{R:Type}{f:Int×J->Option ((Int×J)⊕R)}(n:Nat)(g:Nat->R)
  (h:∀k,k<=n->(k<n/\f ((k:Int),())=some (.inl (((k+1:Nat):Int),()))/\g (k+1)=g k)\/f ((k:Int),())=some (.inr (g k))) :
  ∀k,k<=n->zak f ((k:Int),())=some (g k):=λk hk =>
 zby (A:=J) (λk _=>((k:Int),())) n (λk _=>g k) (λ_ _=>True) (λk _ hk _=>by
  simp_all) k () hk trivial
theorem zaf{k n:Nat}(h:k<n)(hn:n<=9223372036854775807):Go.IntKind.i64.wrap ((k:Int)+1)=((k+1:Nat):Int):=by grind[zaH]
def ff(F:Nat->Int):Nat->Int|0=>0|n+1=>if ff F n≠0 then ff F n else F n
theorem zj2{F:Nat->Int}{k:Nat}(h:ff F k≠0):∀d,ff F (k+d)=ff F k|0=>rfl|d+1=>by show (if ff F (k+d)≠0 then ff F (k+d) else F (k+d))=_;rw[zj2 h d,if_pos h]
theorem zsU{F:Nat->Int}{n:Nat}(h:ff F n=0){k:Nat}(hk:k<=n):ff F k=0:=by
 grind[zj2,Nat.add_sub_cancel']
theorem zsV{F:Nat->Int}{n:Nat}(h:ff F n=0){k:Nat}(hk:k<n):F k=0:=by have h1:=zsU h (Nat.succ_le_of_lt hk);have h2:=zsU h (yBf hk);grind[ff]
theorem zm7{F:Nat->Int}{n k:Nat}(hk:k<n)(h:ff F k=0)(h1:F k≠0):ff F n=F k:=by
 have h2:ff F (k+1)=F k:=by simp[ff,h]
 have:=zj2 (F:=F) (k:=k+1) (by grind) (n - (k+1));grind
theorem zoW{σ A R:Type}{f:σ->Option (σ⊕R)}(mk:Nat->A->σ)(n:Nat)(F:Nat->Int)(out:Int->R)(fin:R)(I:Nat->A->Prop)
  (h:∀k a,k<n->I k a->ff F k=0->(F k≠0/\f (mk k a)=some (.inr (out (F k))))\/(F k=0/\∃a',I (k+1) a'/\f (mk k a)=some (.inl (mk (k+1) a'))))
  (he:∀a,I n a->f (mk n a)=some (.inr fin)) (a0:A) (h0:I 0 a0):zak f (mk 0 a0)=some (if ff F n≠0 then out (ff F n) else fin):=by
 refine zby mk n (λ_ _=>if ff F n≠0 then out (ff F n) else fin) (λk a=>I k a/\ff F k=0) (λk a hk hI=>?_) 0 a0 (yAA _) ⟨h0,rfl⟩;by_cases Ks:k<n
 ·rcases h k a Ks hI.1 hI.2 with ⟨h1,h2⟩|⟨h1,a',h2,h3⟩;·right;rw[zm7 Ks hI.2 h1,if_pos h1,h2]
  ·left;exact ⟨a',Ks,h3,⟨h2,by simp[ff,hI.2,h1]⟩,rfl⟩
 ·right;obtain rfl:k=n:=by omega
  rw[he a hI.1,if_neg (by simp[hI.2])]
def ffS{σ R:Type}(out:Int->R)(nxt:σ)(c:Int):Option (σ⊕R):=if c≠0 then some (.inr (out c)) else some (.inl nxt)
theorem zb9{R:Type}{f:Int×J->Option ((Int×J)⊕R)}(n:Nat)(F:Nat->Int)(out:Int->R)(fin:R)
  (h:∀k,k<n->ff F k=0->f ((k:Int),())=ffS out (((k+1:Nat):Int),()) (F k))
  (he:f ((n:Int),())=some (.inr fin)):zak f ((0:Int),())=some (if ff F n≠0 then out (ff F n) else fin):=by
 refine zoW (A:=J) (λk _=>((k:Int),())) n F out fin (λ_ _=>True) (λk _ hk _ hz=>?_) (λ_ _=>he) () trivial;rw[h k hk hz];unfold ffS;by_cases h0:F k≠0;·simp_all
 simp_all
theorem zhT{K V:Type}{eq:K->K->Bool}(he:∀a b,eq a b=true↔a=b)(x y:K)(v z:V):∀m:List (K×V),zdh eq y z (zgw eq x v m)=bif eq y x then v else zdh eq y z m
 |[]=>rfl|(k,w)::r=>by
   simp only[zgw];cases hk:eq x k with
   |true =>have:=(he _ _).1 hk;subst this;simp only[cond_true,zdh];grind
   |false =>
     simp only[cond_false,zdh];rw[zhT he x y v z r];cases hy:eq y k with
     |false=>rfl|true =>
       have:=(he _ _).1 hy;subst this;have:eq y x=false:=by
        cases h:eq y x with
        |false=>rfl|true=>have:=(he _ _).1 h;grind
       simp[this]
theorem zqL{σ R:Type}{out:Int->R}{nxt:σ}:ffS out nxt 0=some (.inl nxt):=rfl
theorem zdK{σ R:Type}{out:Int->R}{nxt:σ}{b:Bool}{F':Int}{X:Option (σ⊕R)}(c:Int)(hc:c≠0)(hX:b=false->X=ffS out nxt F'):br b (some (.inr (out c))) X=ffS out nxt (bif b then c else F'):=by
 grind[zac,ffS,zab]
theorem zwn{σ R:Type}{out:Int->R}{nxt:σ}{a:Int}:br (a != 0) (some (.inr (out a))) (some (.inl nxt))=ffS out nxt a:=by
 unfold ffS;by_cases h:a=0;·simp[h,zab]
 ·have:(a != 0)=true:=by simpa using h
  rw[this,zac,if_pos h]
theorem zei{α R:Type}{f:Int×J->Option ((Int×J)⊕R)}(l:List α)(p:α->Bool)(out:Nat->R)(fin:R)
  (h:∀k (hk:k<l.length),f ((k:Int),())=if p l[k]=true then some (.inr (out k)) else some (.inl (((k+1:Nat):Int),())))
  (he:f ((l.length:Int),())=some (.inr fin)):zak f ((0:Int),())=some (match l.findIdx? p with|some k=>out k|none=>fin):=by
 refine zby (A:=J) (λk _=>((k:Int),())) l.length (λ_ _=>match l.findIdx? p with|some k=>out k|none=>fin) (λk _=>∀j (hj:j<l.length),j<k->p l[j]=false) (λk _ hk hI=>?_) 0 () (yAA _) (λj _ hj=>by omega);by_cases Ks:k<l.length
 ·rw[h k Ks];by_cases hp:p l[k]=true
  ·right;have:l.findIdx? p=some k:=by
    simp_all[yBv]
   simp_all
  ·left;refine ⟨(),Ks,by rw[if_neg hp],λj hj hjk=>?_,rfl⟩;grind
 ·right;obtain rfl:k=l.length:=by omega
  have:l.findIdx? p=none:=by rw[yBA];intro x hx;obtain ⟨j,hj,rfl⟩:=yBH hx;grind
  rw[he,this]
theorem zeF{α β R:Type}{f:List β×Int×J->Option ((List β×Int×J)⊕R)}(l:List α)(g:α->Option β)(out:List β->R)
  (h:∀k (hk:k<l.length) (a:List β),a.length<=k->f (a,(k:Int),())=match g l[k] with|some y=>some (.inl (a++[y],((k+1:Nat):Int),()))|none=>some (.inl (a,((k+1:Nat):Int),())))
  (he:∀a,f (a,(l.length:Int),())=some (.inr (out a))):zak f ([],(0:Int),())=some (out (l.filterMap g)):=by
 have:=zby (A:=List β) (f:=f) (λk a=>(a,(k:Int),())) l.length (λk a=>out (a++(l.drop k).filterMap g)) (λk a=>a.length<=k) (λk a hk hI=>?_) 0 [] (yAA _) (yAi _);·grind
 ·by_cases Ks:k<l.length
  ·left;rw[h k Ks a hI];rw[yAV Ks,yAC];cases hg:g l[k] with
   |some y=>simp_all|none=>exact ⟨a,Ks,rfl,by omega,rfl⟩
  ·right;obtain rfl:k=l.length:=by omega
   simp_all
theorem zcK{α A R:Type}{σ:Type}{f:σ->Option (σ⊕R)}(mk:Nat->A->σ)(l:List α)(g:A->α->A)(out:A->R)(I:Nat->A->Prop)
  (h:∀k (hk:k<l.length) (a:A),I k a->f (mk k a)=some (.inl (mk (k+1) (g a l[k])))/\I (k+1) (g a l[k]))
  (he:∀a,I l.length a->f (mk l.length a)=some (.inr (out a))) (a0:A) (h0:I 0 a0):zak f (mk 0 a0)=some (out (l.foldl g a0)):=by
 have:=zby (A:=A) (f:=f) mk l.length (λk a=>out ((l.drop k).foldl g a)) I (λk a hk hI=>?_) 0 a0 (yAA _) h0;·grind
 ·by_cases Ks:k<l.length;·left;obtain ⟨h1,h2⟩:=h k Ks a hI;exact ⟨_,Ks,h1,h2,by rw[yAV Ks];rfl⟩
  grind
theorem zaY{R:Type}{f:Int×J->Option ((Int×J)⊕R)}(n:Nat)(p:Nat->Bool)(yes no:R)
  (h:∀k,k<n->f ((k:Int),())=if p k=true then some (.inr yes) else some (.inl (((k+1:Nat):Int),())))
  (he:f ((n:Int),())=some (.inr no)):zak f ((0:Int),())=some (bif (List.range n).any p then yes else no):=by
 have:=zei (f:=f) (List.range n) p (λ_=>yes) no (λk hk=>by
  grind) (by grind)
 rw[this];cases hf:(List.range n).findIdx? p with
 |some k =>
   have:(List.range n).any p=true:=by rw[yBv] at hf;obtain ⟨h1,h2,_⟩:=hf;exact yBd.2 ⟨_,yAy h1,h2⟩
   rw[this];rfl
 |none =>
   grind
end Pe
end
