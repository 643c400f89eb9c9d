/- PROVED HERE: a part of the seat's proofs; see the text that holds the claim's theorem. -/
import Derived.Test.YtojfjgjdheiffaaGreatDoorNm
import Derived.WalkSpells
import Derived.WalkLawsBesides
import Derived.Deep.MidRow
import Derived.Deep.Quiet
section
namespace Pe
open Go
inductive U where
 |int (k:IntKind)
 |bool
 |str
 |sl (u:U)
 |st (n:Nat)
 |mp (k v:U)
 |rw (u:U)
 |cs (u:U)
abbrev I6:U:=.int .i64
abbrev LI:U:=.sl I6
abbrev LS:U:=.sl .str
def El(S:Nat->Type):U->Type| .int _=>Int| .bool=>Bool| .str=>By| .sl u=>List (El S u)| .st n=>S n| .mp k v=>List (El S k×El S v)| .rw u=>List (El S u)| .cs u=>List (El S u)
def ElL(S:Nat->Type):List U->Type|[]=>J|u::r=>El S u×ElL S r
def zi0:(a b:IntKind)->Option (PLift (a=b))| .i8,.i8=>some ⟨rfl⟩ | .i16,.i16=>some ⟨rfl⟩ | .i32,.i32=>some ⟨rfl⟩ | .i64,.i64=>some ⟨rfl⟩| .u8,.u8=>some ⟨rfl⟩ | .u16,.u16=>some ⟨rfl⟩ | .u32,.u32=>some ⟨rfl⟩ | .u64,.u64=>some ⟨rfl⟩|_,_=>none
def zfL(a b:Nat):Option (PLift (a=b)):=if h:a=b then some ⟨h⟩ else none
def U.eq? :(a b:U)->Option (PLift (a=b))
 | .int k,.int k'=>match zi0 k k' with|some ⟨h⟩=>some ⟨by rw[h]⟩|none=>none
 | .bool,.bool=>some ⟨rfl⟩| .str,.str=>some ⟨rfl⟩| .sl u,.sl v=>match U.eq? u v with|some ⟨h⟩=>some ⟨by rw[h]⟩|none=>none
 | .st n,.st m=>match zfL n m with|some ⟨h⟩=>some ⟨by rw[h]⟩|none=>none
 | .mp k v,.mp k' v'=>match U.eq? k k' with|some ⟨h⟩=>(match U.eq? v v' with|some ⟨h'⟩=>some ⟨by rw[h,h']⟩|none=>none)|none=>none
 | .rw u,.rw v=>match U.eq? u v with|some ⟨h⟩=>some ⟨by rw[h]⟩|none=>none
 | .cs u,.cs v=>match U.eq? u v with|some ⟨h⟩=>some ⟨by rw[h]⟩|none=>none
 |_,_=>none
def zmm(u:U):Option U->Bool|some v=>(U.eq? u v).isSome|none=>false
inductive PV (S:Nat->Type) where
 |int (k:IntKind) (n:Int)
 |bool (b:Bool)
 |str (l:By)
 |sl (u:U) (l:List (El S u))
 |nils
 |st (n:Nat) (x:S n)
 |agg (l:List (PV S))
 |tup (l:List (PV S))
 |elp (u:U) (x:El S u) (off:Nat)
 |ptr (b off:Nat)
 |nilp
 |row (b:Nat)
 |ref (b:Nat)
 |elr (b:Nat) (u:U) (i off:Nat)
 |cont (u:U) (x:El S u)
 |bref (b:Nat) (T:TypeId)
 |rsl (b:Nat) (u:U) (i:Nat)
 |func (f:Fn) (first cap:List (PV S))
 |nilFunc
 |iface (t:TypeId) (v:PV S)
 |nilIface
 |junk
inductive Box (S:Nat->Type) where
 |var (T:TypeId) (cs:List (PV S))
 |own (u:U) (T:TypeId) (l:List (El S u))
 |wr (u:U) (T:TypeId) (l:List (El S u))
 |nst (u:U) (T T2:TypeId) (l:List (List (El S u))) (h:Option Nat)
 |grp (u:U) (T2:TypeId) (l:List (El S .str×El S (.sl u))) (h:Option By)
 |lk (b:Box S)
 |ro (b:Box S)
 |gone
structure Uni (S:Nat->Type) where
 codes:Nat->List U
 get:(n:Nat)->S n->ElL S (codes n)
 put:(n:Nat)->ElL S (codes n)->S n
 tabs:List (Nat×List Value):=[]
variable{S:Nat->Type}
def Box.base:Box S->Box S| .lk b=>b.base| .ro b=>b.base|b=>b
abbrev Env(S:Nat->Type):=List (Nat×PV S)
abbrev Bxs(S:Nat->Type):=List (Box S)
def zvo:Env S->Nat->Option (PV S)|[],_=>none|(j,v)::r,i=>bif Nat.beq j i then some v else zvo r i
def zaS:PV S:= .tup []
mutual
def zaC:Value->PV S| .int k n=>.int k n| .bool b=>.bool b| .string s=>.str s.data.toList| .slice none 0 0=>.nils| .pointer none=>.nilp| .nilFunc=>.nilFunc| .nilIface=>.nilIface| .tuple ⟨[]⟩=>.tup []|_=>.junk
end
def ev(e:Env S):Operand->Option (PV S)| .tmp t=>zvo e t| .const v=>some (zaC v)| .func f=>some (.func (.func f) [] [])| .global _=>none
def evs(e:Env S):List Operand->Option (List (PV S))
 |[]=>some []|x::r=>match ev e x,evs e r with
   |some v,some l=>some (v::l)|_,_=>none
mutual
def PV.says(b:Nat):PV S->Bool| .row j=>Nat.beq j b| .elr j _ _ _=>Nat.beq j b| .rsl j _ _=>Nat.beq j b| .agg l=>saysL b l| .tup l=>saysL b l| .func _ l r=>saysL b l||saysL b r| .iface _ v=>v.says b|_=>false
def saysL(b:Nat):List (PV S)->Bool|[]=>false|p::r=>p.says b||saysL b r
end
mutual
def PV.rowless:PV S->Bool| .row _=>false| .elr _ _ _ _=>false| .rsl _ _ _=>false| .agg l=>zcq l| .tup l=>zcq l| .func _ l r=>zcq l&&zcq r| .iface _ v=>v.rowless|_=>true
def zcq:List (PV S)->Bool|[]=>true|p::r=>p.rowless&&zcq r
end
def PV.kill1(b:Nat)(p:PV S):PV S:=bif p.says b then .junk else p
def PV.kill(b:Nat)(y:PV S):PV S->PV S| .row j=>bif Nat.beq j b then y else .row j| .agg l=>bif saysL b l then .agg (l.map (PV.kill1 b)) else .agg l|p=>bif p.says b then .junk else p
def zcW(b:Nat)(y:PV S):Env S->Env S|[]=>[]|(i,p)::r=>(i,PV.kill b y p)::zcW b y r
def Box.kill(b:Nat)(y:PV S):Box S->Box S| .var T cs=>.var T (cs.map (PV.kill b y))| .lk x=>.lk (x.kill b y)| .ro x=>.ro (x.kill b y)|x=>x
def zbe:Bxs S->Nat->Box S->Bxs S|[],_,_=>[]|_::r,0,y=>y::r|x::r,n+1,y=>x::zbe r n y
def zam:Bxs S->Nat->Option (Box S)|[],_=>none|x::_,0=>some x|_::r,n+1=>zam r n
def zaG(W:List Nat):Env S->Env S|[]=>[]|(i,p)::r=>bif W.contains i then zaG W r else (i,p)::zaG W r
def zbi(l:List Oper):List Nat:=l.filterMap (·.dst)
def zdX(d:Option Nat):List (Nat×Bool)->List (Nat×Bool)|[]=>[]|(i,b)::r=>bif (match d with|some j=>Nat.beq i j|none=>false) then zdX d r else (i,b)::zdX d r
def zn3(W:List Nat):List (Nat×Bool)->List (Nat×Bool)|[]=>[]|(i,b)::r=>bif W.contains i then zn3 W r else (i,b)::zn3 W r
def zdo:List (Nat×Bool)->Nat->Option Bool|[],_=>none|(j,v)::r,i=>bif Nat.beq j i then some v else zdo r i
def znk:Bool->Bool->Bool|true,b=>b|false,b=> !b
def asB(d:Nat)(e:Env S):Option Bool:=match zvo e d with
 |some (.bool b)=>some b|_=>none
def ob{α β:Type}(x:Option α)(f:α->Option β):Option β:=match x with
 |some a=>f a|none=>none
def br{α:Type}(b:Bool)(x y:Option α):Option α:=match b with
 |true=>x|false=>y
def zcX{α:Type}(l:List α)(n:Int):Option Nat:=match n with
 | .ofNat k=>bif Nat.blt k l.length then some k else none| .negSucc _=>none
def zdc{α:Type}(l:List α)(k:Nat):Option α:=l[k]?
def zlG{α:Type}(n:Int)(x:α):Option (List α):=match n with
 | .ofNat k=>bif Nat.ble k 1073741824 then some (List.replicate k x) else none| .negSucc _=>none
def zaT(l:By):List Int:=l.map λc=>(c.toNat:Int)
def zjt(l:List Int):By:=l.map λn=>UInt8.ofNat n.toNat
def at?{α:Type}(l:List α)(n:Int):Option α:=match n with
 | .ofNat k=>l[k]?| .negSucc _=>none
def zhN{α:Type}(l:List α)(lo hi:Int):Option (List α):=match lo,hi with
 | .ofNat i,.ofNat j=>bif Nat.ble i j&&Nat.ble j l.length then some ((l.drop i).take (j - i)) else none|_,_=>none
def lim:Nat:=4294967296
def zdJ{α:Type}(l r:List α):Option (List α):=bif Nat.ble (l.length+r.length) lim then some (l++r) else none
def len{α:Type}(l:List α):Int:=(l.length:Int)
def zlH{σ R:Type}(f:σ->Option (σ⊕R)):Nat->σ->Option R
 |0,_=>none|n+1,x=>match f x with
   |some (.inl y)=>zlH f n y|some (.inr r)=>some r|none=>none
open Classical in
noncomputable def zak{σ R:Type}(f:σ->Option (σ⊕R))(x:σ):Option R :=
 if h:∃n,(zlH f n x).isSome then zlH f (Classical.choose h) x else none
def zaE{σ R:Type}(x:Option (σ⊕R))(f:σ->Option R):Option R:=match x with
 |some (.inl t)=>f t|some (.inr r)=>some r|none=>none
section
variable(un:Uni S)
def inj:(u:U)->El S u->PV S| .int k,x=>.int k x| .bool,x=>.bool x| .str,x=>.str x| .sl u,x=>.sl u x| .st n,x=>.st n x| .mp k v,x=>.cont (.mp k v) x| .rw u,x=>.cont (.rw u) x| .cs u,x=>.cont (.cs u) x
def zbQ:(us:List U)->ElL S us->List (PV S)|[],_=>[]|u::us,t=>inj u t.1::zbQ us t.2
def zdN:(u:U)->El S u->List (PV S)| .st n,x=>zbQ (un.codes n) (un.get n x)| .int k,x=>[.int k x]| .bool,x=>[.bool x]| .str,x=>[.str x]| .sl u,x=>[.sl u x]| .mp k v,x=>[.cont (.mp k v) x]| .rw u,x=>[.cont (.rw u) x]| .cs u,x=>[.cont (.cs u) x]
def U.size:U->Nat
 | .st n=>(un.codes n).length|_=>1
def PV.cells:PV S->List (PV S)| .agg l=>l| .st n x=>zdN un (.st n) x|p=>[p]
def U.told:U->Bool| .cs _=>true|_=>false
def PV.one:PV S->Bool| .agg _=>false| .st _ _=>false| .tup _=>false| .junk=>false| .cont u _=>u.told|_=>true
def cast0:(u:U)->PV S->Option (El S u)
 | .int k,.int k' n=>match zi0 k' k with|some _=>some n|none=>none
 | .bool,.bool b=>some b| .str,.str l=>some l| .sl u,.sl v l=>match U.eq? v u with|some ⟨h⟩=>some (h▸l)|none=>none
 | .sl _,.nils=>some []| .mp k v,.cont u x=>match U.eq? u (.mp k v) with|some ⟨h⟩=>some (h▸x)|none=>none
 | .rw v,.cont u x=>match U.eq? u (.rw v) with|some ⟨h⟩=>some (h▸x)|none=>none
 | .cs v,.cont u x=>match U.eq? u (.cs v) with|some ⟨h⟩=>some (h▸x)|none=>none
 | .cs _,.nils=>some []|_,_=>none
def zii:(us:List U)->List (PV S)->Option (ElL S us)
 |[],[]=>some ()|u::us,p::ps=>match cast0 u p,zii us ps with
   |some x,some t=>some (x,t)|_,_=>none
 |_,_=>none
def cast:(u:U)->PV S->Option (El S u)
 | .st n,.st m x=>match zfL m n with|some ⟨h⟩=>some (h▸x)|none=>none
 | .st n,.agg l=>match zii (un.codes n) l with|some t=>some (un.put n t)|none=>none
 | .st _,_=>none|u,p=>cast0 u p
def fz1(bx:Bxs S):PV S->PV S
 | .row b=>match (zam bx b).map Box.base with
   |some (.own u _ l)=>.sl u l|_=>.junk
 | .cont (.cs u) l=>.sl u l|p=>p
def fz(bx:Bxs S):PV S->PV S| .agg l=>.agg (l.map (fz1 bx))|p=>fz1 bx p
def fz3(bx:Bxs S):PV S->PV S
 | .elr b u i off=>match (zam bx b).map Box.base with
   |some (.own u' _ l)=>match U.eq? u' u with
     |some ⟨h⟩=>match l[i]? with
       |some x=>.elp u (h▸x) off|none=>.elr b u i off
     |none=>.elr b u i off
   |_=>.elr b u i off
 |p=>p
def fz2(bx:Bxs S):PV S->PV S| .func f l r=>.func f (l.map (fz3 bx)) (r.map (fz3 bx))|p=>fz1 bx p
def fzU(bx:Bxs S):U->PV S->PV S| .cs _,.cont v l=>.cont v l|_,p=>fz bx p
def zf4(bx:Bxs S):(us:List U)->List (PV S)->Option (ElL S us)
 |[],[]=>some ()|u::us,p::ps=>match cast un u (fzU bx u p),zf4 bx us ps with
   |some x,some t=>some (x,t)|_,_=>none
 |_,_=>none
def zs3:PV S->Bool| .func _ [] []=>true|_=>false
def zg7(bx:Bxs S):(us:List (Option U))->List (PV S)->Option (List (PV S))
 |[],[]=>some []|some u::us,p::ps=>match cast un u (fz bx p),zg7 bx us ps with
   |some x,some t=>some (inj u x::t)|_,_=>none
 |none::us,p::ps=>match zg7 bx us ps with
   |some t=>bif zs3 p then some (p::t) else none|none=>none
 |_,_=>none
def eq1:(u:U)->El S u->El S u->Bool| .int _,x,y=>(@BEq.beq Int _ x y)| .bool,x,y=> @BEq.beq Bool _ x y| .str,x,y=> @BEq.beq By _ x y|_,_,_=>false
def eqC:(us:List U)->ElL S us->ElL S us->Bool|[],_,_=>true|u::us,x,y=>eq1 u x.1 y.1&&eqC us x.2 y.2
def U.scalar:U->Bool| .sl _=>false| .st _=>false| .mp _ _=>false| .rw _=>false| .cs _=>false|_=>true
def keq(u:U)(x y:El S u):Bool:=match u,x,y with
 | .st n,x,y=>eqC (un.codes n) (un.get n x) (un.get n y)|u,x,y=>eq1 u x y
def U.key(u:U):Bool:=match u with
 | .st n=>(un.codes n).all U.scalar|u=>u.scalar
def zdh{K V:Type}(eq:K->K->Bool)(x:K)(z:V):List (K×V)->V|[]=>z|(k,v)::r=>bif eq x k then v else zdh eq x z r
def zrC{K V:Type}(eq:K->K->Bool)(x:K):List (K×V)->Bool|[]=>false|(k,_)::r=>bif eq x k then true else zrC eq x r
def zgw{K V:Type}(eq:K->K->Bool)(x:K)(y:V):List (K×V)->List (K×V)|[]=>[(x,y)]|(k,v)::r=>bif eq x k then (x,y)::r else (k,v)::zgw eq x y r
def zfI :List (PV S)->PV S|[p]=>p|l=>.tup l
end
inductive Tr (α:Type) where
 |leaf
 |node (l:Tr α) (k:Nat) (v:α) (r:Tr α)
abbrev Tr.lf{α:Type}(k:Nat)(x:α):Tr α:=.node .leaf k x .leaf
def Tr.get{α:Type}:Tr α->Nat->Option α| .leaf,_=>none| .node l k v r,i=>bif Nat.beq i k then some v else bif Nat.blt i k then l.get i else r.get i
structure TyRow (S:Nat->Type) where
 kd:Nat
 n:Nat
 agg:Bool
 zero:List (PV S)
 code:Option U
 elem:Option (TypeId×U)
 fields:List (Nat×Nat)
 mp:Option (TypeId×U×TypeId×U)
 arr:Option (TypeId×U)
inductive CTy where
 |fr (u:U)
 |own (u:U) (T:TypeId)
 |wr (u:U) (T:TypeId)
 |nst (u:U) (T T2:TypeId)
 |pt (u:U) (T:TypeId)
 |grp (u:U) (T2:TypeId)
def CTy.code:CTy->U| .fr u=>u| .pt u _=>u| .own u _=>.sl u| .wr u _=>.sl u| .nst u _ _=>.sl (.sl u)| .grp u _=>.mp .str (.sl u)
structure Cut where
 slots:List (Nat×CTy)
 Kg:List (Nat×List CTy)
 tails:List (Nat×Nat×U)
def Cut.names(c:Cut):List Nat:=c.slots.map (·.1)++c.tails.map (·.1)
structure Fp where
 foot:List Nat
 see:List Nat
 dead:List Nat
 pins:List Nat
structure Ann where
 cut:Tr Cut
 loop:Tr Cut
 any:List (Nat×List Nat)
 dup:List Nat
 lin:List Nat
 par:List (Nat×List Fp)
 tail:List (Nat×Nat):=[]
inductive Arg where
 |one (c:CTy)
 |agg (cs:List CTy)
 |ref (k:Nat)
 |ptr (k off:Nat)
 |fn (f:FuncId)
 |nil
 |agr (cs:List CTy) (k:Nat)
structure Sg where
 as:List Arg
 bs:List (Bool×TypeId×List CTy)
 rs:List Arg
 ps:List U
 pan:TypeId
inductive Sig where
 |data (us:List (Option U)) (rs:List U)
 |inl (fn:Func) (an:Ann) (rs:List U)
 |eff (us:List (Option U)) (ts:List TypeId) (lc rs ps:List U) (pan:TypeId)
 |effI (fn:Func) (an:Ann) (ts:List TypeId) (lc rs ps:List U) (pan:TypeId)
 |lin (g:Sg)
 |bld (k:Nat) (T E:TypeId)
 |inpl (u:U) (T:TypeId) (us:List (Option U))
structure Tb (S:Nat->Type) where
 ty:Tr (TyRow S)
 sig:Tr Sig
 bld:Option (TypeId×TypeId)
 lin:List Nat
def Tb.at(tb:Tb S)(an:Ann):Tb S:=⟨tb.ty,tb.sig,tb.bld,an.lin⟩
def Arg.tys:Arg->List CTy| .one c=>[c]| .agg cs=>cs| .agr cs _=>cs|_=>[]
def Sg.ins(g:Sg):List CTy:=(g.bs.map (·.2.2)).flatten++(g.as.map Arg.tys).flatten
def Sg.outs(g:Sg):List CTy:=(g.bs.map (·.2.2)).flatten++(g.rs.map Arg.tys).flatten
abbrev Sg.In(S:Nat->Type)(g:Sg):=ElL S (g.ins.map CTy.code)
abbrev Sg.Out(S:Nat->Type)(g:Sg):=ElL S (g.outs.map CTy.code)⊕ElL S g.ps
abbrev Out(S:Nat->Type)(lc rs ps:List U):=(ElL S lc×ElL S rs)⊕ElL S ps
structure Orc (S:Nat->Type) where
 d:FuncId->List (PV S)->(rs:List U)->Option (ElL S rs)
 e:FuncId->List (PV S)->(ts:List TypeId)->(lc:List U)->ElL S lc->(rs ps:List U)->(pan:TypeId)->Option (Out S lc rs ps)
 l:FuncId->(g:Sg)->g.In S->Option (g.Out S)
 p:FuncId->(u:U)->(T:TypeId)->List (PV S)->List (El S u)->Option (List (El S u))
structure Inl (S:Nat->Type) where
 d:Func->Ann->List (PV S)->Bxs S->(rs:List U)->Option (ElL S rs)
 e:Func->Ann->List (PV S)->(ts:List TypeId)->(lc:List U)->ElL S lc->(rs ps:List U)->(pan:TypeId)->Option (Out S lc rs ps)
section
variable(un:Uni S)(tb:Tb S)(orc:Orc S)(inl:Inl S)
def load(t:TypeId)(p:PV S)(bx:Bxs S):Option (PV S) :=
 match tb.ty.get t with
 |none=>none|some r =>
   let row (cs:List (PV S)) (off:Nat):Option (PV S) :=
    bif r.agg then (bif Nat.ble (off+r.n) cs.length then some (.agg ((cs.drop off).take r.n)) else none) else cs[off]?
   match p with
   | .ptr b off=>match (zam bx b).map Box.base with
     |some (.var _ cs)=>row cs off|_=>none
   | .elp u x off =>
     match u,x,off,r.code with
     | .st m,x,0,some (.st m')=>bif Nat.beq m m'&&r.agg&&Nat.beq r.n (un.codes m).length then some (.st m x) else row (zdN un (.st m) x) 0|u,x,off,_=>row (zdN un u x) off
   |_=>none
def bAnd(k:IntKind)(x y:Int):Int:=k.wrap (((BitVec.ofInt k.bits x) &&& (BitVec.ofInt k.bits y)).toNat:Int)
def bOr(k:IntKind)(x y:Int):Int:=k.wrap (((BitVec.ofInt k.bits x) ||| (BitVec.ofInt k.bits y)).toNat:Int)
def bXor(k:IntKind)(x y:Int):Int:=k.wrap (((BitVec.ofInt k.bits x) ^^^ (BitVec.ofInt k.bits y)).toNat:Int)
def bClr(k:IntKind)(x y:Int):Int:=k.wrap (((BitVec.ofInt k.bits x) &&& ~~~(BitVec.ofInt k.bits y)).toNat:Int)
def shlI(k:IntKind)(x y:Int):Int:=k.wrap (x*2 ^ (min y.toNat k.bits))
def zp9(k:IntKind)(x y:Int):Int:=x.fdiv (2 ^ (min y.toNat k.bits))
def zr7{R:Type}(op:BinOp)(k:IntKind)(a b:Int)(K:PV S->Option R):Option R :=
 match op with
 | .shl=>bif decide (0<=b) then K (.int k (shlI k a b)) else none| .shr=>bif decide (0<=b) then K (.int k (zp9 k a b)) else none|_=>none
def zta{R:Type}(op:BinOp)(k:IntKind)(a b:Int)(K:PV S->Option R):Option R :=
 match op with
 | .add=>K (.int k (k.wrap (a+b)))| .sub=>K (.int k (k.wrap (a - b)))| .mul=>K (.int k (k.wrap (a*b)))| .lss=>K (.bool (decide (a<b)))| .leq=>K (.bool (decide (a<=b)))| .gtr=>K (.bool (decide (b<a)))| .geq=>K (.bool (decide (b<=a)))| .eql=>K (.bool (a==b))| .neq=>K (.bool (a != b))| .quo=>match b with
   | .ofNat (n+1)=>K (.int k (k.wrap (Int.tdiv a (.ofNat (n+1)))))|_=>none
 | .rem=>match b with
   | .ofNat (n+1)=>K (.int k (Int.tmod a (.ofNat (n+1))))|_=>none
 | .and=>K (.int k (bAnd k a b))| .or=>K (.int k (bOr k a b))| .xor=>K (.int k (bXor k a b))| .andNot=>K (.int k (bClr k a b))|op=>zr7 op k a b K
def zsk{R:Type}(op:BinOp)(a b:By)(K:PV S->Option R):Option R :=
 match op with
 | .add=>ob (zdJ a b) λc=>K (.str c)| .eql=>K (.bool (a==b))| .neq=>K (.bool (a != b))| .lss=>K (.bool (Op.bytesLess a b))| .leq=>K (.bool (Op.bytesLess a b||a==b))| .gtr=>K (.bool (!(Op.bytesLess a b||a==b)))| .geq=>K (.bool (!(Op.bytesLess a b)))|_=>none
def zcS(e:Env S)(c:Call):Option (FuncId×List (PV S)) :=
 match c.callee with
 | .value x=>match ev e x,evs e c.args.toList with
   |some (.func (.func f) first cap),some l=>some (f,first++l++cap)|_,_=>none
 |_=>none
def splice:List (PV S)->Nat->List (PV S)->List (PV S)|cs,_,[]=>cs|cs,off,v::r=>splice (cs.set off v) (off+1) r
def zck(e:Env S):List (Nat×Operand)->Option (List (Nat×PV S))
 |[]=>some []|(i,x)::r=>match ev e x,zck e r with
   |some v,some l=>some ((i,v)::l)|_,_=>none
def zph(fields:List (Nat×Nat))(un:Uni S):List (PV S)->List (Nat×PV S)->Option (List (PV S))
 |cs,[]=>some cs|cs,(i,v)::r=>match fields[i]? with
   |some (off,n)=>bif (v.cells un).all PV.one&&Nat.beq (v.cells un).length n&&Nat.ble (off+n) cs.length then zph fields un (splice cs off (v.cells un)) r else none|none=>none
def Box.tame(bx:Bxs S):Box S->Box S| .var T cs=>.var T (cs.map (fz1 bx))| .wr _ _ _=>.gone| .nst _ _ _ _ _=>.gone| .grp _ _ _ _=>.gone|b=>b
def zoY(bx:Bxs S):Bxs S->Bxs S|[]=>[]|b::r=>.ro (b.base.tame bx)::zoY bx r
def zoZ(bx:Bxs S):Bxs S:=zoY bx bx
def zoC(bx:Bxs S):PV S->Option (Nat×(u:U)×List (El S u))
 | .row b=>match (zam bx b).map Box.base with
   |some (.wr u _ l)=>some (b,⟨u,l⟩)|_=>none
 | .ref b=>match (zam bx b).map Box.base with
   |some (.var _ [.cont (.rw u) l])=>some (b,⟨u,l⟩)|_=>none
 |_=>none
def zpk(bx:Bxs S)(b:Nat)(u:U):Option (List (El S u)):=match (zam bx b).map Box.base with
 |some (.wr v _ l)=>match U.eq? v u with
   |some ⟨h⟩=>some (h▸l)|none=>none
 |some (.var _ [.cont (.rw v) l])=>match U.eq? v u with
   |some ⟨h⟩=>some (h▸l)|none=>none
 |some (.own v _ l)=>match U.eq? v u with
   |some ⟨h⟩=>some (h▸l)|none=>none
 |_=>none
def zqx(bx:Bxs S)(k v:U):PV S->Option (List (El S k×El S v))
 | .ref b=>match (zam bx b).map Box.base with
   |some (.var _ [.cont u l])=>match U.eq? u (.mp k v) with
     |some ⟨h⟩=>some (h▸l:El S (.mp k v))|none=>none
   |some (.grp u _ l none)=>match U.eq? (.mp .str (.sl u)) (.mp k v) with
     |some ⟨h⟩=>some (h▸(show El S (.mp .str (.sl u)) from l):El S (.mp k v))|none=>none
   |_=>none
 |_=>none
def zrL(tb:Tb S)(T:TypeId):Bool:=match (tb.ty.get T).bind (·.code) with
 |some (.int .u8)=>true|_=>false
def zdZ(t:TypeId)(u:U):Option (El S u):=match tb.ty.get t with
 |some r=>match u with
   | .st n=>bif r.agg then cast un (.st n) (.agg r.zero) else none|u=>bif r.agg then none else match r.zero with
     |[p]=>cast0 u p|_=>none
 |none=>none
def zeN{R:Type}(o:Oper)(e:Env S)(bx:Bxs S)(K:PV S->Option R):Option R :=
 match o.op with
 | .move x=>match ev e x with
   |some p=>K p|none=>none
 | .assign x=>match ev e x with
   |some p=>K p|none=>none
 | .pick c x y=>match ev e c,ev e x,ev e y with
   |some (.bool b),some p,some q=>br b (K p) (K q)|_,_,_=>none
 | .binOp op t x y _=>match ev e x,ev e y with
   |some (.int k a),some (.int k' b)=>match zi0 k k' with
     |some _=>zta op k a b K|none=>zr7 op k a b K
   |some (.str a),some (.str b)=>zsk op a b K|some (.bool a),some (.bool b)=>match tb.ty.get t with
     |some r=>bif Nat.beq r.kd 5 then (match op with
       | .eql=>K (.bool (a==b))| .neq=>K (.bool (a != b))|_=>none) else none
     |none=>none
   |some (.sl _ (_::_)),some .nils=>match tb.ty.get t with
     |some r=>bif Nat.beq r.kd 2 then (match op with
       | .eql=>K (.bool false)| .neq=>K (.bool true)|_=>none) else none
     |none=>none
   |some .nils,some .nils=>match tb.ty.get t with
     |some r=>bif Nat.beq r.kd 2 then (match op with
       | .eql=>K (.bool true)| .neq=>K (.bool false)|_=>none) else none
     |none=>none
   |some p,some q=>match (tb.ty.get t).bind (·.code) with
     |some (.st n)=>match cast un (.st n) p,cast un (.st n) q with
       |some a,some b=>bif (un.codes n).all U.scalar&&(match tb.ty.get t with|some r=>Nat.beq r.fields.length (un.codes n).length|none=>false) then (match op with
         | .eql=>K (.bool (eqC (un.codes n) (un.get n a) (un.get n b)))| .neq=>K (.bool !(eqC (un.codes n) (un.get n a) (un.get n b)))|_=>none) else none
       |_,_=>none
     |_=>none
   |_,_=>none
 | .unOp .not _ x=>match ev e x with
   |some (.bool b)=>K (.bool !b)|_=>none
 | .fieldAddr s x f=>match ev e x,tb.ty.get s with
   |some p,some r=>bif Nat.beq r.kd 3 then (match p,r.fields[f]? with
     | .ptr b off,some (d,_)=>K (.ptr b (off+d))| .elp u y off,some (d,_)=>K (.elp u y (off+d))|_,_=>none) else none
   |_,_=>none
 | .indexAddr t x i=>match ev e x,ev e i,tb.ty.get t with
   |some p,some (.int _ n),some r=>bif Nat.beq r.kd 2 then (match fz1 bx p with
     | .sl u l=>bif zmm u (r.elem.map (·.2)) then ob (at? l n) λy=>K (.elp u y 0) else none|_=>none)
    else bif Nat.beq r.kd 4 then (match n with
     | .ofNat k=>(match p,r.fields[k]? with
       | .ptr b off,some (d,_)=>K (.ptr b (off+d))| .elp u y off,some (d,_)=>K (.elp u y (off+d))|_,_=>none)
     |_=>none) else none
   |_,_,_=>none
 | .index t x i=>match ev e x,ev e i,tb.ty.get t with
   |some (.str l),some (.int _ n),some r=>bif Nat.beq r.kd 1 then ob (at? l n) λc=>K (.int .u8 (c.toNat:Int)) else none|_,_,_=>none
 | .load t x=>match ev e x with
   |some p=>match load un tb t p bx with
     |some q=>K q|none=>none
   |none=>none
 | .nilCheck x=>match ev e x with
   |some (.ptr b off)=>K (.ptr b off)|some (.elp u y off)=>K (.elp u y off)|_=>none
 | .extract x i=>match ev e x with
   |some (.tup l)=>match l[i]? with
     |some p=>K p|none=>none
   |_=>none
 | .slice t x lo hi none=>match ev e x,tb.ty.get t with
   |some p,some r=>match fz1 bx p with
     | .str l=>bif Nat.beq r.kd 1 then
       (match (match lo with|some a=>ev e a|none=>some (.int .i64 0)),(match hi with|some a=>ev e a|none=>some (.int .i64 (len l))) with
       |some (.int _ i),some (.int _ j)=>ob (zhN l i j) λs=>K (.str s)|_,_=>none) else none
     | .sl u l=>bif Nat.beq r.kd 2&&zmm u (r.elem.map (·.2)) then
       (match (match lo with|some a=>ev e a|none=>some (.int .i64 0)),(match hi with|some a=>ev e a|none=>some (.int .i64 (len l))) with
       |some (.int _ i),some (.int _ j)=>ob (zhN l i j) λs=>K (.sl u s)|_,_=>none) else none
     |_=>none
   |_,_=>none
 | .build t parts=>match zck e parts.toList,tb.ty.get t with
   |some l,some r=>bif Nat.beq r.kd 3||Nat.beq r.kd 4 then (match zph r.fields un r.zero l with
     |some cs=>K (.agg cs)|none=>none) else none
   |_,_=>none
 | .makeInterface t x=>match ev e x,tb.ty.get t with
   |some (.agg l),some r=>bif r.agg then K (.iface t (.agg l)) else none|_,_=>none
 | .makeFunc fn first cap=>match evs e first.toList,evs e cap.toList with
   |some l,some r=>K (.func fn l r)|_,_=>none
 | .call c =>
   match c.callee with
   | .builtin .len=>match evs e c.args.toList,(c.argTypes[0]?).bind tb.ty.get with
     |some [p],some r=>match fz1 bx p with
       | .str l=>bif Nat.beq r.kd 1 then K (.int .i64 (len l)) else none| .sl _ l=>bif Nat.beq r.kd 2 then K (.int .i64 (len l)) else none| .nils=>bif Nat.beq r.kd 2 then K (.int .i64 0) else none|_=>none
     |_,_=>none
   | .builtin .min=>match evs e c.args.toList with
     |some [.int .i64 a,.int .i64 b]=>K (.int .i64 (min a b))|_=>none
   | .builtin .max=>match evs e c.args.toList with
     |some [.int .i64 a,.int .i64 b]=>K (.int .i64 (max a b))|_=>none
   |_=>match zcS e c with
     |some (f,l)=>match tb.sig.get f with
       |some (.data us rs) =>
         match zg7 un bx us l with
         |some t=>ob (orc.d f t rs) λr=>K (zfI (zbQ rs r))|none=>none
       |some (.inl fn an rs)=>ob (inl.d fn an (l.map (fz2 bx)) (zoZ bx) rs) λr=>K (zfI (zbQ rs r))|_=>none
     |none=>none
 |_=>none
def zfE{R:Type}(o:Oper)(e:Env S)(bx:Bxs S)(K:PV S->Option R):Option R :=
 match o.op with
 | .indexAddr t x i=>match (ev e x).bind (zoC bx) with
   |some (b,⟨u,l⟩)=>match ev e i,tb.ty.get t with
     |some (.int _ n),some r=>bif Nat.beq r.kd 2&&zmm u (r.elem.map (·.2)) then ob (zcX l n) λj=>K (.elr b u j 0) else none|_,_=>none
   |none=>zeN un tb orc inl o e bx K
 | .fieldAddr s x f=>match ev e x with
   |some (.elr b u i off)=>match tb.ty.get s with
     |some r=>bif Nat.beq r.kd 3 then (match r.fields[f]? with
       |some (d,_)=>K (.elr b u i (off+d))|none=>none) else none
     |none=>none
   |_=>zeN un tb orc inl o e bx K
 | .nilCheck x=>match ev e x with
   |some (.elr b u i off)=>K (.elr b u i off)|_=>zeN un tb orc inl o e bx K
 | .load t x=>match ev e x with
   |some (.elr b u i off)=>match zpk bx b u with
     |some l=>ob (zdc l i) λy=>match load un tb t (.elp u y off) bx with
       |some q=>K q|none=>none
     |none=>none
   |_=>zeN un tb orc inl o e bx K
 | .lookup t m x ok=>match ev e m,ev e x,(tb.ty.get t).bind (·.mp) with
   |some p,some q,some (_,k,vt,v)=>match zqx bx k v p,cast un k (fz bx q),zdZ un tb vt v with
     |some l,some key,some z=>bif U.key un k then K (bif ok then .tup [inj v (zdh (keq un k) key z l),.bool (zrC (keq un k) key l)] else inj v (zdh (keq un k) key z l)) else none|_,_,_=>none
   |_,_,_=>none
 | .convert s d x=>match ev e x,tb.ty.get s,tb.ty.get d with
   |some (.int _ n),some _,some r=>match r.code with
     |some (.int k)=>K (.int k (k.wrap n))|_=>none
   |some (.str l),some rs,some r=>bif Nat.beq rs.kd 1&&Nat.beq r.kd 1 then K (.str l) else none|some p,some rs,some r=>match rs.elem,zoC bx p,fz1 bx p with
     |some (T,.int .u8),some (_,⟨.int .u8,l⟩),_=>bif (Nat.beq r.kd 1&&Nat.beq rs.kd 2)&&zrL tb T then K (.str (zjt l)) else none|some (T,.int .u8),none,.sl (.int .u8) l=>bif (Nat.beq r.kd 1&&Nat.beq rs.kd 2)&&zrL tb T then K (.str (zjt l)) else none|some (T,.int .u8),none,.nils=>bif (Nat.beq r.kd 1&&Nat.beq rs.kd 2)&&zrL tb T then K (.str []) else none|_,_,_=>none
   |_,_,_=>none
 | .call c=>match c.callee with
   | .builtin .len=>match evs e c.args.toList,(c.argTypes[0]?).bind tb.ty.get with
     |some [p],some r=>match zoC bx p with
       |some (_,⟨_,l⟩)=>bif Nat.beq r.kd 2 then K (.int .i64 (len l)) else none|none=>match r.mp with
         |some (_,k,_,v)=>match zqx bx k v p with
           |some l=>K (.int .i64 (len l))|none=>none
         |none=>zeN un tb orc inl o e bx K
     |_,_=>none
   |_=>zeN un tb orc inl o e bx K
 |_=>zeN un tb orc inl o e bx K
def zy1{R:Type}(o:Oper)(e:Env S)(bx:Bxs S)(K:PV S->Option R):Option R :=
 match o.op with
 | .indexAddr t x i=>match ev e x with
   |some (.rsl b u j)=>match zpk bx b u,ev e i,tb.ty.get t with
     |some l,some (.int _ n),some r=>bif Nat.beq r.kd 2&&zmm u (r.elem.map (·.2)) then ob (zcX (l.drop j) n) λk=>K (.elr b u (j+k) 0) else none|_,_,_=>none
   |_=>zfE un tb orc inl o e bx K
 | .slice t x none (some hi) none=>match ev e x with
   |some .nils=>match ev e hi,tb.ty.get t with
     |some (.int _ (.ofNat 0)),some r=>bif Nat.beq r.kd 2 then K .nils else none|_,_=>none
   |_=>zfE un tb orc inl o e bx K
 | .call c=>match c.callee with
   | .builtin .len=>match evs e c.args.toList with
     |some [.rsl b u j]=>match zpk bx b u,(c.argTypes[0]?).bind tb.ty.get with
       |some l,some r=>bif Nat.beq r.kd 2 then K (.int .i64 (len (l.drop j))) else none|_,_=>none
     |_=>zfE un tb orc inl o e bx K
   | .builtin .cap=>match evs e c.args.toList,(c.argTypes[0]?).bind tb.ty.get with
     |some [.nils],some r=>bif Nat.beq r.kd 2 then K (.int .i64 0) else none|_,_=>none
   |_=>zfE un tb orc inl o e bx K
 |_=>zfE un tb orc inl o e bx K
def ziI:Operand->Operand->Bool| .tmp i,.tmp j=>Nat.beq i j| .const (.int _ a),.const (.int _ b)=>a==b|_,_=>false
def zhf{R:Type}(o:Oper)(e:Env S)(bx:Bxs S)(K:PV S->Option R):Option R :=
 match o.op with
 | .slice t x none (some hi) (some top)=>match ev e x,ev e hi,ev e top,tb.ty.get t with
   |some p,some (.int _ j),some (.int _ i),some r=>match fz1 bx p with
     | .sl u l=>bif Nat.beq r.kd 2&&zmm u (r.elem.map (·.2)) then (bif j==i then ob (zhN l 0 j) λs=>K (.cont (.cs u) s) else none) else none|_=>none
   |_,_,_,_=>none
 |_=>zy1 un tb orc inl o e bx K
mutual
def PV.ptrs:PV S->List Nat
 | .ptr b _=>[b]| .func _ l r=>zhJ l++zhJ r|_=>[]
def zhJ:List (PV S)->List Nat
 |[]=>[]|p::r=>p.ptrs++zhJ r
end
def nub:List Nat->List Nat->List Nat
 |_,[]=>[]|sn,i::r=>bif sn.contains i then nub sn r else i::nub (i::sn) r
def zql(b:Nat):List Nat->Nat->Option Nat
 |[],_=>none|i::r,k=>bif Nat.beq i b then some k else zql b r (k+1)
mutual
def ren(ls:List Nat)(bx:Bxs S):PV S->Option (PV S)
 | .ptr b off=>match zql b ls 0 with
   |some k=>some (.ptr k off)|none=>none
 | .func f l r=>match zq6 ls bx l,zq6 ls bx r with
   |some l',some r'=>some (.func f l' r')|_,_=>none
 | .row b=>match fz1 bx (.row b) with
   | .sl u l=>some (.sl u l)|_=>none
 | .agg l=>match zq6 ls bx l with
   |some l'=>some (.agg l')|none=>none
 | .int k n=>some (.int k n)| .bool b=>some (.bool b)| .str l=>some (.str l)| .sl u l=>some (.sl u l)| .nils=>some .nils| .st n x=>some (.st n x)| .nilp=>some .nilp| .nilFunc=>some .nilFunc| .nilIface=>some .nilIface|_=>none
def zq6(ls:List Nat)(bx:Bxs S):List (PV S)->Option (List (PV S))
 |[]=>some []|p::r=>match ren ls bx p,zq6 ls bx r with
   |some q,some l=>some (q::l)|_,_=>none
end
def ziy(ls:List Nat)(bx:Bxs S):(us:List (Option U))->List (PV S)->Option (List (PV S))
 |[],[]=>some []|some u::us,p::ps=>match cast un u (fz bx p),ziy ls bx us ps with
   |some x,some t=>some (inj u x::t)|_,_=>none
 |none::us,p::ps=>match ren ls bx p,ziy ls bx us ps with
   |some q,some t=>some (q::t)|_,_=>none
 |_,_=>none
def mkV(u:U)(cs:List (PV S)):PV S:=match u with
 | .st _=>.agg cs|_=>zfI cs
def U.plain0:U->Bool| .mp _ _=>false| .rw _=>false| .cs _=>false|_=>true
def U.plain(u:U):Bool:=match u with
 | .st n=>(un.codes n).all U.plain0|u=>u.plain0
def zfg(bx:Bxs S):(ts:List TypeId)->(lc:List U)->List Nat->Option (ElL S lc)
 |[],[],[]=>some ()|T::ts,u::us,b::bs=>match zam bx b with
   |some (.var T' cs)=>match cast un u (fz bx (mkV u cs)),zfg bx ts us bs with
     |some x,some t=>bif Nat.beq T' T&&Nat.beq cs.length (U.size un u)&&U.plain un u then some (x,t) else none|_,_=>none
   |_=>none
 |_,_,_=>none
def zgp:List TypeId->(lc:List U)->List Nat->ElL S lc->Bxs S->Bxs S|T::ts,u::us,b::bs,t,bx=>zgp ts us bs t.2 (zbe bx b (.var T (zdN un u t.1)))|_,_,_,_,bx=>bx
def zeY:List Nat->Bxs S->Bxs S
 |[],bx=>bx|b::bs,bx=>zeY bs (match zam bx b with
   |some (.var T cs)=>zbe bx b (.var T (cs.map λ_=>.junk))|_=>bx)
def zdO:List TypeId->(lc:List U)->ElL S lc->Bxs S|T::ts,u::us,t=>.var T (zdN un u t.1)::zdO ts us t.2|_,_,_=>[]
def valI:(ps:List U)->ElL S ps->List Value| .int k::us,t=>.int k t.1::valI us t.2|_,_=>[]
def zge:(ps:List U)->List Value->Option (ElL S ps)
 |[],[]=>some ()| .int k::us,.int k' n::vs=>match zi0 k' k,zge us vs with
   |some _,some t=>some (n,t)|_,_=>none
 |_,_=>none
def zsg(pan:TypeId)(ps:List U)(p:ElL S ps):PanicEntry:=⟨.iface pan (.agg (valI ps p).toArray),false,false⟩
def zom(pan:TypeId)(ps:List U):List PanicEntry->Option (ElL S ps)|[⟨.iface T (.agg a),false,false⟩]=>bif Nat.beq T pan then zge ps a.toList else none|_=>none
def zcu:List (PV S)->Option (List Value)
 |[]=>some []| .int k n::r=>match zcu r with
   |some l=>some (.int k n::l)|none=>none
 |_=>none
def oc{α β R:Type}(x:Option (α⊕β))(f:α->Option R)(g:β->Option R):Option R:=match x with
 |some (.inl a)=>f a|some (.inr b)=>g b|none=>none
def zib{R:Type}(e:Env S)(bx:Bxs S)(ls:List Nat)(args:Option (List (PV S)))(ts:List TypeId)(lc rs ps:List U)(pan:TypeId)(ask:List (PV S)->ElL S lc->Option (Out S lc rs ps))(K:PV S->Env S->Bxs S->Option R)(KX:Exit->Env S->Bxs S->Option R):Option R :=
 match args,zfg un bx ts lc ls with
 |some t,some c=>oc (ask t c) (λr=>K (zfI (zbQ rs r.2)) e (zgp un ts lc ls r.1 bx)) λp=>KX (.panic [zsg pan ps p]) e (zeY ls bx)|_,_=>none
def zj8(bx:Bxs S)(u:U)(p:PV S):Option (List (El S u)) :=
 cast un (.sl u) (fz1 bx p)
def zep(bx:Bxs S)(u:U):List (PV S)->Option (List (El S u))
 |[]=>some []|p::r=>match cast un u (fz bx p),zep bx u r with
   |some x,some l=>some (x::l)|_,_=>none
def zel:Nat->List (Nat×PV S)->Bool|_,[]=>true|k,(i,_)::r=>Nat.beq i k&&zel (k+1) r
def twice:List Nat->Option Nat
 |[t,t']=>bif Nat.beq t t' then some t else none|_=>none
def zc8{R:Type}(o:Oper)(e:Env S)(bx:Bxs S)(K:PV S->Env S->Bxs S->Option R)(KX:Exit->Env S->Bxs S->Option R):Option R :=
 match o.op with
 | .alloc T=>match tb.ty.get T with
   |some r=>K (.ptr bx.length 0) e (bx++[.var T r.zero])|none=>none
 | .box T x=>match ev e x,tb.ty.get T with
   |some p,some r=>bif (p.cells un).all PV.one&&Nat.beq (p.cells un).length r.n then K (.ptr bx.length 0) e (bx++[.var T (p.cells un)]) else none|_,_=>none
 | .store t a x=>match ev e a,ev e x,tb.ty.get t with
   |some (.ptr b off),some p,some r=>match zam bx b with
     |some (.var T cs) =>
       bif (p.cells un).all PV.one&&Nat.beq (p.cells un).length r.n&&Nat.ble (off+r.n) cs.length then K zaS e (zbe bx b (.var T (splice cs off (p.cells un)))) else none
     |_=>none
   |_,_,_=>none
 | .buildSlice t n parts=>match zck e parts.toList,(tb.ty.get t).bind (·.elem) with
   |some l,some (T,u) =>
     bif Nat.beq l.length n&&zel 0 l&&Nat.ble (n*U.size un u) 16777216 then
      match zep un bx u (l.map (·.2)) with
      |some xs=>K (.row bx.length) e (bx++[.own u T xs])|none=>none
     else none
   |_,_=>none
 | .call c =>
   match c.callee with
   | .builtin .append =>
     match evs e c.args.toList,twice c.argTypes.toList with
     |some [s,x],some t=>match (tb.ty.get t).bind (·.elem) with
      |none=>none|some (T,u) =>
       match zj8 un bx u x with
       |some new =>
         (match s with
         | .nils=>ob (zdJ [] new) λl=>K (.row bx.length) e (bx++[.own u T l])| .row b=>match zam bx b with
           |some (.own v T' old)=>match U.eq? v u with
             |some ⟨h⟩=>bif Nat.beq T T' then ob (zdJ (h▸old) new) λl=>K (.row b) (zcW b (.sl v old) e) (zbe (bx.map (Box.kill b (.sl v old))) b (.own u T l)) else none|none=>none
           |_=>none
         |_=>none)
       |none=>none
     |_,_=>none
   | .value _=>match zcS e c with
     |some (f,l)=>match tb.sig.get f with
       |some (.eff us ts lc rs ps pan)=>zib un e bx (nub [] (zhJ l)) (ziy un (nub [] (zhJ l)) bx us l) ts lc rs ps pan (λt c=>orc.e f t ts lc c rs ps pan) K KX|some (.effI fn an ts lc rs ps pan)=>zib un e bx (nub [] (zhJ l)) (zq6 (nub [] (zhJ l)) bx l) ts lc rs ps pan (λt c=>inl.e fn an t ts lc c rs ps pan) K KX|_=>zhf un tb orc inl o e bx λp=>K p e bx
     |none=>none
   |_=>zhf un tb orc inl o e bx λp=>K p e bx
 | .panic x=>match ev e x with
   |some (.iface T (.agg l))=>match zcu l with
     |some vs=>KX (.panic [⟨.iface T (.agg vs.toArray),false,false⟩]) e bx|none=>none
   |_=>none
 |_=>zhf un tb orc inl o e bx λp=>K p e bx
def zaq:List Nat->Bxs S->Bxs S
 |[],bx=>bx|b::r,bx=>zaq r (match zam bx b with
   |some (.wr u T l)=>zbe bx b (.own u T l)|some (.nst u T _ l none)=>zbe bx b (.own (.sl u) T l)|_=>bx)
def zg1:PV S->List Nat
 | .row b=>[b]| .agg l=>l.filterMap fun | .row b=>some b|_=>none
 | .func _ l r=>(l++r).filterMap fun | .elr b _ _ _=>some b|_=>none
 |_=>[]
def zdi(l:List (PV S)):List Nat:=(l.map zg1).flatten
def zgG:(u:U)->List (PV S)->Option (El S u)
 | .st n,l=>match zii (un.codes n) l with|some t=>some (un.put n t)|none=>none
 |u,[p]=>cast0 u p|_,_=>none
def znQ(bx:Bxs S)(u:U)(y:El S u)(off n:Nat)(p:PV S):Option (El S u) :=
 bif ((fz bx p).cells un).all PV.one&&Nat.beq ((fz bx p).cells un).length n&&Nat.ble (off+n) (U.size un u) then zgG un u (splice (zdN un u y) off ((fz bx p).cells un)) else none
def zk4{R:Type}(e:Env S)(bx:Bxs S)(t:TypeId)(m x y:Operand)(K:PV S->Env S->Bxs S->Option R):Option R :=
 match ev e m,(tb.ty.get t).bind (·.mp) with
 |some (.ref b),some (_,k,_,v)=>match zam bx b,(ev e x).bind λq=>cast un k (fz bx q),(ev e y).bind λq=>cast un v (fz bx q) with
   |some (.var T [.cont u l]),some key,some val=>match U.eq? u (.mp k v) with
     |some ⟨h⟩=>bif U.key un k then K zaS e (zbe bx b (.var T [.cont (.mp k v) (zgw (keq un k) key val (h▸l:El S (.mp k v)))])) else none|none=>none
   |_,_,_=>none
 |_,_=>none
def zdP(tb:Tb S)(o:Oper):Bool:=match o.dst with
 |some d=>tb.lin.any (Nat.beq d)|none=>false
def zad(ls:List Nat):List Arg->List (PV S)->Option (List (PV S))
 |[],[]=>some []| .one _::as,p::ps=>match zad ls as ps with
   |some l=>some (p::l)|none=>none
 | .agg cs::as,.agg l::ps=>match zad ls as ps with
   |some l'=>bif Nat.beq l.length cs.length then some (l++l') else none|none=>none
 | .ref k::as,.ref b::ps=>bif (match ls[k]? with|some b'=>Nat.beq b b' | none=>false) then zad ls as ps else none| .ptr k off::as,.ptr b off'::ps=>bif (match ls[k]? with|some b'=>Nat.beq b b' | none=>false)&&Nat.beq off off' then zad ls as ps else none| .fn f::as,.func (.func f') [] []::ps=>bif Nat.beq f f' then zad ls as ps else none| .nil::as,.nils::ps=>zad ls as ps| .agr cs k::as,.agg l::ps=>match l[cs.length]?,zad ls as ps with
   |some (.ref b),some l'=>bif (match ls[k]? with|some b'=>Nat.beq b b' | none=>false)&&Nat.beq l.length (cs.length+1) then some (l.take cs.length++l') else none|_,_=>none
 |_,_=>none
def zww:List Arg->List (PV S)->List (PV S)|[],_=>[]| .one _::as,p::ps=>p::zww as ps| .one _::as,[]=>zww as []| .agg cs::as,ps=>.agg (ps.take cs.length)::zww as (ps.drop cs.length)| .ref k::as,ps=>.ref k::zww as ps| .ptr k off::as,ps=>.ptr k off::zww as ps| .fn f::as,ps=>.func (.func f) [] []::zww as ps| .nil::as,ps=>.nils::zww as ps| .agr cs k::as,ps=>.agg (ps.take cs.length++[.ref k])::zww as (ps.drop cs.length)
mutual
def PV.refs:PV S->List Nat
 | .ptr b _=>[b]| .ref b=>[b]| .func _ l r=>znH l++znH r| .agg l=>znH l|_=>[]
def znH:List (PV S)->List Nat
 |[]=>[]|p::r=>p.refs++znH r
end
def zcl(bx:Bxs S):List Nat->List (Bool×TypeId×List CTy)->Bool
 |[],[]=>true|b::ls,(fl,T,_)::bs=>(match zam bx b with
   |some (.var T' cs)=>Nat.beq T' T&&znk fl (match cs with|[.cont _ _]=>false|_=>true)|_=>false)&&zcl bx ls bs
 |_,_=>false
def Cut.tys(c:Cut):List CTy:=c.slots.map (·.2)++(c.tails.map (λ_=>.fr I6)++(c.Kg.map (·.2)).flatten)
def Cut.codes(c:Cut):List U:=c.tys.map CTy.code
def zcB(bx:Bxs S):List (Nat×List CTy)->Option (List (PV S))
 |[]=>some []|(i,l)::r=>match zam bx i,zcB bx r with
   |some (.var _ cs),some ps=>bif Nat.beq cs.length l.length then some (cs++ps) else none|_,_=>none
def zgh(e:Env S):List (Nat×CTy)->Option (List (PV S))
 |[]=>some []|(i,_)::r=>match zvo e i,zgh e r with
   |some p,some ps=>some (p::ps)|_,_=>none
def zaI(bx:Bxs S):List CTy->List (PV S)->List Nat->Bool|[],[],_=>true| .own _ T::r,.row b::ps,l=>(match zam bx b with|some (.own _ T' _)=>Nat.beq T T' | _=>false)&& !l.contains b&&zaI bx r ps (b::l)| .own _ _::r,.nils::ps,l=>zaI bx r ps l| .wr _ T::r,.row b::ps,l=>(match zam bx b with|some (.wr _ T' _)=>Nat.beq T T' | _=>false)&& !l.contains b&&zaI bx r ps (b::l)| .wr _ _::r,.nils::ps,l=>zaI bx r ps l| .nst _ T T2::r,.row b::ps,l=>(match zam bx b with|some (.nst _ T' T2' _ none)=>Nat.beq T T'&&Nat.beq T2 T2' | _=>false)&& !l.contains b&&zaI bx r ps (b::l)| .pt u T::r,.elr b v 0 0::ps,l=>(match zam bx b with|some (.wr u0 T' [_])=>Nat.beq T T'&&(zmm u0 (some u)&&zmm v (some u))|_=>false)&& !l.contains b&&zaI bx r ps (b::l)| .grp u T2::r,.ref b::ps,l=>(match zam bx b with|some (.grp u' T2' _ none)=>Nat.beq T2 T2'&&zmm u (some u')|_=>false)&& !l.contains b&&zaI bx r ps (b::l)| .fr _::r,_::ps,l=>zaI bx r ps l|_,_,_=>false
def fzC(bx:Bxs S):CTy->PV S->PV S
 | .wr _ _,.row b=>match zam bx b with
   |some (.wr u _ l)=>.sl u l|_=>.junk
 | .wr _ _,.nils=>.nils| .wr _ _,_=>.junk| .nst _ _ _,.row b=>match zam bx b with
   |some (.nst u _ _ l none)=>.sl (.sl u) l|_=>.junk
 | .nst _ _ _,_=>.junk| .pt _ _,.elr b _ _ _=>match zam bx b with
   |some (.wr u _ [x])=>inj u x|_=>.junk
 | .pt _ _,_=>.junk| .grp _ _,.ref b=>match zam bx b with
   |some (.grp u _ l none)=>.cont (.mp .str (.sl u)) l|_=>.junk
 | .grp _ _,_=>.junk|_,p=>fz bx p
def zn7(bx:Bxs S):(ts:List CTy)->List (PV S)->Option (ElL S (ts.map CTy.code))
 |[],[]=>some ()|t::ts,p::ps=>match cast un t.code (fzC bx t p),zn7 bx ts ps with
   |some x,some r=>some (x,r)|_,_=>none
 |_,_=>none
def frs:List CTy->List (PV S)->List Nat
 | .fr _::ts,p::ps=>zg1 p++frs ts ps|_::ts,_::ps=>frs ts ps|_,_=>[]
def znx(bx:Bxs S)(ts:List CTy)(ps:List (PV S)):Option (ElL S (ts.map CTy.code)) :=
 bif zaI (zaq (frs ts ps) bx) ts ps [] then zn7 un (zaq (frs ts ps) bx) ts ps else none
def zgf(e:Env S):List (Nat×Nat×U)->Option (List (PV S))
 |[]=>some []|(i,j,u)::r=>match zvo e i,zvo e j,zgf e r with
   |some (.rsl b v k),some (.row b'),some ps=>match U.eq? v u with
     |some _=>bif Nat.beq b b' then some (.int .i64 k::ps) else none|none=>none
   |_,_,_=>none
def zgH(c:Cut)(e:Env S)(bx:Bxs S):Option (ElL S c.codes) :=
 match zgh e c.slots,zgf e c.tails,zcB bx c.Kg with
 |some ps,some os,some qs=>znx un bx c.tys (ps++(os++qs))|_,_,_=>none
def zcI:(ts:List CTy)->ElL S (ts.map CTy.code)->Nat->List (PV S)|[],_,_=>[]| .fr u::r,t,n=>inj u t.1::zcI r t.2 n| .own _ _::r,t,n=>.row n::zcI r t.2 (n+1)| .wr _ _::r,t,n=>.row n::zcI r t.2 (n+1)| .nst _ _ _::r,t,n=>.row n::zcI r t.2 (n+1)| .pt u _::r,t,n=>.elr n u 0 0::zcI r t.2 (n+1)| .grp _ _::r,t,n=>.ref n::zcI r t.2 (n+1)
def zbo:(ts:List CTy)->ElL S (ts.map CTy.code)->Bxs S|[],_=>[]| .fr _::r,t=>zbo r t.2| .own u T::r,t=>.own u T t.1::zbo r t.2| .wr u T::r,t=>.wr u T t.1::zbo r t.2| .nst u T T2::r,t=>.nst u T T2 t.1 none::zbo r t.2| .pt u T::r,t=>.wr u T [t.1]::zbo r t.2| .grp u T2::r,t=>.grp u T2 t.1 none::zbo r t.2
def zcm:List (Nat×CTy)->List (PV S)->Env S|(i,_)::r,p::ps=>(i,p)::zcm r ps|_,_=>[]
def zjT(W:List Nat):List Nat->Env S->Env S|_,[]=>[]|sn,(i,p)::r=>bif sn.contains i then zjT W sn r else bif W.contains i|| !p.rowless then zjT W (i::sn) r else (i,p)::zjT W (i::sn) r
def mask(W:List Nat)(e:Env S):Env S:=zjT W [] e
def zaX:List (Nat×List CTy)->List (PV S)->Bxs S->Bxs S|[],_,bx=>bx|(i,l)::r,ps,bx=>zaX r (ps.drop l.length) (match zam bx i with|some (.var T _)=>zbe bx i (.var T (ps.take l.length))|_=>bx)
def ziz(p:PV S):PV S:=bif p.rowless then p else .junk
def Box.calm:Box S->Box S| .var T cs=>.var T (cs.map ziz)| .lk b=>.lk b.calm| .ro b=>.ro b.calm|b=>b
def zbg:Bxs S->Bxs S|[]=>[]| .own _ _ _::r=>.gone::zbg r| .wr _ _ _::r=>.gone::zbg r| .nst _ _ _ _ _::r=>.gone::zbg r| .grp _ _ _ _::r=>.gone::zbg r|b::r=>b.calm::zbg r
def zav(c:List (Nat×List CTy)):Nat->Bxs S->Bxs S|_,[]=>[]|i,.var T cs::r=>(bif (c.map (·.1)).contains i then .var T cs else .lk (.var T cs))::zav c (i+1) r|i,.lk b::r=>.lk (.lk b)::zav c (i+1) r|i,b::r=>b::zav c (i+1) r
def unlock:Nat->Bxs S->Bxs S->Bxs S|0,_,bx=>bx|n+1,.lk _::r',.lk b::r=>b::unlock n r' r|n+1,_::r',b::r=>b::unlock n r' r|_+1,[],bx=>bx|_+1,_,[]=>[]
def zcE(z:Env S):List (Nat×Nat×U)->List (PV S)->Env S
 |(i,j,u)::r,p::ps=>match p,zvo z j with
   | .int _ k,some (.row m)=>(i,.rsl m u k.toNat)::zcE z r ps|_,_=>zcE z r ps
 |_,_=>[]
def mkEnv(c:Cut)(W:List Nat)(e:Env S)(n:Nat)(t:ElL S c.codes):Env S :=
 zcE (zcm c.slots (zcI c.tys t n)) c.tails ((zcI c.tys t n).drop c.slots.length)++(zcm c.slots (zcI c.tys t n)++mask (c.tails.map (·.1)++W) e)
def zg8(ks:List Nat):Nat->Bxs S->Bxs S|_,[]=>[]|k,.var T cs::r=>(bif ks.contains k then .var T (cs.map λ_=>.junk) else .var T cs)::zg8 ks (k+1) r|k,b::r=>b::zg8 ks (k+1) r
def zhP(c:Cut)(bx:Bxs S)(t:ElL S c.codes):Bxs S :=
 zaX c.Kg ((zcI c.tys t bx.length).drop (c.slots.length+c.tails.length)) (zg8 (c.Kg.map (·.1)) 0 (zbg bx))++zbo c.tys t
def zq7:List CTy->Bool|[]=>true| .nst _ _ _::_=>false| .pt _ _::_=>false| .grp _ _::_=>false|_::r=>zq7 r
def zcC(bx:Bxs S):List CTy->List (PV S)->List (Nat×PV S)| .own _ _::ts,.row b::ps=>(b,fz1 bx (.row b))::zcC bx ts ps| .wr _ _::ts,.row b::ps=>(b,.junk)::zcC bx ts ps| .nst _ _ _::ts,.row b::ps=>(b,.junk)::zcC bx ts ps| .pt _ _::ts,.elr b _ _ _::ps=>(b,.junk)::zcC bx ts ps| .grp _ _::ts,.ref b::ps=>(b,.junk)::zcC bx ts ps|_::ts,_::ps=>zcC bx ts ps|_,_=>[]
def zko:List (Nat×PV S)->Env S->Env S|[],e=>e|(b,y)::r,e=>zko r (zcW b y e)
def zd4:List (Nat×PV S)->Bxs S->Bxs S|[],bx=>bx|(b,y)::r,bx=>zd4 r (zbe (bx.map (Box.kill b y)) b .gone)
def zgB{R:Type}(e:Env S)(bx:Bxs S)(l:List (PV S))(g:Sg)(ask:g.In S->Option (g.Out S))(K:PV S->Env S->Bxs S->Option R)(KX:Exit->Env S->Bxs S->Option R):Option R :=
 let ls:=nub [] (znH l)
 match zad ls g.as l,zcB bx (ls.zip (g.bs.map (·.2.2))) with
 | some ps,some qs=>bif zcl bx ls g.bs&&zq7 (g.ins++g.outs) then
   match znx un bx g.ins (qs++ps) with
   |some t =>
     let bx1:=zaq (frs g.ins (qs++ps)) bx
     let tk:=zcC bx1 g.ins (qs++ps)
     oc (ask t) (λr=>K (zfI (zww g.rs ((zcI g.outs r bx.length).drop qs.length))) (zko tk e) (zaX (ls.zip (g.bs.map (·.2.2))) (zcI g.outs r bx.length) (zd4 tk bx1)++zbo g.outs r))
      λp=>KX (.panic [zsg g.pan g.ps p]) (zko tk e) (zeY ls (zd4 tk bx1))
   |none=>none
  else none
 |_,_=>none
def isSl:U->Bool| .sl _=>true|_=>false
def zlW{R:Type}(e:Env S)(bx:Bxs S)(T:TypeId)(u:U)(a:Int)(K:PV S->Env S->Bxs S->Option R):Option R :=
 match u,tb.ty.get T with
 | .sl v,some r=>match r.elem,r.zero with
   |some (T2,_),[.nils]=>ob (zlG a ([]:List (El S v))) λl=>K (.row bx.length) e (bx++[.nst v T T2 l none])|_,_=>none
 |_,_=>none
def zlX{R:Type}(o:Oper)(e:Env S)(bx:Bxs S)(t:TypeId)(x:Operand)(K:PV S->Env S->Bxs S->Option R)(K0:Option R):Option R :=
 bif zdP tb o then match ev e x with
  |some (.elr b w i off)=>match zam bx b,tb.ty.get t with
    |some (.nst u T T2 l none),some r=>match U.eq? w (.sl u) with
      |some _=>bif Nat.beq off 0&& !r.agg then ob (zdc l i) λm=>K (.row bx.length) e (zbe bx b (.nst u T T2 l (some i))++[.wr u T2 m]) else none|none=>none
    |some (.nst _ _ _ _ _),_=>none|_,_=>K0
  |_=>K0
 else K0
def zlY{R:Type}(o:Oper)(e:Env S)(bx:Bxs S)(t:TypeId)(x i:Operand)(K:PV S->Env S->Bxs S->Option R)(K0:Option R):Option R :=
 bif zdP tb o then match ev e x with
  |some (.row b)=>match zam bx b,ev e i,tb.ty.get t with
    |some (.nst u T T2 l h),some (.int _ n),some r=>bif Nat.beq r.kd 2&&zmm (.sl u) (r.elem.map (·.2)) then ob (zcX l n) λj=>K (.elr b (.sl u) j 0) e bx else none|some (.nst _ _ _ _ _),_,_=>none|_,_,_=>K0
  |_=>K0
 else K0
def zjM{R:Type}(e:Env S)(bx:Bxs S)(b i:Nat)(w:U)(u:U)(T T2:TypeId)(l:List (List (El S u)))(h:Option Nat)(p:PV S)(K:PV S->Env S->Bxs S->Option R):Option R :=
 match U.eq? w (.sl u),h,p with
 |some _,some j,.row k=>match zam bx k with
   |some (.wr v T2' m)=>match U.eq? v u with
     |some ⟨hv⟩=>bif (Nat.beq T2 T2'&& !Nat.beq b k)&&(Nat.beq j i&&Nat.blt i l.length) then K zaS (zcW k .junk e) (zbe (zbe (bx.map (Box.kill k .junk)) k .gone) b (.nst u T T2 (l.set i (hv▸m:List (El S u))) none)) else none|none=>none
   |_=>none
 |_,_,_=>none
def zqd:PV S->Bool| .int _ _=>true| .bool _=>true| .str _=>true|_=>false
def znF:PV S->Bool| .tup l=>l.all zqd|p=>zqd p
def zqH(bx:Bxs S)(l:List (PV S))(rs:List U):Bool :=
 rs.all U.scalar&&(zdi l).any λb=>match zam bx b with|some (.wr _ _ _)=>true|_=>false
def zfa{R:Type}(o:Oper)(e:Env S)(bx:Bxs S)(K:PV S->Env S->Bxs S->Option R)(KX:Exit->Env S->Bxs S->Option R):Option R :=
 match o.op with
 | .makeMap t none=>match (tb.ty.get t).bind (·.mp) with
   |some (_,k,_,v)=>K (.ref bx.length) e (bx++[.var t [.cont (.mp k v) []]])|none=>none
 | .mapUpdate t m x y=>zk4 un tb e bx t m x y K| .insert t m x y=>zk4 un tb e bx t m x y K| .makeSlice t n c=>match ev e n,ev e c,(tb.ty.get t).bind (·.elem) with
   |some (.int _ a),some (.int _ b),some (T,u)=>match zdZ un tb T u with
     | some z=>bif zdP tb o&&(isSl u&&ziI n c) then zlW tb e bx T u a K
       else bif ziI n c then ob (zlG a z) λl=>K (.row bx.length) e (bx++[.wr u T l])
       else bif a==0 then ob (zlG b z) λ_=>K (.row bx.length) e (bx++[.wr u T []]) else none
     |none=>none
   |_,_,_=>none
 | .convert s d x=>match ev e x,tb.ty.get s,tb.ty.get d with
   |some (.str l),some rs,some r=>match r.elem with
     |some (T,.int .u8)=>bif (Nat.beq rs.kd 1&&Nat.beq r.kd 2)&&zrL tb T then ob (zdJ [] l) λl=>K (.ref bx.length) e (bx++[.var T [.cont (.rw (.int .u8)) (zaT l)]]) else none|_=>zhf un tb orc inl o e bx λp=>K p e bx
   |_,_,_=>zhf un tb orc inl o e bx λp=>K p e bx
 | .store t a x=>match ev e a with
   |some (.elr b u i off)=>match ev e x,tb.ty.get t,zam bx b with
     |some p,some r,some (.nst v T T2 l h)=>bif Nat.beq off 0&&Nat.beq r.n 1 then zjM e bx b i u v T T2 l h p K else none|some p,some r,some (.wr v T l)=>match U.eq? v u with
       |some ⟨h⟩=>ob (zdc (h▸l:List (El S u)) i) λy=>(match znQ un bx u y off r.n p with
         |some z=>K zaS e (zbe bx b (.wr u T ((h▸l:List (El S u)).set i z)))|none=>none)
       |none=>none
     |some p,some r,some (.var T [.cont (.rw v) l])=>match U.eq? v u with
       |some ⟨h⟩=>ob (zdc (h▸l:List (El S u)) i) λy=>(match znQ un bx u y off r.n p with
         |some z=>K zaS e (zbe bx b (.var T [.cont (.rw u) ((h▸l:List (El S u)).set i z)]))|none=>none)
       |none=>none
     |_,_,_=>none
   |_=>zc8 un tb orc inl o e bx K KX
 | .load t x=>zlX tb o e bx t x K (zc8 un tb orc inl o e bx K KX)| .indexAddr t x i=>zlY tb o e bx t x i K (zc8 un tb orc inl o e bx K KX)| .buildSlice t n parts=>bif zdP tb o then (match zck e parts.toList,(tb.ty.get t).bind (·.elem) with
   |some l,some (T,u) =>
     bif Nat.beq l.length n&&zel 0 l&&Nat.ble (n*U.size un u) 16777216 then
      match zep un (zaq (zdi (l.map (·.2))) bx) u (l.map (·.2)) with
      |some xs=>K (.row bx.length) e (zaq (zdi (l.map (·.2))) bx++[.wr u T xs])|none=>none
     else none
   |_,_=>none) else zc8 un tb orc inl o e bx K KX
 | .slice t x lo hi none=>match ev e x with
   |some (.row b)=>match zam bx b,tb.ty.get t with
     | some (.wr u T l),some r=>bif Nat.beq r.kd 2&&zmm u (r.elem.map (·.2)) then
       (match (match lo with|some a=>ev e a|none=>some (.int .i64 0)),(match hi with|some a=>ev e a|none=>some (.int .i64 (len l))) with
       |some (.int _ (.ofNat 0)),some (.int _ j)=>ob (zhN l 0 j) λs=>K (.row b) (zcW b .junk e) (zbe (bx.map (Box.kill b .junk)) b (.wr u T s))|_,_=>none) else none
     |_,_=>zc8 un tb orc inl o e bx K KX
   |_=>zc8 un tb orc inl o e bx K KX
 | .call c =>
   match c.callee with
   | .builtin .append=>match evs e c.args.toList,twice c.argTypes.toList with
     |some [s,x],some t=>match (tb.ty.get t).bind (·.elem) with
      |none=>none|some (T,u)=>match s with
       | .nils=>bif zdP tb o then (match zj8 un (zaq (zg1 x) bx) u x with
         |some new=>ob (zdJ [] new) λl=>K (.row bx.length) e (zaq (zg1 x) bx++[.wr u T l])|none=>none) else zc8 un tb orc inl o e (zaq (zg1 x) bx) K KX
       | .row b=>match zam (zaq (zg1 x) bx) b with
         |some (.wr v T' old)=>match zj8 un (zaq (zg1 x) bx) u x,U.eq? v u with
           |some new,some ⟨h⟩=>bif Nat.beq T T' then ob (zdJ (h▸old) new) λl=>K (.row b) (zcW b .junk e) (zbe ((zaq (zg1 x) bx).map (Box.kill b .junk)) b (.wr u T l)) else none|_,_=>none
         |_=>zc8 un tb orc inl o e (zaq (zg1 x) bx) K KX
       |_=>zc8 un tb orc inl o e bx K KX
     |_,_=>none
   | .value _=>match zcS e c with
     |some (f,l)=>match tb.sig.get f with
       |some (.lin g)=>zgB un e bx l g (λt=>orc.l f g t) K KX|some (.data _ rs)=>bif zqH bx l rs then zhf un tb orc inl o e (zaq (zdi l) bx) λp=>bif znF p then K p e bx else none else zc8 un tb orc inl o e (zaq (zdi l) bx) K KX|some (.inl _ _ rs)=>bif zqH bx l rs then zhf un tb orc inl o e (zaq (zdi l) bx) λp=>bif znF p then K p e bx else none else zc8 un tb orc inl o e (zaq (zdi l) bx) K KX|_=>zc8 un tb orc inl o e (zaq (zdi l) bx) K KX
     |none=>none
   |_=>zc8 un tb orc inl o e bx K KX
 |_=>zc8 un tb orc inl o e bx K KX
def zAU(l:List Int):Option By:=bif l.all λn=>decide (0<=n)&&decide (n<256) then some (zjt l) else none
def zkd{R:Type}(e:Env S)(bx:Bxs S)(k:Nat)(T E:TypeId)(l:List (PV S))(K:PV S->Env S->Bxs S->Option R):Option R :=
 match l with
 | .bref b T1::rest=>match zam bx b with
   |some (.var T2 [.row r])=>match zam bx r with
     | some (.wr (.int .u8) E1 l)=>bif (Nat.beq T1 T&&Nat.beq T2 T)&&(Nat.beq E1 E&& !Nat.beq b r) then
       (match k,rest with
       |0,[.int .u8 c]=>ob (zdJ l [c]) λl=>K .nilIface (zcW r .junk e) (zbe (zbe (bx.map (Box.kill r .junk)) r (.wr (.int .u8) E1 l)) b (.var T2 [.row r]))|1,[.str s]=>ob (zdJ l (zaT s)) λl=>K (.tup [.int .i64 (len s),.nilIface]) (zcW r .junk e) (zbe (zbe (bx.map (Box.kill r .junk)) r (.wr (.int .u8) E1 l)) b (.var T2 [.row r]))|2,[]=>ob (zAU l) λs=>K (.str s) (zcW r .junk e) (zbe (zbe (bx.map (Box.kill r .junk)) r .gone) b (.var T2 [.junk]))|3,[]=>K (.int .i64 (len l)) e bx|_,_=>none) else none
     |_=>none
   |_=>none
 |_=>none
def zhl{R:Type}(e:Env S)(bx:Bxs S)(u:U)(T:TypeId)(us:List (Option U))(l:List (PV S))(ask:List (PV S)->List (El S u)->Option (List (El S u)))(K:PV S->Env S->Bxs S->Option R):Option R :=
 match l with
 | .nils::rest=>match zg7 un bx us rest with
   |some args=>ob (ask args []) λ_=>K (.tup []) e bx|none=>none
 | .row r::rest=>match zg7 un bx us rest,zam bx r with
   |some args,some (.wr v T1 l)=>match U.eq? v u with
     |some ⟨h⟩=>bif Nat.beq T1 T then ob (ask args (h▸l)) λl'=>K (.tup []) e (zbe bx r (.wr u T1 l')) else none|none=>none
   |_,_=>none
 |_=>none
def znp:PV S->Option (List (PV S))| .agg l=>some l| .st n x=>some (zdN un (.st n) x)|_=>none
def zte(u:U)(cs:List (PV S)):List (Nat×Nat)->Option (List (El S u))
 |[]=>some []|(off,n)::r=>match bif Nat.ble (off+n) cs.length then zgG un u ((cs.drop off).take n) else none,zte u cs r with
   |some x,some l=>some (x::l)|_,_=>none
def zhs{α:Type}(l:List α)(n:Int):Option Nat:=match n with
 | .ofNat k=>bif Nat.ble k l.length&&Nat.blt 0 l.length then some k else none| .negSucc _=>none
def zif{R:Type}(bx:Bxs S)(T:TypeId)(u:U):List (PV S)->(PV S->Bxs S->Option R)->Option R
 |[.rsl b v i],K=>match U.eq? v u,zam bx b,zdZ un tb T u with
   |some _,some (.wr v2 T' l),some z=>match U.eq? v2 u with
     |some ⟨h⟩=>bif Nat.beq T' T&&Nat.ble i l.length then K (.tup []) (zbe bx b (.wr u T' ((h▸l:List (El S u)).take i++List.replicate (l.length - i) z))) else none|none=>none
   |_,_,_=>none
 |_,_=>none
def zop(tb:Tb S)(e:Env S)(bx:Bxs S)(t:TypeId)(x lo:Operand):Option (Nat×((u:U)×List (El S u))×Int):=match ev e x with
 |some (.row b)=>match zam bx b,(tb.ty.get t).bind (·.elem),ev e lo with
   |some (.wr u T l),some (T',u'),some (.int _ n)=>bif zmm u (some u')&&Nat.beq T T' then some (b,⟨u,l⟩,n) else none|_,_,_=>none
 |_=>none
def zsQ(tb:Tb S)(o:Oper)(e:Env S)(bx:Bxs S)(t:TypeId)(x lo:Operand):Option (Nat×TypeId×((u:U)×List (El S u))×Int):=bif zdP tb o then (match ev e x with
 |some (.row b)=>match zam bx b,(tb.ty.get t).bind (·.elem),ev e lo with
   |some (.own u T l),some (T',u'),some (.int _ n)=>bif zmm u (some u')&&Nat.beq T T' then some (b,T,⟨u,l⟩,n) else none|_,_,_=>none
 |_=>none) else none
def zsy(tb:Tb S)(o:Oper)(T:TypeId):Option ((u:U)×El S u):=bif zdP tb o then (match (tb.ty.get T).bind (·.code) with
 |some u=>(zdZ un tb T u).map λz=>⟨u,z⟩|none=>none) else none
def zy2{R:Type}(o:Oper)(e:Env S)(bx:Bxs S)(K:PV S->Env S->Bxs S->Option R)(KX:Exit->Env S->Bxs S->Option R):Option R :=
 match o.op with
 | .alloc T=>match zsy un tb o T with
   |some ⟨u,z⟩=>K (.elr bx.length u 0 0) e (bx++[.wr u T [z]])|none=>match tb.bld with
     |some (T1,E)=>bif Nat.beq T1 T then (match tb.ty.get T with
       |some r=>(match r.zero with
         |[.nilp,.nils]=>K (.bref bx.length T) e (bx++[.var T [.row (bx.length+1)],.wr (.int .u8) E []])|_=>none)
       |none=>none) else zfa un tb orc inl o e bx K KX
     |none=>zfa un tb orc inl o e bx K KX
 | .index t x i=>match (tb.ty.get t).bind (·.arr),tb.ty.get t with
   |some (_,u),some r=>match (ev e x).bind (znp un),ev e i with
     |some cs,some (.int _ n)=>match zte un u cs r.fields with
       |some l=>ob (at? l n) λy=>K (inj u y) e bx|none=>none
     |_,_=>none
   |_,_=>zfa un tb orc inl o e bx K KX
 | .slice t x (some lo) none none=>match zsQ tb o e bx t x lo with
   |some (b,T,⟨u,l⟩,n)=>ob (zhs l n) λi=>K (.row b) (zcW b (.sl u l) e) (zbe (bx.map (Box.kill b (.sl u l))) b (.own u T (l.drop i)))|none=>match zop tb e bx t x lo with
     |some (b,⟨u,l⟩,n)=>ob (zhs l n) λi=>K (.rsl b u i) e bx|none=>zfa un tb orc inl o e bx K KX
 | .call c=>match c.callee with
   | .builtin .clear=>match evs e c.args.toList,((c.argTypes[0]?).bind tb.ty.get).bind (·.elem) with
     |some l,some (T,u)=>zif un tb bx T u l λp bx'=>K p e bx'|_,_=>none
   | .value _=>match zcS e c with
     |some (f,l)=>match tb.sig.get f with
       |some (.bld k T E)=>zkd e bx k T E l K|some (.inpl u T us)=>zhl un e bx u T us l (λargs l=>orc.p f u T args l) K|_=>zfa un tb orc inl o e bx K KX
     |none=>none
   |_=>zfa un tb orc inl o e bx K KX
 |_=>zfa un tb orc inl o e bx K KX
def zDn(t:TypeId):Bool:=match tb.ty.get t with
 |some r=> !r.agg&&(match r.zero with|[.nils]=>true|_=>false)|none=>false
def zCV(t:TypeId):Option (U×TypeId):=match (tb.ty.get t).bind (·.mp) with
 |some (_,.str,vt,.sl u)=>match (tb.ty.get vt).bind (·.elem) with
   |some (T2,_)=>bif zDn tb vt then some (u,T2) else none|none=>none
 |_=>none
def zCX(o:Oper):Bool:=match o.dst with
 |some d=>tb.lin.any (Nat.beq (d+1000000))|none=>false
def zCn{R:Type}(o:Oper)(e:Env S)(bx:Bxs S)(t:TypeId)(m x:Operand)(K:PV S->Env S->Bxs S->Option R)(K0:Option R):Option R :=
 match ev e m with
 |some (.ref b)=>match zam bx b with
   |some (.grp u T2 l h)=>match ev e x,h,zCV tb t with
     | some (.str key),none,some (u',T2')=>bif zmm u (some u')&&Nat.beq T2 T2' then (
       bif zdP tb o then K (.row bx.length) e (zbe bx b (.grp u T2 l (some key))++[.own u T2 (zdh (keq un .str) key ([]:List (El S u)) l)])
       else bif zCX tb o then (match (zdh (keq un .str) key ([]:List (El S u)) l:List (El S u)) with
        |[]=>K .nils e bx|y::r=>K (.sl u (y::r)) e bx)
       else K0) else none
     |_,_,_=>none
   |_=>K0
 |_=>K0
def zCx{R:Type}(e:Env S)(bx:Bxs S)(t:TypeId)(m x y:Operand)(K:PV S->Env S->Bxs S->Option R)(K0:Option R):Option R :=
 match ev e m with
 |some (.ref b)=>match zam bx b with
   |some (.grp u T2 l h)=>match ev e x,h,ev e y,zCV tb t with
     |some (.str key),some k0,some (.row j),some _=>match zam bx j with
       |some (.own v T r)=>match U.eq? v u with
         |some ⟨hv⟩=>bif (Nat.beq T T2&& !Nat.beq b j)&&(key==k0&&Nat.blt 0 r.length) then K zaS (zcW j .junk e) (zbe (zbe (bx.map (Box.kill j .junk)) j .gone) b (.grp u T2 (zgw (keq un .str) key (hv▸r:List (El S u)) l) none)) else none|none=>none
       |_=>none
     |_,_,_,_=>none
   |_=>K0
 |_=>K0
def zpS{R:Type}(o:Oper)(e:Env S)(bx:Bxs S)(K:PV S->Env S->Bxs S->Option R)(KX:Exit->Env S->Bxs S->Option R):Option R :=
 match o.op with
 | .makeMap t none=>bif zdP tb o then (match zCV tb t with
   |some (u,T2)=>K (.ref bx.length) e (bx++[.grp u T2 [] none])|none=>none) else zy2 un tb orc inl o e bx K KX
 | .lookup t m x false=>zCn un tb o e bx t m x K (zy2 un tb orc inl o e bx K KX)| .mapUpdate t m x y=>zCx un tb e bx t m x y K (zy2 un tb orc inl o e bx K KX)| .insert t m x y=>zCx un tb e bx t m x y K (zy2 un tb orc inl o e bx K KX)| .call c=>match c.callee with
   | .builtin .append=>match evs e c.args.toList,twice c.argTypes.toList with
     |some [.cont (.cs u0) old,x],some t=>match (tb.ty.get t).bind (·.elem) with
       |some (T,u)=>match zj8 un (zaq (zg1 x) bx) u x,U.eq? u0 u with
         |some new,some ⟨h⟩=>bif Nat.blt 0 (List.length new) then ob (zdJ (h▸(show List (El S u0) from old):List (El S u)) new) λl=>K (.row bx.length) e (zaq (zg1 x) bx++[bif zdP tb o then .wr u T l else .own u T l]) else none|_,_=>none
       |none=>none
     |_,_=>zy2 un tb orc inl o e bx K KX
   |_=>zy2 un tb orc inl o e bx K KX
 |_=>zy2 un tb orc inl o e bx K KX
def push:Option Nat->PV S->Env S->Env S|some d,v,e=>(d,v)::e|none,_,e=>e
def zfT(ops:List Oper)(o:Oper):Option (Nat×Bool) :=
 match o.guard with
 |some (j,want)=>match ops[j]? with
   |some oj=>match oj.dst with
     |some d=>some (d,want)|none=>none
   |none=>none
 |none=>none
def zky(d:Nat):List Oper->Option (List Oper×Nat×List Oper)
 |[]=>none|o::l=>match o.op,o.dst with
   | .pick (.tmp t) _ _,some dd=>bif Nat.beq t d then some ([o],dd,l) else (match zky d l with|some (s,x,r)=>some (o::s,x,r)|none=>none)|_,_=>match zky d l with|some (s,x,r)=>some (o::s,x,r)|none=>none
def zdH(ops:List Oper)(bx:Bxs S):Nat->List (Nat×Bool)->List Oper->Env S->(R:Type)->(Env S->Option R)->Option R
 |_,_,[],e,_,K=>K e|0,_,_::_,_,_,_=>none|n+1,kn,o::l,e,R,K =>
   match o.guard with
   |none=>zhf un tb orc inl o e bx λp=>zdH ops bx n (zdX o.dst kn) l (push o.dst p e) R K|some _=>match zfT ops o with
     |none=>none|some (d,want)=>match zdo kn d with
       | some v=>bif znk v want then zhf un tb orc inl o e bx λp=>zdH ops bx n (zdX o.dst kn) l (push o.dst p e) R K
         else zdH ops bx n (zdX o.dst kn) l (push o.dst zaS e) R K
       |none=>match zvo e d with
         |some (.tup [])=>zdH ops bx n (zdX o.dst kn) l (push o.dst zaS e) R K|some (.bool b)=>match zky d (o::l) with
           |some (sg,dd,r) =>
             ob (br b (zdH ops bx n ((d,true)::kn) sg ((d,.bool true)::e) Bool (asB dd)) (zdH ops bx n ((d,false)::kn) sg ((d,.bool false)::e) Bool (asB dd)))
              λv=>zdH ops bx n (zn3 (zbi sg) kn) r ((dd,.bool v)::zaG (zbi sg) e) R K
           |none=>none
         |_=>none
def zls{R:Type}(ops:List Oper)(KX:Exit->Env S->Bxs S->Option R):Nat->List Oper->Env S->Bxs S->(Env S->Bxs S->Option R)->Option R
 |_,[],e,bx,K=>K e bx|0,_::_,_,_,_=>none|n+1,o::l,e,bx,K =>
   match o.guard with
   |none=>zpS un tb orc inl o e bx (λp e' bx'=>zls ops KX n l (push o.dst p e') bx' K) KX|some _=>match zfT ops o with
     |none=>none|some (d,_)=>match zvo e d,zky d (o::l) with
       |some (.bool b),some (sg,dd,r) =>
         ob (br b (zdH un tb orc inl ops bx (2*sg.length) [(d,true)] sg ((d,.bool true)::e) Bool (asB dd)) (zdH un tb orc inl ops bx (2*sg.length) [(d,false)] sg ((d,.bool false)::e) Bool (asB dd)))
          λv=>zls ops KX n r ((dd,.bool v)::zaG (zbi sg) e) bx K
       |_,_=>none
def zfn{R:Type}(ops:List Oper)(KX:Exit->Env S->Bxs S->Option R):Nat->List (Nat×Bool)->List Oper->Env S->Bxs S->(Env S->Bxs S->Option R)->Option R
 |_,_,[],e,bx,K=>K e bx|0,_,_::_,_,_,_=>none|n+1,kn,o::l,e,bx,K =>
   match o.guard with
   |none=>zpS un tb orc inl o e bx (λp e' bx'=>zfn ops KX n (zdX o.dst kn) l (push o.dst p e') bx' K) KX|some _=>match zfT ops o with
     |none=>none|some (d,want)=>match zdo kn d with
       | some v=>bif znk v want then zpS un tb orc inl o e bx (λp e' bx'=>zfn ops KX n (zdX o.dst kn) l (push o.dst p e') bx' K) KX
         else zfn ops KX n (zdX o.dst kn) l (push o.dst zaS e) bx K
       |none=>match zvo e d with
         |some (.tup [])=>zfn ops KX n (zdX o.dst kn) l (push o.dst zaS e) bx K|some (.bool b)=>br b (zfn ops KX n ((d,true)::kn) (o::l) ((d,.bool true)::e) bx K) (zfn ops KX n ((d,false)::kn) (o::l) ((d,.bool false)::e) bx K)|_=>none
open Classical in
noncomputable def same{R:Type}(x y:Option R):Option R:=if x=y then x else none
def zcj(l:List Operand):List Nat:=l.filterMap fun | .tmp t=>some t|_=>none
def edge(ops:Array Oper)(i j:Nat):Bool:=match ops[j]? with|some o=>o.after.any λe=>Region.binds .any e&&Nat.beq e.on i|none=>false
def zdM(ops:Array Oper):List Nat->List Nat->List Nat
 |acc,[]=>acc|acc,j::r=>bif acc.any λk=>edge ops k j then zdM ops (j::acc) r else zdM ops acc r
def zrF{α:Type}:List (Nat×α)->Nat->Option α|[],_=>none|(i,x)::r,k=>bif Nat.beq i k then some x else zrF r k
def zdr:Code->Option Nat
 | .region id _ _=>some id| .seq a b=>match zdr a with|some i=>some i|none=>zdr b
 | .cond _ a b=>match zdr a with|some i=>some i|none=>zdr b
 | .block _ a=>zdr a| .loop a=>zdr a| .scope a=>zdr a|_=>none
def zaW:Code->List Nat
 | .region _ ops _=>ops.toList.filterMap (·.dst)| .seq a b=>zaW a++zaW b| .cond _ a b=>zaW a++zaW b| .block _ a=>zaW a| .loop a=>zaW a| .scope a=>zaW a|_=>[]
def zy4(ops:Array Oper)(m:Nat):Bool:=(List.range ops.size).all λj=>Nat.blt j m||(List.range j).all λi=>(zdM ops [i] (List.range ops.size)).contains j
def za7(an:Ann):Code->List Nat
 | .region _ ops _=>zbi ops.toList| .seq a b=>za7 an a++za7 an b++(match (zdr b).bind an.cut.get with|some c=>c.names|none=>[])| .cond _ a b=>za7 an a++za7 an b| .block _ a=>za7 an a| .loop a=>za7 an a++(match (zdr a).bind an.loop.get with|some c=>c.names|none=>[])| .scope a=>za7 an a|_=>[]
def zgu(ops:List Oper):Bool :=
 let after (i j:Nat):Bool:=match ops[j]? with|some o=>o.after.any λe=>Region.binds .any e&&Nat.beq e.on i|none=>false
 let idx:=ops.zipIdx
 (idx.all λ(oi,i)=>oi.after.all λe=> !Region.binds .any e||Nat.blt e.on i)&&idx.all λ(oi,i)=>idx.all λ(oj,j) =>
  Nat.beq i j||(match oi.dst with
   |none=>true|some d=>(oj.dst != some d)&&(!(oj.looksAt ops.toArray).contains d||(bif Nat.blt i j then after i j else after j i)))
mutual
def PV.hits:PV S->List Nat
 | .row j=>[j]| .ref j=>[j]| .ptr j _=>[j]| .bref j _=>[j]| .elr j _ _ _=>[j]| .rsl j _ _=>[j]| .agg l=>zlg l| .tup l=>zlg l| .func _ l r=>zlg l++zlg r| .iface _ v=>v.hits|_=>[]
def zlg:List (PV S)->List Nat
 |[]=>[]|p::r=>p.hits++zlg r
end
def Box.hits:Box S->List Nat
 | .var _ cs=>zlg cs| .lk b=>b.hits| .ro b=>b.hits|_=>[]
mutual
def PV.names:PV S->PV S->List Nat
 | .row i,.row j=>bif Nat.beq i j then [i] else []| .ref i,.ref j=>bif Nat.beq i j then [i] else []| .ptr i a,.ptr j b=>bif Nat.beq i j&&Nat.beq a b then [i] else []| .bref i T,.bref j T2=>bif Nat.beq i j&&Nat.beq T T2 then [i] else []| .agg l,.agg r=>zgP l r|_,_=>[]
def zgP:List (PV S)->List (PV S)->List Nat
 |p::r,q::t=>p.names q++zgP r t|_,_=>[]
end
def disj(l r:List Nat):Bool:=l.all λi=> !r.contains i
def below(n:Nat)(l:List Nat):Bool:=l.all λi=>Nat.blt i n
def zhy:Box S->Box S| .var T cs=>.ro (.var T cs)| .own u T l=>.ro (.own u T l)| .wr u T l=>.ro (.wr u T l)|_=>.gone
def zjU(f:Fp):Nat->Bxs S->Bxs S|_,[]=>[]|k,b::r=>(bif f.foot.contains k then b else bif f.see.contains k then zhy b.base else .gone)::zjU f (k+1) r
def PV.junk1(dead:List Nat)(p:PV S):PV S:=bif dead.any (λb=>p.says b) then .junk else p
def PV.junkA(dead:List Nat):PV S->PV S| .agg l=>.agg (l.map (PV.junk1 dead))|p=>p.junk1 dead
def Box.junkA(dead:List Nat):Box S->Box S| .var T cs=>.var T (cs.map (PV.junk1 dead))|b=>b
def zeW(f:Fp):Nat->Bxs S->Bxs S->Bxs S|_,[],r=>r|k,b::r,b'::r'=>(bif f.foot.contains k then b' else b.junkA f.dead)::zeW f (k+1) r r'|_,_::_,[]=>[]
def zfz(ts:List Nat):Env S->Env S|[]=>[]|(i,p)::r=>bif ts.contains i then (i,p)::zfz ts r else zfz ts r
def zjY(dead:List Nat):Env S->Env S|[]=>[]|(i,p)::r=>(i,p.junkA dead)::zjY dead r
def zdd:Env S->List Nat
 |[]=>[]|(_,p)::r=>p.hits++zdd r
def zb7(bx:Bxs S):List Nat->List Nat
 |[]=>[]|k::r=>(match zam bx k with|some b=>b.hits|none=>[])++zb7 bx r
structure Rc where
 i:Nat
 lo:Nat
 hi:Nat
 f:Fp
 hits:List Nat
def Rc.not(r:Rc)(l:List Nat):Bool:=l.all λk=>Nat.blt k r.lo||Nat.ble r.hi k
def zi6(bx:Bxs S)(k:Nat):Bool:=match zam bx k with
 |some (.var _ _)=>true|some (.own _ _ _)=>true|some (.wr _ _ _)=>true|some (.nst _ _ _ _ _)=>true|some (.grp _ _ _ _)=>true|_=>false
def zhL(bx:Bxs S)(k:Nat):Bool:=match zam bx k with
 |some .gone=>true|some (.var _ _)=>true|some (.own _ _ _)=>true|some (.wr _ _ _)=>true|some (.nst _ _ _ _ _)=>true|some (.grp _ _ _ _)=>true|_=>false
def zoE(bx:Bxs S)(k:Nat):Bool:=match zam bx k with
 |some (.own _ _ _)=>true|some (.wr _ _ _)=>true|some (.nst _ _ _ _ _)=>true|_=>false
def zdz(e e':Env S):List Nat->List Nat
 |[]=>[]|t::r=>(match zvo e t,zvo e' t with|some p,some q=>p.names q|_,_=>[])++zdz e e' r
def zim(ps:List Nat)(b0 b':Bxs S):List Nat->List Nat
 |[]=>[]|k::r=>(bif ps.contains k then (match zam b0 k,zam b' k with|some (.ro (.var _ cs)),some (.ro (.var _ cs'))=>bif Nat.blt 1 cs.length then zgP cs cs' else []|_,_=>[]) else [])++zim ps b0 b' r
def zsM:Option (Box S)->Bool|some (.var _ _)=>true|_=>false
def zcH(o:Oper)(f:Fp):List Nat:=zcj o.op.operands.toList++f.pins
def zcO(n:Nat):Bxs S->List Nat
 |[]=>[]|_::r=>n::zcO (n+1) r
def zdj(f:Fp)(e0:Env S)(b0:Bxs S)(p:PV S)(b':Bxs S):List Nat :=
 zdd e0++(zb7 b0 (f.foot++f.see)++(p.hits++zb7 b' (f.foot++zcO b0.length (b'.drop b0.length))))
def reachB(ops:Array Oper)(i j:Nat):Bool:=(zdM ops [i] (List.range ops.size)).contains j
def rcOk(r:Rc)(f:Fp)(lo hi:Nat)(hits:List Nat):Bool :=
 (disj f.foot (r.f.foot++r.f.see)&&disj f.see r.f.foot)&&((r.not (f.foot++f.see)&&r.not hits)&&(disj f.dead r.hits&&disj r.f.dead hits))
def ztO(o:Oper)(e:Env S)(bx:Bxs S):Bool:=match o.op with
 | .store _ a _=>(match ev e a with|some (.ptr b _)=>zsM (zam bx b)|_=>false)|_=>false
def zgq(o:Oper)(f:Fp)(e0:Env S)(b0:Bxs S)(e':Env S)(b':Bxs S):List Nat :=
 bif ztO o e0 b0 then List.range b0.length else
 let ts:=(zcH o f).filter λt=>match o.dst with|some d=> !Nat.beq t d|none=>true
 zdz e0 e' ts++zim (zdz e0 e' ts) b0 b' f.see
def ziG(ops:Array Oper)(i:Nat)(o:Oper)(f:Fp)(rs:List Rc)(e:Env S)(bx:Bxs S)(p:PV S)(e':Env S)(b':Bxs S):Bool :=
 let e0:=zfz (zcH o f) e
 let b0:=zjU f 0 bx
 let pn:=zgq o f e0 b0 e' b'
 let hs:=zdj f e0 b0 p b'
 let k':=f.foot++zcO bx.length (b'.drop bx.length)
 (Nat.ble bx.length b'.length&&(below bx.length f.foot&&(below b'.length hs&&k'.all (zhL b')))) &&
 ((below bx.length (zdd e0++zb7 b0 (f.foot++f.see)) &&
 (f.foot.all (λk=>zi6 bx k)&&f.dead.all λk=>f.foot.contains k&&zoE bx k)) &&
 ((f.foot.all (λk=>f.dead.contains k||pn.contains k) &&
 (p.hits++zb7 b' k').all λk=>f.foot.contains k||(Nat.ble bx.length k||pn.contains k)) &&
 ((disj f.dead (zdd (zjY f.dead e)) &&
 disj f.dead (zb7 (bx.map (Box.junkA f.dead)) ((List.range bx.length).filter λk=> !f.foot.contains k))) &&
 ((f.pins.all λt=>(List.range ops.size).all λj=>match ops[j]? with|some oj=>oj.dst != some t||(Nat.blt j i&&reachB ops j i)|none=>true) &&
 rs.all λr=>reachB ops r.i i||rcOk r f bx.length b'.length hs))))
def zmU(ops:Array Oper)(i:Nat)(rs:List Rc):Bool :=
 (rs.all λr=>r.f.foot.isEmpty&&Nat.beq r.lo r.hi)&&(List.range ops.size).all λj=>Nat.ble j i||reachB ops i j
def zAZ(ops:Array Oper)(i:Nat):Bool:=ops.toList.any λo=>match o.guard with|some (j,_)=>Nat.beq j i|none=>false
def brG{R:Type}(g:Bool)(p:PV S)(K:PV S->Option R):Option R:=match g,p with
 |true,.bool b=>br b (K (.bool true)) (K (.bool false))|_,p=>K p
def zAJ(ops:List Oper)(f:Fp)(o:Oper)(e:Env S):Option Bool:=match zfT ops o with
 |some (d,want)=>bif f.pins.contains d then (match zvo e d with
   |some (.bool b)=>some (znk b want)|some (.tup [])=>some false|_=>none) else none
 |none=>none
def zn1{R:Type}(ops:Array Oper)(K:Exit->Env S->Bxs S->Option R):List Fp->Nat->List Rc->Env S->Bxs S->Option R
 |[],i,_,e,bx=>bif Nat.beq i ops.size then K .normal e bx else none|f::l,i,rs,e,bx=>match ops[i]? with
   |none=>none|some o=>match (match o.guard with|none=>some true|some _=>zAJ ops.toList f o e) with
     | some true=>zpS un tb orc inl o (zfz (zcH o f) e) (zjU f 0 bx) (λp e' b'=>brG (zAZ ops i) p λp=>bif ziG ops i o f rs e bx p e' b' then
       zn1 ops K l (i+1) (⟨i,bx.length,b'.length,f,zdj f (zfz (zcH o f) e) (zjU f 0 bx) p b'⟩::rs) (push o.dst p (zjY f.dead e)) (zeW f 0 bx b') else none)
       λx e' b'=>bif (match x with | .panic _=>true|_=>false)&&(ziG ops i o f rs e bx .junk e' b'&&zmU ops i rs) then K x (zaG (zbi ops.toList) (push o.dst .junk (zjY f.dead e))) (zeW f 0 bx b') else none
     | some false=>bif ziG ops i o f rs e bx zaS (zfz (zcH o f) e) (zjU f 0 bx) then
       zn1 ops K l (i+1) (⟨i,bx.length,(zjU f 0 bx).length,f,zdj f (zfz (zcH o f) e) (zjU f 0 bx) zaS (zjU f 0 bx)⟩::rs) (push o.dst zaS (zjY f.dead e)) (zeW f 0 bx (zjU f 0 bx)) else none
     |none=>none
def zju(e:Env S)(bx:Bxs S):Bool:=below bx.length (zdd e++zb7 bx (List.range bx.length))
variable(an:Ann)
noncomputable def zhm:Code->(R:Type)->Env S->Bxs S->(Exit->Env S->Bxs S->Option R)->Option R
 | .skip,_,e,bx,K=>K .normal e bx| .ret,_,e,bx,K=>K .ret e bx| .exit i,_,e,bx,K=>K (.exit i) e bx| .region id ops false,_,e,bx,K=>bif an.dup.any (Nat.beq id) then zfn un tb orc inl ops.toList K (2*ops.size) [] ops.toList e bx (λe' bx'=>K .normal e' bx') else zls un tb orc inl ops.toList K ops.size ops.toList e bx λe' bx'=>K .normal e' bx'| .region id ops true,R,e,bx,K=>match zrF an.par id with
   |some fps=>bif zgu ops.toList&&zju e bx then zn1 un tb orc inl ops K fps 0 [] e bx else none|none=>match zrF an.tail id with
     |some m=>bif zgu ops.toList&&zy4 ops m then zdH un tb orc inl ops.toList bx (2*m) [] (ops.toList.take m) e R λe'=>zls un tb orc inl ops.toList K ops.size (ops.toList.drop m) e' bx λe' bx'=>K .normal e' bx' else none|none=>bif zgu ops.toList then zdH un tb orc inl ops.toList bx (2*ops.size) [] ops.toList e R λe'=>K .normal e' bx else none
 | .seq a b,R,e,bx,K=>match (zdr b).bind an.cut.get with
   |none=>zhm a R e bx λx e' bx'=>match x with
     | .normal=>zhm b R e' bx' K|x=>K x e' bx'
   |some c =>
     zaE (zhm a (ElL S c.codes⊕R) e (zav c.Kg 0 bx) λx e' bx'=>match x with
      | .normal=>(zgH un c e' bx').map .inl|x=>(K x e' (unlock bx.length (zav c.Kg 0 bx) bx')).map .inr) λt =>
      zhm b R (mkEnv c (za7 an a) e bx.length t) (zhP c bx t) K
 | .cond c x y,R,e,bx,K=>match ev e c with
   |some (.bool b)=>br b (zhm x R e bx K) (zhm y R e bx K)|_=>none
 | .block i c,R,e,bx,K=>zhm c R e bx λx e' bx'=>match x with
   | .exit j=>bif Nat.beq i j then K .normal e' bx' else K (.exit j) e' bx'|x=>K x e' bx'
 | .loop c,R,e,bx,K=>match (zdr c).bind an.loop.get with
   |none=>none|some ct =>
     match zgH un ct e (zav ct.Kg 0 bx) with
     |none=>none|some t0=>zak (λt=>zhm c (ElL S ct.codes⊕R) (mkEnv ct (za7 an c) e bx.length t) (zav ct.Kg 0 (zhP ct bx t)) λx e' bx'=>match x with
       | .normal=>(zgH un ct e' bx').map .inl|x=>(K x e' (unlock (zhP ct bx t).length (zav ct.Kg 0 (zhP ct bx t)) bx')).map .inr) t0
 |_,_,_,_,_=>none
def ze6(e:Env S)(bx:Bxs S):List ResultVar->Option (List (PV S))
 |[]=>some []| .tmp t::r=>match zvo e t,ze6 e bx r with
   |some p,some l=>some (p::l)|_,_=>none
 | .cell a T::r=>match zvo e a,ze6 e bx r with
   |some q,some l=>match load un tb T q bx with
     |some p=>some (p::l)|none=>none
   |_,_=>none
def ze2:Nat->List (PV S)->Env S|_,[]=>[]|k,v::r=>(k,v)::ze2 (k+1) r
noncomputable def fnI(fn:Func)(args:List (PV S))(bx:Bxs S)(rs:List U):Option (ElL S rs) :=
 match fn.body with
 |none=>none|some c=>bif (zaW c).all (Nat.blt · fn.ntmps)&&Nat.ble args.length fn.ntmps then zhm un (tb.at an) orc inl an c (ElL S rs) (ze2 0 args) bx λx e bx=>match x with
   | .ret=>(match ze6 un tb e bx fn.results.toList with
     |some l=>zf4 un (zaq (zdi l) bx) rs l|none=>none)
   | .normal=>(match ze6 un tb e bx fn.results.toList with
     |some l=>zf4 un (zaq (zdi l) bx) rs l|none=>none)
   |_=>none
   else none
def finE(fn:Func)(e:Env S)(bx:Bxs S)(ts:List TypeId)(lc rs ps:List U):Option (Out S lc rs ps) :=
 match ze6 un tb e bx fn.results.toList with
 |some l=>match zf4 un (zaq (zdi l) bx) rs l,zfg un (zaq (zdi l) bx) ts lc (List.range ts.length) with
   |some t,some c=>some (.inl (c,t))|_,_=>none
 |none=>none
noncomputable def fnE(fn:Func)(args:List (PV S))(ts:List TypeId)(lc:List U)(c:ElL S lc)(rs ps:List U)(pan:TypeId):Option (Out S lc rs ps) :=
 match fn.body with
 |none=>none|some b=>bif (zaW b).all (Nat.blt · fn.ntmps)&&Nat.ble args.length fn.ntmps&&Nat.beq ts.length lc.length then zhm un (tb.at an) orc inl an b (Out S lc rs ps) (ze2 0 args) (zdO un ts lc c) λx e bx=>match x with
   | .ret=>finE un tb fn e bx ts lc rs ps| .normal=>finE un tb fn e bx ts lc rs ps| .panic ch=>match zom pan ps ch with
     |some p=>some (.inr p)|none=>none
   |_=>none
   else none
def zbO:List (Bool×TypeId×List CTy)->List (PV S)->Bxs S|[],_=>[]|(_,T,l)::r,ps=>.var T (ps.take l.length)::zbO r (ps.drop l.length)
def za0:List Arg->List (PV S)->Option (List (PV S))
 |[],[]=>some []| .one _::as,p::ps=>match za0 as ps with
   |some l=>some (p::l)|none=>none
 | .agg cs::as,.agg l::ps=>match za0 as ps with
   |some l'=>bif Nat.beq l.length cs.length then some (l++l') else none|none=>none
 |_,_=>none
def nrs(n:Nat):List (Bool×TypeId×List CTy)->List (Nat×List CTy)|[]=>[]|(_,_,l)::r=>(n,l)::nrs (n+1) r
def finL(fn:Func)(g:Sg)(e:Env S)(bx:Bxs S):Option (g.Out S) :=
 match ze6 un tb e bx fn.results.toList with
 |some l=>match za0 g.rs l,zcB bx (nrs 0 g.bs) with
   |some ps,some qs=>match znx un bx g.outs (qs++ps) with
     |some t=>some (.inl t)|none=>none
   |_,_=>none
 |none=>none
def Sg.nb(g:Sg):Nat:=((g.bs.map (·.2.2)).flatten).length
def Sg.ok(g:Sg):Bool:=g.rs.all fun | .one _=>true | .agg _=>true|_=>false
noncomputable def fnL(fn:Func)(g:Sg)(t:g.In S):Option (g.Out S) :=
 match fn.body with
 |none=>none|some b=>bif (zaW b).all (Nat.blt · fn.ntmps)&&Nat.ble g.as.length fn.ntmps then zhm un (tb.at an) orc inl an b (g.Out S) (ze2 0 (zww g.as ((zcI g.ins t g.bs.length).drop g.nb))) (zbO g.bs (zcI g.ins t g.bs.length)++zbo g.ins t) λx e bx=>match x with
   | .ret=>finL un tb fn g e bx| .normal=>finL un tb fn g e bx| .panic ch=>match zom g.pan g.ps ch with
     |some p=>some (.inr p)|none=>none
   |_=>none
   else none
end
noncomputable def zoh(un:Uni S)(tb:Tb S)(orc:Orc S):Nat->Inl S|0=>⟨λ_ _ _ _ _=>none,λ_ _ _ _ _ _ _ _ _=>none⟩|n+1=>⟨λfn an args bx rs=>fnI un tb orc (zoh un tb orc n) an fn args bx rs,λfn an args ts lc c rs ps pan=>fnE un tb orc (zoh un tb orc n) an fn args ts lc c rs ps pan⟩
noncomputable def fnM(un:Uni S)(tb:Tb S)(orc:Orc S)(an:Ann)(fn:Func)(args:List (PV S))(rs:List U):Option (ElL S rs) :=
 fnI un tb orc (zoh un tb orc 6) an fn args [] rs
noncomputable def fnF(un:Uni S)(tb:Tb S)(orc:Orc S)(an:Ann)(fn:Func)(args:List (PV S))(ts:List TypeId)(lc:List U)(c:ElL S lc)(rs ps:List U)(pan:TypeId):Option (Out S lc rs ps) :=
 fnE un tb orc (zoh un tb orc 6) an fn args ts lc c rs ps pan
noncomputable def fnG(un:Uni S)(tb:Tb S)(orc:Orc S)(an:Ann)(fn:Func)(g:Sg)(t:g.In S):Option (g.Out S) :=
 fnL un tb orc (zoh un tb orc 6) an fn g t
end Pe
end
section
namespace Wl
open Go Go.RowKit
structure Fr where
 n:Nat
 ds:List Deferred
structure Ctx where
 w:World
 lent:List Nat
 fix:List Value
structure Grow (S:List Nat) (w w':World):Prop where
 os:w'.os=w.os
 tape:w'.tape=w.tape
 output:w'.output=w.output
 size:w.heap.size<=w'.heap.size
 block:∀k,k<w.heap.size->k∉S->w'.heap[k]?=w.heap[k]?
theorem Grow.refl(S:List Nat)(w:World):Grow S w w:=⟨rfl,rfl,rfl,yAi _,λ_ _ _=>rfl⟩
theorem Grow.trans{S:List Nat}{w w' w'':World}(h:Grow S w w')(k:Grow S w' w''):Grow S w w'' :=
 ⟨k.os.trans h.os,k.tape.trans h.tape,k.output.trans h.output,yAo h.size k.size,λi hi hn=>(k.block i (yAq hi h.size) hn).trans (h.block i hi hn)⟩
theorem Grow.of_below{S:List Nat}{w w':World}(h:Below w.heap.size w w'):Grow S w w':=⟨h.os,h.tape,h.output,h.size,λk hk _=>h.block k hk⟩
theorem Grow.below{w w':World}(h:Grow [] w w'):Below w.heap.size w w':=⟨h.os,h.tape,h.output,h.size,λk hk=>h.block k hk (by simp)⟩
def Ctx.may(E:Ctx)(g:Nat):Prop:=E.w.heap.size<=g\/g∈E.lent
def encV(n size:Nat)(xs:List Value):Value:= .func (.func n) xs.toArray #[.int .i64 (size:Int)]
def encM(xs:List Value):Value:= .func (.func 0) xs.toArray #[]
def fixV(v:Value)(size:Nat)(ob:Obj):Value :=
 match v,ob with
 | .map _,.map es _=>encM (es.toList.flatMap λe=>[e.key,e.val])| .slice (some _) n _,.cells cur _ _=>encV n size (cur.toList.take (n*size))| .tuple _,.cells cur _ _=>cur.toList.getD 1 undef|_,_=>encV 0 size []
def fixOk(v:Value)(g:Option Nat)(size:Nat)(ob:Obj):Prop :=
 (∃g0 es c,v= .map (some g0)/\g=some g0/\ob= .map es c) \/
 (∃g0 n cap cur T fz,v= .slice (some ⟨g0,0,none⟩) n cap/\g=some g0/\ob= .cells cur T fz/\n<=cap/\cap<=maxLen/\cur.size=cap*size/\(fz.2<=fz.1\/cur.size<=fz.1)) \/
 (v= .slice none 0 0/\g=none) \/
 (∃g0 T p A n c,v= .tuple #[.pointer (some ⟨g0,0,none⟩),.int .i64 (T:Nat)]/\g=some g0/\ob= .cells #[p,.slice A n c] T (0,0)/\(p= .pointer none\/p= .pointer (some ⟨g0,0,none⟩)))
def offV:Value->Nat
 | .slice (some a) _ _=>a.off|_=>0
def capV:Value->Nat
 | .slice _ _ c=>c|_=>0
def rowAt(w:World)(T:TypeId)(size:Nat)(v:Value)(n:Nat)(xs:List Value):Prop :=
 xs.length=n*size/\((v= .slice none 0 0/\n=0) \/
  ∃g off cap cur,v= .slice (some ⟨g,off,none⟩) n cap/\w.heap[g]?=some (.cells cur T (0,0))/\n<=cap/\cap<=maxLen/\(cap≠0->cur.size=off+cap*size)/\(cur.toList.drop off).take (n*size)=xs)
theorem rowAt_of{w:World}{T size v n xs}(h:w.ownsRow 0 T size v n xs):rowAt w T size v n xs/\offV v=0:=by
 refine ⟨⟨h.1,?_⟩,?_⟩
 ·rcases h.2 with h1|⟨g,cap,cur,rfl,_,h2,h3,h4,h5,h6⟩;·exact .inl h1
  ·exact .inr ⟨g,0,cap,cur,rfl,h2,h3,h4,λ_=>by omega,by grind⟩
 ·rcases h.2 with ⟨rfl,_⟩|⟨g,cap,cur,rfl,_⟩<;>rfl
theorem rowAt_nil(w:World)(T size):rowAt w T size (.slice none 0 0) 0 []:=(rowAt_of (World.ownsRow_nil w 0 T size)).1
theorem rowAt.lt{w:World}{T size v n xs}(h:rowAt w T size v n xs):∀g,v.ownBlock=some g->g<w.heap.size:=by
 intro g hg;rcases h.2 with ⟨rfl,_⟩|⟨g',off,cap,cur,rfl,h2,_⟩;·cases hg
 ·simp[Value.ownBlock] at hg;subst hg;exact (yAE.1 h2).1
theorem rowAt.of{w w':World}{T size v n xs}(h:rowAt w T size v n xs)(hw:∀g,v.ownBlock=some g->w'.heap[g]?=w.heap[g]?):rowAt w' T size v n xs:=by
 refine ⟨h.1,?_⟩;rcases h.2 with hn|⟨g,off,cap,cur,rfl,hg,rest⟩;·exact .inl hn
 ·exact .inr ⟨g,off,cap,cur,rfl,(hw g rfl).trans hg,rest⟩
theorem rowAt.one{w:World}{T size v n xs}(h:rowAt w T size v n xs):v.oneCell'=true/\v.cells= #[v]:=by rcases h.2 with ⟨rfl,_⟩|⟨g,off,cap,cur,rfl,_⟩<;>exact ⟨rfl,rfl⟩
inductive Res where
 |box (g:Nat) (T:TypeId) (cs:List Value)
 |own (v:Value) (T:TypeId) (size n:Nat) (xs:List Value)
 |wr (v:Value) (T:TypeId) (size n:Nat) (xs:List Value)
 |fix (v:Value) (g:Option Nat) (size:Nat) (ob:Obj)
 |ref (id:Bool×Value)
 |grp (g:Nat) (es:Array MapEntry) (c:Nat) (T2:TypeId) (s2:Nat) (rows:List (Option (Value×Nat×List Value)))
 |nst (v:Value) (T:TypeId) (n:Nat) (xs:List Value) (T2:TypeId) (s2:Nat) (rows:List (Option (Value×Nat×List Value)))
def Res.block:Res->Option Nat
 | .box g _ _=>some g| .own v _ _ _ _=>v.ownBlock| .wr v _ _ _ _=>v.ownBlock| .fix _ g _ _=>g| .ref _=>none| .grp g _ _ _ _ _=>some g| .nst v _ _ _ _ _ _=>v.ownBlock
def Res.has:Res->Nat->Prop| .box g0 _ _,g=>some g0=some g| .own v _ _ _ _,g=>v.ownBlock=some g| .wr v _ _ _ _,g=>v.ownBlock=some g| .fix _ g0 _ _,g=>g0=some g| .ref _,_=>False| .grp g0 _ _ _ _ rows,g=>some g0=some g\/∃(i:Nat) (q:Value×Nat×List Value),rows[i]?=some (some q)/\q.1.ownBlock=some g| .nst v _ _ _ _ _ rows,g=>v.ownBlock=some g\/∃(i:Nat) (q:Value×Nat×List Value),rows[i]?=some (some q)/\q.1.ownBlock=some g
theorem Res.has_of{r:Res}{g:Nat}(h:r.block=some g):r.has g:=by cases r<;>first|exact h|exact .inl h|cases h
def Res.blocks:Res->List Nat
 | .box g _ _=>[g]| .own v _ _ _ _=>v.ownBlock.toList| .wr v _ _ _ _=>v.ownBlock.toList| .fix _ g _ _=>g.toList| .ref _=>[]| .grp g _ _ _ _ rows=>g::rows.flatMap fun|some q=>q.1.ownBlock.toList|none=>[]
 | .nst v _ _ _ _ _ rows=>v.ownBlock.toList++rows.flatMap fun|some q=>q.1.ownBlock.toList|none=>[]
theorem Res.mem_blocks{r:Res}{g:Nat}:g∈r.blocks↔r.has g:=by
 cases r with
 |box g0 T cs=>simp[Res.blocks,Res.has,eq_comm]|own v T size n xs=>simp[Res.blocks,Res.has]|wr v T size n xs=>simp[Res.blocks,Res.has]|fix v g0 size ob=>simp[Res.blocks,Res.has]|ref id=>simp[Res.blocks,Res.has]|grp g0 es c T2 s2 rows =>
   simp only[Res.blocks,Res.has,yAm,yCn,yAf];refine or_congr eq_comm ⟨?_,?_⟩
   ·rintro ⟨q,hq,hg⟩
    cases q with
    |none=>simp at hg|some q =>obtain ⟨i,hi⟩:=yAl hq;exact ⟨i,q,hi,by simpa using hg⟩
   ·rintro ⟨i,q,hi,hg⟩
    exact ⟨some q,yAb hi,by simpa using hg⟩
 |nst v T n xs T2 s2 rows =>
   simp only[Res.blocks,Res.has,yAp,Option.mem_toList,yCn];refine or_congr Iff.rfl ⟨?_,?_⟩
   ·rintro ⟨q,hq,hg⟩
    cases q with
    |none=>simp at hg|some q =>obtain ⟨i,hi⟩:=yAl hq;exact ⟨i,q,hi,by simpa using hg⟩
   ·rintro ⟨i,q,hi,hg⟩
    exact ⟨some q,yAb hi,by simpa using hg⟩
def Res.holds(E:Ctx)(w:World):Res->Prop
 | .box g T cs=>E.may g/\w.heap[g]?=some (.cells cs.toArray T (0,0))| .own v T size n xs=>rowAt w T size v n xs/\∀g,v.ownBlock=some g->E.may g| .wr v T size n xs=>w.ownsRow 0 T size v n xs/\∀g,v.ownBlock=some g->E.may g| .fix v g size ob=>fixOk v g size ob/\∀g0,g=some g0->E.may g0/\w.heap[g0]?=some ob| .ref _=>True
 | .grp g es c T2 s2 rows=>(E.may g/\w.heap[g]?=some (.map es c)) /\
   (∀(i:Nat)(q:Value×Nat×List Value),rows[i]?=some (some q)->rowAt w T2 s2 q.1 q.2.1 q.2.2/\(∀g',q.1.ownBlock=some g'->E.may g')/\(∀g',q.1.ownBlock=some g'->g'≠g)) /\
   ∀(i j:Nat)(q q':Value×Nat×List Value),i≠j->rows[i]?=some (some q)->rows[j]?=some (some q')->∀g,q.1.ownBlock=some g->q'.1.ownBlock≠some g
 | .nst v T n xs T2 s2 rows=>w.ownsRow 0 T 1 v n xs/\(∀g,v.ownBlock=some g->E.may g) /\
   (∀(i:Nat)(q:Value×Nat×List Value),rows[i]?=some (some q)->w.ownsRow 0 T2 s2 q.1 q.2.1 q.2.2/\(∀g,q.1.ownBlock=some g->E.may g)/\(∀g,q.1.ownBlock=some g->v.ownBlock≠some g)) /\
   ∀(i j:Nat)(q q':Value×Nat×List Value),i≠j->rows[i]?=some (some q)->rows[j]?=some (some q')->∀g,q.1.ownBlock=some g->q'.1.ownBlock≠some g
def apartR(r s:Res):Prop:=∀g,r.has g->¬s.has g
theorem Res.holds_lt{E w r g}(h:Res.holds E w r)(hg:r.has g):E.may g/\g<w.heap.size:=by
 cases r with
 |box g' T cs =>simp[Res.has] at hg;subst hg;exact ⟨h.1,(yAE.1 h.2).1⟩|own v T size n xs=>exact ⟨h.2 g hg,rowAt.lt h.1 g hg⟩|wr v T size n xs=>exact ⟨h.2 g hg,(World.ownsRow.lt h.1 g hg).2⟩|fix v g' size ob=>exact ⟨(h.2 g hg).1,(yAE.1 (h.2 g hg).2).1⟩|ref v=>exact hg.elim|grp g0 es c T2 s2 rows =>
   rcases hg with hg|⟨i,q,hq,hg⟩;·cases hg;exact ⟨h.1.1,(yAE.1 h.1.2).1⟩
   ·obtain ⟨h1,h2,_⟩:=h.2.1 i q hq;exact ⟨h2 g hg,rowAt.lt h1 g hg⟩
 |nst v T n xs T2 s2 rows =>
   rcases hg with hg|⟨i,q,hq,hg⟩;·exact ⟨h.2.1 g hg,(World.ownsRow.lt h.1 g hg).2⟩
   ·obtain ⟨h1,h2,_⟩:=h.2.2.1 i q hq;exact ⟨h2 g hg,(World.ownsRow.lt h1 g hg).2⟩
theorem owns_of{w w':World}{T size v n xs}(h:w.ownsRow 0 T size v n xs)(hw:∀g,v.ownBlock=some g->w'.heap[g]?=w.heap[g]?):w'.ownsRow 0 T size v n xs:=by
 refine ⟨h.1,?_⟩;rcases h.2 with hn|⟨g,cap,cur,rfl,hb,hg,rest⟩;·exact .inl hn
 ·exact .inr ⟨g,cap,cur,rfl,hb,(hw g rfl).trans hg,rest⟩
theorem Res.holds_of{E w w' r}(h:Res.holds E w r)(hw:∀g,r.has g->w'.heap[g]?=w.heap[g]?):Res.holds E w' r:=by
 cases r with
 |box g T cs=>exact ⟨h.1,(hw g rfl).trans h.2⟩|own v T size n xs=>exact ⟨h.1.of hw,h.2⟩|wr v T size n xs=>exact ⟨owns_of h.1 hw,h.2⟩|fix v g size ob=>exact ⟨h.1,λg0 hg=>⟨(h.2 g0 hg).1,(hw g0 hg).trans (h.2 g0 hg).2⟩⟩|ref v=>trivial|grp g0 es c T2 s2 rows =>exact ⟨⟨h.1.1,(hw g0 (.inl rfl)).trans h.1.2⟩,λi q hq=>⟨(h.2.1 i q hq).1.of λg hg=>hw g (.inr ⟨i,q,hq,hg⟩),(h.2.1 i q hq).2⟩,h.2.2⟩|nst v T n xs T2 s2 rows =>exact ⟨owns_of h.1 λg hg=>hw g (.inl hg),h.2.1,λi q hq=>⟨owns_of (h.2.2.1 i q hq).1 λg hg=>hw g (.inr ⟨i,q,hq,hg⟩),(h.2.2.1 i q hq).2⟩,h.2.2.2⟩
end Wl
end
section
namespace Pe
open Go Go.RowKit
variable{S:Nat->Type}
def hd{u:U}{us:List U}(t:ElL S (u::us)):El S u:=Prod.fst t
def tl{u:U}{us:List U}(t:ElL S (u::us)):ElL S us:=Prod.snd t
def two{u:U}{us:List U}(x:El S u)(t:ElL S us):ElL S (u::us):=(x,t)
def nul:ElL S []:=()
def sg{u:U}(x:El S u):ElL S [u]:=two x nul
def eI{k:IntKind}(x:El S (.int k)):Int:=x
def eB(x:El S .bool):Bool:=x
def eS(x:El S .str):By:=x
def eL{u:U}(x:El S (.sl u)):List (El S u):=x
def eT{n:Nat}(x:El S (.st n)):S n:=x
def eM{k v:U}(x:El S (.mp k v)):List (El S k×El S v):=x
def eR{u:U}(x:El S (.rw u)):List (El S u):=x
def eC{u:U}(x:El S (.cs u)):List (El S u):=x
def zbF(u:U)(cs:List Value):Value:=match u with
 | .st _=>.agg cs.toArray|_=>cs.headD undef
abbrev Dat:=Nat->Nat->Prop
def dat(D:Dat)(w:World)(b off:Nat)(cs:List Value):Prop:=∀j v,cs[j]?=some v->D b (off+j)/\w.cell? ⟨b,off+j,none⟩=some v
inductive DR (un:Uni S) (D:Dat) (w:World):(us:List U)->ElL S us->List Value->Prop
 |nil {t}:DR un D w [] t []
 |int {k us} {t:ElL S (.int k::us)} {vs} (h:DR un D w us (tl t) vs):DR un D w (.int k::us) t (.int k (eI (hd t))::vs)
 |bool {us} {t:ElL S (.bool::us)} {vs} (h:DR un D w us (tl t) vs):DR un D w (.bool::us) t (.bool (eB (hd t))::vs)
 |str {us} {t:ElL S (.str::us)} {vs} (h:DR un D w us (tl t) vs):DR un D w (.str::us) t (.string ⟨(eS (hd t)).toArray⟩::vs)
 |sl0 {u us} {t:ElL S (.sl u::us)} {vs} (A c) (h0:eL (hd t)=[]) (h:DR un D w us (tl t) vs):DR un D w (.sl u::us) t (.slice A 0 c::vs)
 | sl {u us} {t:ElL S (.sl u::us)} {vs} (b off c:Nat) (cs:Nat->List Value) (hc:(eL (hd t)).length<=c)
   (h1:∀i x,(eL (hd t))[i]?=some x->dat D w b (off+i*U.size un u) (cs i))
   (h2:∀i x,(eL (hd t))[i]?=some x->DR un D w [u] (sg x) (cs i)) (h:DR un D w us (tl t) vs) :
   DR un D w (.sl u::us) t (.slice (some ⟨b,off,none⟩) (eL (hd t)).length c::vs)
 | mp {k v us} {t:ElL S (.mp k v::us)} {vs} (kc vc:Nat->List Value) (h1:∀i x,(eM (hd t))[i]?=some x->DR un D w [k] (sg x.1) (kc i)) (h2:∀i x,(eM (hd t))[i]?=some x->DR un D w [v] (sg x.2) (vc i)) (h:DR un D w us (tl t) vs) :
   DR un D w (.mp k v::us) t (Wl.encM ((List.range (eM (hd t)).length).flatMap λi=>[zbF k (kc i),zbF v (vc i)])::vs)
 | rw {u us} {t:ElL S (.rw u::us)} {vs} (cs:Nat->List Value) (h1:∀i x,(eR (hd t))[i]?=some x->DR un D w [u] (sg x) (cs i)) (h:DR un D w us (tl t) vs) :
   DR un D w (.rw u::us) t (Wl.encV (eR (hd t)).length (U.size un u) ((List.range (eR (hd t)).length).flatMap cs)::vs)
 |cs0 {u us} {t:ElL S (.cs u::us)} {vs} (A) (h0:eC (hd t)=[]) (h:DR un D w us (tl t) vs):DR un D w (.cs u::us) t (.slice A 0 0::vs)
 | cs {u us} {t:ElL S (.cs u::us)} {vs} (b off:Nat) (cs:Nat->List Value)
   (h1:∀i x,(eC (hd t))[i]?=some x->dat D w b (off+i*U.size un u) (cs i))
   (h2:∀i x,(eC (hd t))[i]?=some x->DR un D w [u] (sg x) (cs i)) (h:DR un D w us (tl t) vs) :
   DR un D w (.cs u::us) t (.slice (some ⟨b,off,none⟩) (eC (hd t)).length (eC (hd t)).length::vs)
 |st {n us} {t:ElL S (.st n::us)} {cs vs} (h1:DR un D w (un.codes n) (un.get n (eT (hd t))) cs) (h:DR un D w us (tl t) vs):DR un D w (.st n::us) t (cs++vs)
structure Ge (D:Dat) (w:World) (D':Dat) (w':World):Prop where
 dom:∀k o,D k o->D' k o
 cell:∀k o,D k o->w'.cell? ⟨k,o,none⟩=w.cell? ⟨k,o,none⟩
 map:∀k o,D k o->∀es c,w.heap[k]?=some (.map es c)->w'.heap[k]?=some (.map es c)
theorem Ge.refl(D:Dat)(w:World):Ge D w D w:=⟨λ_ _ h=>h,λ_ _ _=>rfl,λ_ _ _ _ _ h=>h⟩
theorem Ge.of{D D':Dat}{w w':World}(h:∀k o,D k o->D' k o)(hb:∀k o,D k o->w'.heap[k]?=w.heap[k]?):Ge D w D' w':=⟨h,λk o hk=>World.cell?_of_block (hb k o hk),λk o hk _ _ he=>(hb k o hk).trans he⟩
theorem Ge.trans{D D' D'':Dat}{w w' w'':World}(h:Ge D w D' w')(k:Ge D' w' D'' w''):Ge D w D'' w'' :=
 ⟨λ_ _ hk=>k.dom _ _ (h.dom _ _ hk),λi o hk=>(k.cell i o (h.dom i o hk)).trans (h.cell i o hk),λi o hk es c he=>k.map i o (h.dom i o hk) es c (h.map i o hk es c he)⟩
theorem Ge.dat{D D':Dat}{w w':World}(h:Ge D w D' w'){b off:Nat}{vs:List Value}(hc:dat D w b off vs):dat D' w' b off vs :=
 λj v hj=>⟨h.dom _ _ (hc j v hj).1,(h.cell _ _ (hc j v hj).1).trans (hc j v hj).2⟩
theorem DR.mono{un:Uni S}{D D':Dat}{w w':World}(g:Ge D w D' w'){us:List U}{t:ElL S us}{vs:List Value}(h:DR un D w us t vs):DR un D' w' us t vs:=by
 induction h with
 |nil=>exact .nil|int h ih=>exact .int ih|bool h ih=>exact .bool ih|str h ih=>exact .str ih|sl0 A c h0 h ih=>exact .sl0 A c h0 ih|sl b off c cs hc h1 h2 h ih2 ih=>exact .sl b off c cs hc (λi x hx=>g.dat (h1 i x hx)) ih2 ih|mp kc vc h1 h2 h ih1 ih2 ih=>exact .mp kc vc ih1 ih2 ih|rw cs h1 h ih1 ih=>exact .rw cs ih1 ih|cs0 A h0 h ih=>exact .cs0 A h0 ih|cs b off cs h1 h2 h ih2 ih=>exact .cs b off cs (λi x hx=>g.dat (h1 i x hx)) ih2 ih|st h1 h ih1 ih=>exact .st ih1 ih
def zns(un:Uni S):Prop:=∀n,∀u∈un.codes n,U.size un u=1/\∀m,u≠ .st m
theorem DR.one{un:Uni S}{D:Dat}{w:World}{us:List U}{t:ElL S us}{vs:List Value}(h:DR un D w us t vs):∀v∈vs,v.oneCell'=true:=by
 induction h with
 |nil=>simp|int h ih|bool h ih|str h ih|sl0 A c h0 h ih=>intro v hv;rcases yAm.1 hv with rfl|hv<;>first|rfl|exact ih v hv
 |sl b off c cs hc h1 h2 h ih2 ih=>intro v hv;rcases yAm.1 hv with rfl|hv<;>first|rfl|exact ih v hv
 |mp kc vc h1 h2 h ih1 ih2 ih=>intro v hv;rcases yAm.1 hv with rfl|hv<;>first|rfl|exact ih v hv
 |rw cs h1 h ih1 ih=>intro v hv;rcases yAm.1 hv with rfl|hv<;>first|rfl|exact ih v hv
 |cs0 A h0 h ih=>intro v hv;rcases yAm.1 hv with rfl|hv<;>first|rfl|exact ih v hv
 |cs b off cs h1 h2 h ih2 ih=>intro v hv;rcases yAm.1 hv with rfl|hv<;>first|rfl|exact ih v hv
 |st h1 h ih1 ih=>intro v hv;rcases yAp.1 hv with hv|hv<;>first|grind|exact ih v hv
def zcF(un:Uni S):List U->Nat
 |[]=>0|u::us=>U.size un u+zcF un us
theorem zgi{un:Uni S}:∀(us:List U),(∀u∈us,U.size un u=1)->zcF un us=us.length|[],_=>rfl|u::us,h=>by simp only[zcF,yAw];rw[h u (by simp),zgi us λv hv=>h v (by simp[hv])];omega
theorem DR.length{un:Uni S}(hf:zns un){D:Dat}{w:World}{us:List U}{t:ElL S us}{vs:List Value}(h:DR un D w us t vs):vs.length=zcF un us:=by
 induction h with
 |nil=>rfl|int h ih|bool h ih|str h ih|sl0 A c h0 h ih=>simp only[yAw,zcF,U.size,ih];omega|sl b off c cs hc h1 h2 h ih2 ih=>simp only[yAw,zcF,U.size,ih];omega|mp kc vc h1 h2 h ih1 ih2 ih=>simp only[yAw,zcF,U.size,ih];omega|rw cs h1 h ih1 ih=>simp only[yAw,zcF,U.size,ih];omega|cs0 A h0 h ih=>simp only[yAw,zcF,U.size,ih];omega|cs b off cs h1 h2 h ih2 ih=>simp only[yAw,zcF,U.size,ih];omega|@st n us t cs vs h1 h ih1 ih=>rw[yAI,ih1,ih,zgi _ λu hu=>(hf n u hu).1];rfl
abbrev Nu:=List (Bool×Value)
def zal:Wl.Res->Bool×Value| .box g _ _=>(true,.pointer (some ⟨g,0,none⟩))| .own v _ _ _ _=>(false,v)| .wr v _ _ _ _=>(false,v)| .fix v _ _ _=>(true,v)| .ref id=>id| .grp g _ _ _ _ _=>(true,.map (some g))| .nst v _ _ _ _ _ _=>(false,v)
inductive Seen (E:Wl.Ctx) (w:World):Bool×Value->TypeId->List Value->Prop
 |box (g:Nat) (T:TypeId) (vs:List Value) (h1:g<E.w.heap.size) (h2:g∉E.lent) (h3:w.heap[g]?=some (.cells vs.toArray T (0,0))):Seen E w (true,.pointer (some ⟨g,0,none⟩)) T vs
 |fix (v:Value) (g:Option Nat) (size:Nat) (ob:Obj) (T:TypeId) (h1:Wl.fixOk v g size ob) (h2:∀g0,g=some g0->g0<E.w.heap.size/\g0∉E.lent/\w.heap[g0]?=some ob):Seen E w (true,v) T [Wl.fixV v size ob]
theorem Seen.of{E:Wl.Ctx}{w w':World}{id:Bool×Value}{T:TypeId}{vs:List Value}(h:Seen E w id T vs)(hw:∀g,g<E.w.heap.size->g∉E.lent->w'.heap[g]?=w.heap[g]?):Seen E w' id T vs:=by
 cases h with
 |box g T vs h1 h2 h3=>exact .box g T vs h1 h2 ((hw g h1 h2).trans h3)|fix v g size ob T h1 h2=>exact .fix v g size ob T h1 λg0 hg=>⟨(h2 g0 hg).1,(h2 g0 hg).2.1,(hw g0 (h2 g0 hg).1 (h2 g0 hg).2.1).trans (h2 g0 hg).2.2⟩
def zeZ:Value->Bool| .map _=>true| .slice _ _ _=>true|_=>false
section
variable(un:Uni S)(nu:Nu)(D:Dat)(w:World)
mutual
def Rep:PV S->Value->Prop| .int k n,v=>v= .int k n| .bool b,v=>v= .bool b| .str l,v=>v= .string ⟨l.toArray⟩| .sl u l,v=>DR un D w [.sl u] (sg (u:= .sl u) l) [v]| .nils,v=>v= .slice none 0 0| .st n x,v=>∃cs:List Value,v= .agg cs.toArray/\DR un D w [.st n] (sg (u:= .st n) x) cs| .agg l,v=>∃cs:List Value,v= .agg cs.toArray/\Ke l cs| .tup l,v=>∃cs:List Value,v= .tuple cs.toArray/\Ke l cs| .elp u x off,v=>∃b p cs,v= .pointer (some ⟨b,p+off,none⟩)/\dat D w b p cs/\DR un D w [u] (sg x) cs| .ptr b off,v=>∃g,nu[b]?=some (true,.pointer (some ⟨g,0,none⟩))/\v= .pointer (some ⟨g,off,none⟩)| .nilp,v=>v= .pointer none| .row b,v=>nu[b]?=some (false,v)/\v.oneCell'=true/\v.cells= #[v]| .ref b,v=>nu[b]?=some (true,v)/\zeZ v=true| .elr b u i off,v=>∃fl g n c,nu[b]?=some (fl,.slice (some ⟨g,0,none⟩) n c)/\v= .pointer (some ⟨g,i*U.size un u+off,none⟩)| .cont u x,v=>DR un D w [u] (sg x) [v]| .rsl b u i,v=>∃fl g n c off,nu[b]?=some (fl,.slice (some ⟨g,0,none⟩) n c)/\v= .slice (some ⟨g,off,none⟩) (n - i) (c - i)/\(i<n->off=i*U.size un u)| .bref b T,v=>∃g,nu[b]?=some (true,.tuple #[.pointer (some ⟨g,0,none⟩),.int .i64 (T:Nat)])/\v= .pointer (some ⟨g,0,none⟩)| .func f l r,v=>∃a c:List Value,v= .func f a.toArray c.toArray/\Ke l a/\Ke r c| .nilFunc,v=>v= .nilFunc| .iface t x,v=>∃y,v= .iface t y/\Rep x y| .nilIface,v=>v= .nilIface| .junk,_=>True
def Ke:List (PV S)->List Value->Prop|[],[]=>True|p::ps,v::vs=>Rep p v/\Ke ps vs|_,_=>False
end
def RowAt(un:Uni S)(D:Dat)(w:World)(v:Value)(u:U)(l:List (El S u)):Prop :=
 (v= .slice none 0 0/\l=[])\/∃g cap,v= .slice (some ⟨g,0,none⟩) l.length cap/\l.length<=cap/\∀i x,l[i]?=some x->∃cs,w.rangeAt g (i*U.size un u) cs/\DR un D w [u] (sg x) cs
def GrpRep(un:Uni S)(D:Dat)(w:World)(u:U)(l:List (El S .str×El S (.sl u)))(h:Option By)(es:List MapEntry)(s2:Nat)(rows:List (Option (Value×Nat×List Value))):Prop :=
 rows.length=es.length/\es.map (·.key)=l.map (λx=>Value.string ⟨(eS x.1).toArray⟩)/\(l.map λx=>eS x.1).Nodup /\
 ∀(i:Nat) x,l[i]?=some x->h≠some (eS x.1)->∃q:Value×Nat×List Value,rows[i]?=some (some q)/\(es.map (·.val))[i]?=some q.1/\(q.2.1=(eL x.2).length/\eL x.2≠[])/\(∀g,q.1.ownBlock=some g->∀o,o<Wl.offV q.1+q.2.1*s2->D g o)/\∀(j:Nat) y,(eL x.2)[j]?=some y->DR un D w [u] (sg y) ((q.2.2.drop (j*s2)).take s2)
theorem GrpRep.mono{un:Uni S}{D D':Dat}{w w':World}{u:U}{l:List (El S .str×El S (.sl u))}{h es s2 rows}(g:Ge D w D' w')(k:GrpRep un D w u l h es s2 rows):GrpRep un D' w' u l h es s2 rows :=
 ⟨k.1,k.2.1,k.2.2.1,λi x hi hn=>by obtain ⟨q,q1,q2,q3,q4,q5⟩:=k.2.2.2 i x hi hn;exact ⟨q,q1,q2,q3,λb hb o ho=>g.dom _ _ (q4 b hb o ho),λj y hy=>(q5 j y hy).mono g⟩⟩
def Kc(E:Wl.Ctx):Bool->Box S->Wl.Res->Prop
 |false,.var T cs,.box _ T' vs=>T'=T/\Ke un nu D w cs vs|false,.var _ cs,.fix v _ size ob=>Ke un nu D w cs [Wl.fixV v size ob]|true,.var T cs,.ref id=>∃vs,Seen E w id T vs/\Ke un nu D w cs vs|false,.own u T l,.own v T' size n xs=>T'=T/\size=U.size un u/\n=l.length/\(∀g,v.ownBlock=some g->∀o,o<Wl.offV v+n*size->D g o)/\∀i x,l[i]?=some x->DR un D w [u] (sg x) ((xs.drop (i*size)).take size)|false,.wr u T l,.wr _ T' size n xs=>T'=T/\size=U.size un u/\n=l.length/\∀i x,l[i]?=some x->DR un D w [u] (sg x) ((xs.drop (i*size)).take size)
 | false,.nst u T T2 l h,.nst _ T' n xs T2' s2 rows=>T'=T/\T2'=T2/\s2=U.size un u/\n=l.length/\rows.length=n /\
   ∀i x,l[i]?=some x->h≠some i->∃q:Value×Nat×List Value,rows[i]?=some (some q)/\xs[i]?=some q.1/\q.2.1=x.length/\∀j y,x[j]?=some y->DR un D w [u] (sg y) ((q.2.2.drop (j*s2)).take s2)
 |false,.grp u T2 l h,.grp _ es _ T2' s2 rows=>T2'=T2/\s2=U.size un u/\GrpRep un D w u l h es.toList s2 rows|true,.own u _ l,.ref id=>id.1=false/\Rep un nu D w (.sl u l) id.2|true,.wr u _ l,.ref id=>id.1=false/\RowAt un D w id.2 u l/\∀g,id.2.ownBlock=some g->g<E.w.heap.size/\g∉E.lent|ro,.lk b,r=>Kc E ro b r|_,.ro b,r=>Kc E true b r|_,.gone,_=>True|_,_,_=>False
end
theorem Ke.length{un:Uni S}{nu D w}:∀{ps:List (PV S)}{vs:List Value},Ke un nu D w ps vs->ps.length=vs.length
 |[],[],_=>rfl|p::ps,v::vs,h=>by simp only[Ke] at h;simp[Ke.length h.2]
 |[],_::_,h=>by grind[Ke]
 |_::_,[],h=>by grind[Ke]
theorem Ke.get{un:Uni S}{nu D w}:∀{ps:List (PV S)}{vs:List Value},Ke un nu D w ps vs->∀(i:Nat)(p:PV S),ps[i]?=some p->∃v,vs[i]?=some v/\Rep un nu D w p v
 |[],_,_,i,p,h=>by simp at h
 |q::ps,v::vs,h,0,p,hp=>by grind[Ke]
 |q::ps,v::vs,h,i+1,p,hp=>by simp only[Ke] at h;simpa using Ke.get h.2 i p (by grind)
 |_::_,[],h,_,_,_=>by grind[Ke]
theorem Ke.append{un:Uni S}{nu D w}:∀{ps qs:List (PV S)}{vs us:List Value},Ke un nu D w ps vs->Ke un nu D w qs us->Ke un nu D w (ps++qs) (vs++us)
 |[],_,[],_,_,h=>h|p::ps,qs,v::vs,us,h,k=>by simp only[Ke,yA3] at h ⊢;exact ⟨h.1,Ke.append h.2 k⟩
 |[],_,_::_,_,h,_=>by grind[Ke]
 |_::_,_,[],_,h,_=>by grind[Ke]
theorem Ke.drop{un:Uni S}{nu D w}:∀{ps:List (PV S)}{vs:List Value},Ke un nu D w ps vs->∀n,Ke un nu D w (ps.drop n) (vs.drop n)
 |_,_,h,0=>h|[],[],_,n+1=>by simp[Ke]
 |p::ps,v::vs,h,n+1=>by simp only[Ke] at h;simpa using Ke.drop h.2 n
 |[],_::_,h,_+1=>by grind[Ke]
 |_::_,[],h,_+1=>by grind[Ke]
theorem Ke.take{un:Uni S}{nu D w}:∀{ps:List (PV S)}{vs:List Value},Ke un nu D w ps vs->∀n,Ke un nu D w (ps.take n) (vs.take n)
 |_,_,_,0=>by simp[Ke]
 |[],[],_,n+1=>by simp[Ke]
 |p::ps,v::vs,h,n+1=>by simp only[Ke] at h;simp only[yCc,Ke];exact ⟨h.1,Ke.take h.2 n⟩
 |[],_::_,h,_+1=>by grind[Ke]
 |_::_,[],h,_+1=>by grind[Ke]
theorem Ke.set{un:Uni S}{nu D w}:∀{ps:List (PV S)}{vs:List Value},Ke un nu D w ps vs->∀n p v,Rep un nu D w p v->Ke un nu D w (ps.set n p) (vs.set n v)
 |[],[],_,_,_,_,_=>by simp[Ke]
 |q::ps,u::vs,h,0,p,v,hp=>by grind[Ke]
 |q::ps,u::vs,h,n+1,p,v,hp=>by simp only[Ke] at h;simp only[List.set_cons_succ,Ke];exact ⟨h.1,Ke.set h.2 n p v hp⟩
 |[],_::_,h,_,_,_,_=>by grind[Ke]
 |_::_,[],h,_,_,_,_=>by grind[Ke]
mutual
theorem Rep.mono{un:Uni S}{nu nu':Nu}{D D':Dat}{w w':World}(g:Ge D w D' w')(b:Nat):∀(p:PV S)(v:Value),(∀i x,nu[i]?=some x->nu'[i]?=some x\/(i=b/\x.1=false/\p.says b=false))->Rep un nu D w p v->Rep un nu' D' w' p v
 | .int _ _,_,_,h=>by grind[Rep]
 | .bool _,_,_,h=>by grind[Rep]
 | .str _,_,_,h=>by grind[Rep]
 | .sl _ _,_,_,h=>by grind[Rep,DR.mono]
 | .nils,_,_,h=>by grind[Rep]
 | .st _ _,_,_,h=>by grind[Rep,DR.mono]
 | .agg l,_,hn,h=>by simp only[Rep] at h ⊢;obtain ⟨cs,h1,h2⟩:=h;exact ⟨cs,h1,Ke.mono g b l cs (λi x hx=>by grind[PV.says]) h2⟩
 | .tup l,_,hn,h=>by simp only[Rep] at h ⊢;obtain ⟨cs,h1,h2⟩:=h;exact ⟨cs,h1,Ke.mono g b l cs (λi x hx=>by grind[PV.says]) h2⟩
 | .elp _ _ _,_,_,h=>by simp only[Rep] at h ⊢;obtain ⟨b,p,cs,h1,h2,h3⟩:=h;exact ⟨b,p,cs,h1,g.dat h2,h3.mono g⟩
 | .ptr j _,_,hn,h=>by
   simp only[Rep] at h ⊢;obtain ⟨k,h1,h2⟩:=h;rcases hn j _ h1 with h3|h3;·grind
   ·exact absurd h3.2.1 (by simp)
 | .nilp,_,_,h=>by simpa only[Rep] using h
 | .ref j,_,hn,h=>by
   simp only[Rep] at h ⊢;rcases hn j _ h.1 with h3|h3;·exact ⟨h3,h.2⟩
   ·exact absurd h3.2.1 (by simp)
 | .elr j _ _ _,_,hn,h=>by
   simp only[Rep] at h ⊢;obtain ⟨fl,k,n,c,h1,h2⟩:=h;rcases hn j _ h1 with h3|h3;·exact ⟨fl,k,n,c,h3,h2⟩
   ·exact absurd h3.2.2 (by simp[PV.says,h3.1])
 | .cont _ _,_,_,h=>by simp only[Rep] at h ⊢;exact h.mono g
 | .rsl j _ _,_,hn,h=>by
   simp only[Rep] at h ⊢;obtain ⟨fl,k,n,c,off,h1,h2⟩:=h;rcases hn j _ h1 with h3|h3;·exact ⟨fl,k,n,c,off,h3,h2⟩
   ·exact absurd h3.2.2 (by simp[PV.says,h3.1])
 | .bref j _,_,hn,h=>by
   simp only[Rep] at h ⊢;obtain ⟨k,h1,h2⟩:=h;rcases hn j _ h1 with h3|h3;·exact ⟨k,h3,h2⟩
   ·exact absurd h3.2.1 (by simp)
 | .row j,_,hn,h=>by
   simp only[Rep] at h ⊢;rcases hn j _ h.1 with h3|h3;·exact ⟨h3,h.2⟩
   ·exact absurd h3.2.2 (by simp[PV.says,h3.1])
 | .func _ l r,_,hn,h=>by
   simp only[Rep] at h ⊢;obtain ⟨a,c,h1,h2,h3⟩:=h;refine ⟨a,c,h1,Ke.mono g b l a (λi x hx=>(hn i x hx).imp id λk=>⟨k.1,k.2.1,?_⟩) h2,Ke.mono g b r c (λi x hx=>(hn i x hx).imp id λk=>⟨k.1,k.2.1,?_⟩) h3⟩
   all_goals (have:=k.2.2;simp only[PV.says,yBl] at this;first|exact this.1|exact this.2)
 | .nilFunc,_,_,h=>by simpa only[Rep] using h
 | .iface _ x,_,hn,h=>by simp only[Rep] at h ⊢;obtain ⟨y,h1,h2⟩:=h;exact ⟨y,h1,Rep.mono g b x y (λi x hx=>by simpa only[PV.says] using hn i x hx) h2⟩
 | .nilIface,_,_,h=>by simpa only[Rep] using h
 | .junk,_,_,_=>by simp only[Rep]
theorem Ke.mono{un:Uni S}{nu nu':Nu}{D D':Dat}{w w':World}(g:Ge D w D' w')(b:Nat):∀(ps:List (PV S))(vs:List Value),(∀i x,nu[i]?=some x->nu'[i]?=some x\/(i=b/\x.1=false/\saysL b ps=false))->Ke un nu D w ps vs->Ke un nu' D' w' ps vs
 |[],[],_,_=>by simp only[Ke]
 |p::ps,v::vs,hn,h=>by
   simp only[Ke] at h ⊢;refine ⟨Rep.mono g b p v (λi x hx=>(hn i x hx).imp id λk=>⟨k.1,k.2.1,?_⟩) h.1,Ke.mono g b ps vs (λi x hx=>(hn i x hx).imp id λk=>⟨k.1,k.2.1,?_⟩) h.2⟩
   all_goals (have:=k.2.2;simp only[saysL,yBl] at this;first|exact this.1|exact this.2)
 |[],_::_,_,h=>by simp[Ke] at h
 |_::_,[],_,h=>by simp[Ke] at h
end
theorem Rep.ge{un:Uni S}{nu nu':Nu}{D D':Dat}{w w':World}(g:Ge D w D' w')(hn:∀(i:Nat) x,nu[i]?=some x->nu'[i]?=some x){p:PV S}{v:Value}(h:Rep un nu D w p v):Rep un nu' D' w' p v :=
 Rep.mono g 0 p v (λi x hx=>.inl (hn i x hx)) h
theorem Ke.ge{un:Uni S}{nu nu':Nu}{D D':Dat}{w w':World}(g:Ge D w D' w')(hn:∀(i:Nat) x,nu[i]?=some x->nu'[i]?=some x){p:List (PV S)}{v:List Value}(h:Ke un nu D w p v):Ke un nu' D' w' p v :=
 Ke.mono g 0 p v (λi x hx=>.inl (hn i x hx)) h
end Pe
end
section
namespace Pe
open Go Go.RowKit
variable{S:Nat->Type}
def zki:Wl.Res->Nat->Nat->Prop| .own v _ size n _,_,o=>Wl.capV v≠0/\Wl.offV v+n*size<=o| .grp _ _ _ _ s2 rows,g,o=>∀(i:Nat)(q:Value×Nat×List Value),rows[i]?=some (some q)->q.1.ownBlock=some g->Wl.capV q.1≠0/\Wl.offV q.1+q.2.1*s2<=o|_,_,_=>True
def zax:Wl.Res->Bool| .box _ _ _=>true| .fix _ _ _ _=>true|_=>false
def zgj:Obj->Option (TypeId×Nat×(Nat×Nat))| .cells cur T fz=>some (T,cur.size,fz)|_=>none
def zd6:Wl.Res->Option (TypeId×Nat×(Nat×Nat))| .fix _ _ _ ob=>zgj ob|_=>none
def keptR(w:World)(r:Wl.Res):Prop:=∀g,r.has g->∀ob,w.heap[g]?=some ob->∀s s',zgj ob=some s->zd6 r=some s'->s=s'
theorem keptR.self{E:Wl.Ctx}{w:World}{r:Wl.Res}(h:Wl.Res.holds E w r):keptR w r:=by
 intro g hg ob ho s s' h1 h2;cases r with
 |fix v g0 size ob0 =>have hg':g0=some g:=hg;have h3:=(h.2 g hg').2;rw[ho] at h3;cases h3;have h2':zgj ob=some s':=h2;grind
 |_=>cases h2
theorem keptR.box{w:World}{g:Nat}{T:TypeId}{cs:List Value}:keptR w (.box g T cs):=by intro _ _ _ _ _ _ _ h;cases h
theorem zmi{E E':Wl.Ctx}{w w':World}{r r':Wl.Res}(h:Wl.Res.holds E w r)(h':Wl.Res.holds E' w' r')(c:zax r=true)(c':zax r'=true)(hid:zal r'=zal r):(∀g,r'.has g->r.has g)/\∀s,zd6 r=none->zd6 r'=some s->∀g,¬r'.has g:=by
 cases r<;>simp[zax] at c<;>cases r'<;>simp[zax] at c'
 case box.box=>simp[zal] at hid;subst hid;exact ⟨λg h=>by simpa[Wl.Res.has] using h,λs _ h=>by cases h⟩
 case box.fix =>exfalso;simp[zal] at hid;subst hid;rcases h'.1 with ⟨_,_,_,h,_⟩|⟨_,_,_,_,_,_,h,_⟩|⟨h,_⟩|⟨_,_,_,_,_,_,h,_⟩<;>cases h
 case fix.box =>exfalso;simp[zal] at hid;subst hid;rcases h.1 with ⟨_,_,_,h,_⟩|⟨_,_,_,_,_,_,h,_⟩|⟨h,_⟩|⟨_,_,_,_,_,_,h,_⟩<;>cases h
 ·simp[zal] at hid;subst hid;rcases h.1 with ⟨_,_,_,rfl,rfl,rfl⟩|⟨_,_,_,_,_,_,rfl,rfl,rfl,_⟩|⟨rfl,rfl⟩|⟨_,_,_,_,_,_,rfl,rfl,rfl,_⟩ <;>
  rcases h'.1 with ⟨_,_,_,h1,h2,h3⟩|⟨_,_,_,_,_,_,h1,h2,h3,_⟩|⟨h1,h2⟩|⟨_,_,_,_,_,_,h1,h2,h3,_⟩<;>cases h1<;>subst h2;·subst h3;exact ⟨λ_ h=>h,λs _ h=>by cases h⟩
  ·exact ⟨λ_ h=>h,λs h=>by cases h⟩
  ·exact ⟨λ_ h=>h,λs _ _ g h=>by cases h⟩
  ·exact ⟨λ_ h=>h,λs h=>by cases h⟩
theorem keptR.trans{E E':Wl.Ctx}{w0 w w':World}{r r':Wl.Res}(h:Wl.Res.holds E w r)(h':Wl.Res.holds E' w' r')(c:zax r=true)(c':zax r'=true)(hid:zal r'=zal r)(k:keptR w0 r)(k':keptR w r'):keptR w0 r':=by
 obtain ⟨hb,hn⟩:=zmi h h' c c' hid;intro g hg ob ho s s' h1 h2;cases hs:zd6 r with
 |none=>grind|some s2 =>
   have e1:=k g (hb g hg) ob ho s s2 h1 hs;cases r with
   |fix v g0 size ob0 =>have e2:=k' g hg ob0 ((h.2 g (hb g hg)).2) s2 s' hs h2;exact e1.trans e2
   |_=>cases hs
def zyp(l:List Value)(i:Nat):Option Value:=match l[i]? with
 |some .nilFunc=>none|x=>x
theorem zyx{l:List Value}{i:Nat}{v:Value}(h:zyp l i=some v):l[i]?=some v/\v≠ .nilFunc:=by
 unfold zyp at h;split at h;·cases h
 ·rename_i hn;exact ⟨h,λe=>hn (e▸h)⟩
theorem zyR{l:List Value}{i:Nat}{v:Value}(h:l[i]?=some v)(hv:v≠ .nilFunc):zyp l i=some v:=by unfold zyp;rw[h];cases v<;>first|rfl|exact absurd rfl hv
theorem zAw{E:Wl.Ctx}{w:World}{r:Wl.Res}(hc:zax r=true)(h:Wl.Res.holds E w r):(zal r).2≠ .nilFunc:=by
 cases r with
 |box g T cs=>simp[zal]|fix v g size ob =>intro e;have e:v= .nilFunc:=e;subst e;rcases h.1 with ⟨_,_,_,h,_⟩|⟨_,_,_,_,_,_,h,_⟩|⟨h,_⟩|⟨_,_,_,_,_,_,h,_⟩<;>cases h
 |_=>cases hc
structure In (E:Wl.Ctx) (D:Dat) (H:List Wl.Res) (w:World):Prop where
 out:Wl.Grow E.lent E.w w
 lt:∀k o,D k o->k<w.heap.size
 res:∀r∈H,Wl.Res.holds E w r
 apart:∀r∈H,∀g,r.has g->∀o,zki r g o->¬D g o
 disj:H.Pairwise Wl.apartR
 lent:∀(i:Nat)(v:Value),zyp E.fix i=some v->∃r,H[i]?=some r/\zax r=true/\zal r=(true,v)/\keptR E.w r
def Kj(un:Uni S)(nu:Nu)(D:Dat)(w:World)(E:Wl.Ctx):Bxs S->List Wl.Res->Prop|[],[]=>True|b::bs,r::rs=>Kc un nu D w E false b r/\Kj un nu D w E bs rs|_,_=>False
abbrev ids(H:List Wl.Res):Nu:=H.map zal
def TabE(un:Uni S)(w:World)(lent:List Nat):Prop:=∀t∈un.tabs,t.1<w.heap.size/\t.1∉lent/\∀(j:Nat) v,t.2[j]?=some v->w.cell? ⟨t.1,j,none⟩=some v
theorem TabE.grow{un:Uni S}{w w':World}{l l':List Nat}(h:TabE un w l)(hg:Wl.Grow l w w')(hl:∀g∈l',w.heap.size<=g\/g∈l):TabE un w' l':=λt ht=>by
 obtain ⟨h1,h2,h3⟩:=h t ht;refine ⟨yAq h1 hg.size,λhm=>?_,λj v hj=>(World.cell?_of_block (hg.block _ h1 h2)).trans (h3 j v hj)⟩;grind
structure St (un:Uni S) (E:Wl.Ctx) (N:Wl.Fr) (D:Dat) (H:List Wl.Res) (e:Env S) (bx:Bxs S) (a:Act) (w:World):Prop where
 Kr:In E D H w
 size:a.tmps.size=N.n
 defers:a.defers=N.ds/\TabE un E.w E.lent
 Kg:Kj un (ids H) D w E bx H
 slots:∀i p,zvo e i=some p->Rep un (ids H) D w p (a.tmps.getD i undef)
theorem St.tabL{un:Uni S}{E N D H e bx a w}(h:St un E N D H e bx a w){gs:List Nat}(hl:∀g∈gs,E.w.heap.size<=g\/g∈E.lent):TabE un w gs:=h.defers.2.grow h.Kr.out hl
theorem St.tab{un:Uni S}{E N D H e bx a w}(h:St un E N D H e bx a w):TabE un w []:=h.tabL λg hg=>by cases hg
theorem zhF{un:Uni S}{nu D w}(v:Value):Rep un nu D w (zaC v:PV S) v:=by
 cases v with
 |int k n=>simp[zaC,Rep]|bool b=>simp[zaC,Rep]|string s=>simp[zaC,Rep]|slice a l c=>unfold zaC;grind[Rep]|pointer a=>cases a<;>simp[zaC,Rep]|tuple vs =>
   obtain ⟨l⟩:=vs;cases l with
   |nil=>grind[zaC,Rep,Ke]|cons x r=>simp[zaC,Rep]
 |_=>simp[zaC,Rep]
theorem St.ev{un:Uni S}{E N D H e bx a w}(h:St un E N D H e bx a w){x:Operand}{p:PV S}(hx:ev e x=some p):Rep un (ids H) D w p (a.eval x):=by
 cases x with
 |tmp t=>exact h.slots t p hx|const v=>simp[Pe.ev] at hx;subst hx;exact zhF v|func f=>simp[Pe.ev] at hx;subst hx;simp only[Rep];exact ⟨[],[],rfl,by simp[Ke],by simp[Ke]⟩|global g=>grind[Pe.ev]
theorem St.evs{un:Uni S}{E N D H e bx a w}(h:St un E N D H e bx a w):∀{xs:List Operand}{ps:List (PV S)},evs e xs=some ps->Ke un (ids H) D w ps (xs.map a.eval)
 |[],ps,hx=>by grind[Pe.evs,Ke]
 |x::r,ps,hx=>by unfold Pe.evs at hx;cases h1:Pe.ev e x<;>cases h2:Pe.evs e r<;>simp[h1,h2] at hx;subst hx;simp only[yAn,Ke];exact ⟨h.ev h1,h.evs h2⟩
section
variable{un:Uni S}{nu:Nu}{D:Dat}{w:World}
theorem zf5:∀{u:U}{p:PV S}{x:El S u}{v:Value},cast0 u p=some x->Rep un nu D w p v->DR un D w [u] (sg x) [v]/\v.cells= #[v]/\Rep un nu D w (inj u x) v:=by
 intro u p x v hc hr;unfold cast0 at hc;split at hc
 ·rename_i k k' n;split at hc;·rename_i hk;obtain ⟨rfl⟩:= ‹PLift (k'=k)›;cases hc;simp only[Rep] at hr;subst hr;exact ⟨.int .nil,rfl,by simp only[inj,Rep]⟩
  ·cases hc
 ·cases hc;simp only[Rep] at hr;subst hr;exact ⟨.bool .nil,rfl,by simp only[inj,Rep]⟩
 ·cases hc;simp only[Rep] at hr;subst hr;exact ⟨.str .nil,rfl,by simp only[inj,Rep]⟩
 ·rename_i u' v' l;split at hc;·rename_i h heq;subst h;cases hc;simp only[Rep] at hr;refine ⟨hr,?_,by simp_all[inj,Rep]⟩;cases hr<;>rfl
  ·cases hc
 ·cases hc;simp only[Rep] at hr;subst hr;exact ⟨.sl0 none 0 rfl .nil,rfl,by simp only[inj,Rep];exact .sl0 none 0 rfl .nil⟩
 ·split at hc;·rename_i h heq;subst h;cases hc;simp only[Rep] at hr;refine ⟨hr,?_,by simp_all[inj,Rep]⟩;cases hr<;>rfl
  ·cases hc
 ·split at hc;·rename_i h heq;subst h;cases hc;simp only[Rep] at hr;refine ⟨hr,?_,by simp_all[inj,Rep]⟩;cases hr<;>rfl
  ·cases hc
 ·split at hc;·rename_i h heq;subst h;cases hc;simp only[Rep] at hr;refine ⟨hr,?_,by simp_all[inj,Rep]⟩;cases hr<;>rfl
  ·cases hc
 ·cases hc;simp only[Rep] at hr;subst hr;exact ⟨.cs0 none rfl .nil,rfl,by simp only[inj,Rep];exact .cs0 none rfl .nil⟩
 ·cases hc
theorem DR.cons1{u:U}{us:List U}{x:El S u}{t:ElL S us}{a b:List Value}(h:DR un D w [u] (sg x) a)(k:DR un D w us t b):DR un D w (u::us) (two x t) (a++b):=by
 cases h with
 |int h=>cases h;exact .int k|bool h=>cases h;exact .bool k|str h=>cases h;exact .str k|sl0 A c h0 h=>cases h;exact .sl0 A c h0 k|sl b off c cs hc h1 h2 h=>cases h;exact .sl b off c cs hc h1 h2 k|mp kc vc h1 h2 h=>cases h;exact .mp kc vc h1 h2 k|rw cs h1 h=>cases h;exact .rw cs h1 k|cs0 A h0 h=>cases h;exact .cs0 A h0 k|cs b off cs h1 h2 h=>cases h;exact .cs b off cs h1 h2 k|st h1 h=>cases h;rw[yAR];exact .st h1 k
theorem zih:∀{us:List U}{ps:List (PV S)}{t:ElL S us}{vs:List Value},zii us ps=some t->Ke un nu D w ps vs->DR un D w us t vs
 |[],[],t,[],_,_=>.nil|u::us,p::ps,t,v::vs,hc,hr=>by
   simp only[Ke] at hr;unfold zii at hc;split at hc;·rename_i x t' h1 h2;cases hc;exact (zf5 h1 hr.1).1.cons1 (zih h2 hr.2)
   ·cases hc
 |[],_::_,_,_,hc,_=>by grind[zii]
 |_::_,[],_,_,hc,_=>by grind[zii]
 |[],[],_,_::_,_,hr=>by grind[Ke]
 |_::_,_::_,_,[],_,hr=>by grind[Ke]
structure Kx (un:Uni S):Prop where
 flat:zns un
 get_put:∀n t,un.get n (un.put n t)=t
theorem zbT(Kq:Kx un){u:U}{p:PV S}{x:El S u}{v:Value}(hc:cast un u p=some x)(hr:Rep un nu D w p v):DR un D w [u] (sg x) v.cells.toList/\Rep un nu D w (inj u x) v:=by
 have key:∀{u:U}{x:El S u},cast0 u p=some x->DR un D w [u] (sg x) v.cells.toList/\Rep un nu D w (inj u x) v:=by intro u x hc;obtain ⟨h1,h2,h3⟩:=zf5 (un:=un) (nu:=nu) (D:=D) (w:=w) hc hr;grind
 cases u with
 |st n =>
   cases p with
   |st m y =>
     simp only[cast] at hc;split at hc;·rename_i h _;subst h;cases hc;simp only[Rep] at hr;obtain ⟨cs,rfl,hd⟩:=hr;simp_all[Value.cells,inj,Rep]
     ·cases hc
   |agg l =>
     simp only[cast] at hc;split at hc
     ·rename_i t ht;cases hc;simp only[Rep] at hr;obtain ⟨cs,rfl,hl⟩:=hr;have hd:=zih (un:=un) ht hl;have hd2:DR un D w [.st n] (sg (u:= .st n) (un.put n t)) cs:=by
       rw[<-yAR cs];refine .st ?_ .nil;show DR un D w (un.codes n) (un.get n (un.put n t)) cs;grind[Kx.get_put]
      simp_all[Value.cells,inj,Rep]
     ·cases hc
   |_=>grind[cast]
 |int k=>grind[cast]|bool=>grind[cast]|str=>grind[cast]|sl u=>grind[cast]|mp k v=>grind[cast]|rw u=>grind[cast]|cs u=>grind[cast]
theorem zc2:∀{us:List U}{t:ElL S us}{vs:List Value},(∀u∈us,∀m,u≠ .st m)->DR un D w us t vs->Ke un nu D w (zbQ us t) vs
 |[],_,_,_,h=>by cases h;simp[zbQ,Ke]
 |u::us,t,vs,hf,h=>by
   have ih:=λ{t vs}=> @zc2 us t vs (λv hv=>hf v (by simp[hv]));cases h with
   |int h=>simp only[zbQ,Ke];exact ⟨by simp only[inj,Rep];rfl,ih h⟩|bool h=>simp only[zbQ,Ke];exact ⟨by simp only[inj,Rep];rfl,ih h⟩|str h=>simp only[zbQ,Ke];exact ⟨by simp only[inj,Rep];rfl,ih h⟩|sl0 A c h0 h=>simp only[zbQ,Ke];exact ⟨by simp only[inj,Rep];exact .sl0 A c h0 .nil,ih h⟩|sl b off c cs hc h1 h2 h=>simp only[zbQ,Ke];exact ⟨by simp only[inj,Rep];exact .sl b off c cs hc h1 h2 .nil,ih h⟩|mp kc vc h1 h2 h=>simp only[zbQ,Ke];exact ⟨by simp only[inj,Rep];exact .mp kc vc h1 h2 .nil,ih h⟩|rw cs h1 h=>simp only[zbQ,Ke];exact ⟨by simp only[inj,Rep];exact .rw cs h1 .nil,ih h⟩|cs0 A h0 h=>simp only[zbQ,Ke];exact ⟨by simp only[inj,Rep];exact .cs0 A h0 .nil,ih h⟩|cs b off cs h1 h2 h=>simp only[zbQ,Ke];exact ⟨by simp only[inj,Rep];exact .cs b off cs h1 h2 .nil,ih h⟩|@st n _ _ _ _ h1 h=>simp_all
theorem zbZ(hf:zns un){u:U}{x:El S u}{cs:List Value}(h:DR un D w [u] (sg x) cs):Ke un nu D w (zdN un u x) cs:=by
 cases u with
 |st n =>
   cases h with
   |st h1 h=>cases h;rw[yAR];exact zc2 (λu hu=>(hf n u hu).2) h1
 |int k=>exact zc2 (us:=[.int k]) (by simp) h|bool=>exact zc2 (us:=[.bool]) (by simp) h|str=>exact zc2 (us:=[.str]) (by simp) h|sl u=>exact zc2 (us:=[.sl u]) (by simp) h|mp k v=>exact zc2 (us:=[.mp k v]) (by simp) h|rw u=>exact zc2 (us:=[.rw u]) (by simp) h|cs u=>exact zc2 (us:=[.cs u]) (by simp) h
theorem Rep.one{p:PV S}{v:Value}(h1:p.one=true)(h:Rep un nu D w p v):v.oneCell'=true/\v.cells= #[v]:=by
 cases p<;>simp[PV.one] at h1<;>simp only[Rep] at h
 case row b=>exact h.2
 case ref b =>have:=h.2;cases v<;>first|grind[zeZ]|exact ⟨rfl,rfl⟩
 case elr b u i off=>obtain ⟨_,_,_,_,_,rfl⟩:=h;exact ⟨rfl,rfl⟩
 case rsl b u i=>obtain ⟨_,_,_,_,_,_,rfl,_⟩:=h;exact ⟨rfl,rfl⟩
 case sl u l=>cases h<;>exact ⟨rfl,rfl⟩
 case cont u l=>cases u<;>simp[U.told] at h1<;>cases h<;>exact ⟨rfl,rfl⟩
 all_goals (first|(subst h;exact ⟨rfl,rfl⟩)|(obtain ⟨_,_,_,rfl,_⟩:=h;exact ⟨rfl,rfl⟩)|(obtain ⟨_,_,rfl⟩:=h;exact ⟨rfl,rfl⟩)|(obtain ⟨_,_,rfl,_⟩:=h;exact ⟨rfl,rfl⟩)|(obtain ⟨_,rfl,_⟩:=h;exact ⟨rfl,rfl⟩))
theorem zf2(hf:zns un){p:PV S}{v:Value}(h1:(p.cells un).all PV.one=true)(h:Rep un nu D w p v):Ke un nu D w (p.cells un) v.cells.toList/\∀u∈v.cells.toList,u.oneCell'=true:=by
 have key:∀{ps:List (PV S)}{vs:List Value},ps.all PV.one=true->Ke un nu D w ps vs->∀u∈vs,u.oneCell'=true:=by
  intro ps;induction ps with
  |nil=>grind[Ke]
  |cons q ps ih =>
    intro vs ha h u hu;cases vs with
    |nil=>simp at hu|cons v vs =>
      simp only[Ke] at h;simp only[yBT,yAd] at ha;rcases yAm.1 hu with rfl|hu;·exact (Rep.one ha.1 h.1).1
      ·exact ih ha.2 h.2 u hu
 have single:p.cells un=[p]->Ke un nu D w (p.cells un) v.cells.toList/\∀u∈v.cells.toList,u.oneCell'=true:=by intro hp;rw[hp] at h1 ⊢;simp at h1;obtain ⟨h2,h3⟩:=Rep.one h1 h;simp_all[Ke]
 cases p with
 |agg l =>grind[Rep,PV.cells,Value.cells]
 |st n x =>grind[Rep,zbZ,Value.cells,PV.cells]
 |_=>exact single rfl
theorem Kc.base{E:Wl.Ctx}:∀{ro:Bool}{b:Box S}{r:Wl.Res},Kc un nu D w E ro b r->∃ro',Kc un nu D w E ro' b.base r
 |ro,.var _ _,r,h=>⟨ro,h⟩|ro,.own _ _ _,r,h=>⟨ro,h⟩|ro,.wr _ _ _,r,h=>⟨ro,h⟩|ro,.nst _ _ _ _ _,r,h=>⟨ro,h⟩|ro,.grp _ _ _ _,r,h=>⟨ro,h⟩|ro,.gone,r,h=>⟨ro,h⟩|ro,.lk b,r,h=>by simp only[Kc] at h;simpa only[Box.base] using Kc.base h
 |ro,.ro b,r,h=>by simp only[Kc] at h;simpa only[Box.base] using Kc.base h
theorem Kj.get{E:Wl.Ctx}:∀{bx:Bxs S}{H:List Wl.Res}{i:Nat}{b:Box S},Kj un nu D w E bx H->zam bx i=some b->∃r,H[i]?=some r/\Kc un nu D w E false b r
 |[],_,_,_,_,h=>by grind[zam]
 |b::bs,r::rs,0,c,h,hg=>by grind[Kj,zam]
 |b::bs,r::rs,i+1,c,h,hg=>by simp only[Kj] at h;simp only[zam] at hg;simpa using Kj.get h.2 hg
 |_::_,[],_,_,h,_=>by grind[Kj]
theorem Kj.length{E:Wl.Ctx}:∀{bx:Bxs S}{H:List Wl.Res},Kj un nu D w E bx H->bx.length=H.length
 |[],[],_=>rfl|b::bs,r::rs,h=>by simp only[Kj] at h;simp[Kj.length h.2]
 |[],_::_,h=>by grind[Kj]
 |_::_,[],h=>by grind[Kj]
theorem ze9{b off:Nat}{cs:List Value}(h:dat D w b off cs):w.rangeAt b off cs:=λj v hj=>(h j v hj).2
theorem zgs(_:zns un){E:Wl.Ctx}{u:U}{T:TypeId}{l:List (El S u)}{v:Value}{T':TypeId}{size n:Nat}{xs:List Value}(hh:Wl.Res.holds E w (.own v T' size n xs))(h:Kc un nu D w E false (.own u T l) (.own v T' size n xs)):Rep un nu D w (.sl u l) v:=by
 simp only[Kc] at h;obtain ⟨rfl,rfl,rfl,hD,hx⟩:=h;obtain ⟨⟨Ku,hh⟩,_⟩:=hh;simp only[Rep];rcases hh with ⟨rfl,hn⟩|⟨g,off,cap,cur,rfl,hg,hnc,hcm,hcs,htk⟩
 ·have:l=[]:=yAU.1 hn;subst this;exact .sl0 none 0 rfl .nil
 ·refine .sl g off cap (λi=>(xs.drop (i*U.size un u)).take (U.size un u)) hnc (λi x hi j v hj=>?_) (λi x hi=>hx i x hi) .nil;have hil:i<l.length:=(yAc.1 hi).1;have hj':=hj;rw[yAD] at hj;split at hj
  ·rename_i hjs;rw[yAu] at hj;have h1:i*U.size un u+j<l.length*U.size un u:=by
    have h2:(i+1)*U.size un u<=l.length*U.size un u:=yAs _ hil;have h3:(i+1)*U.size un u=i*U.size un u+U.size un u:=(by rw[yAz,yAQ]);omega
   refine ⟨hD g rfl _ (by grind[Wl.offV]),?_⟩;rw[cell_of_row w g _ _ _ _ hg];subst htk;rw[yAt h1,yAu] at hj;simp_all[yBx]
  ·cases hj
end
end Pe
end
section
namespace Pe
open Go Go.RowKit
variable{S:Nat->Type}
def zpJ:TypeDesc->Bool| .struct _ | .array _ _=>true|_=>false
structure ElOk (P:Program) (un:Uni S) (T:TypeId) (u:U):Prop where
 info:∃i z,P.info? T=some i/\i.zero=some z/\i.size=U.size un u/\z.cells.size=U.size un u/\0<U.size un u/\i.bytes<=32768
def zaV(place:Nat->Option (Nat×Nat)):List Value->List (Nat×Value)->Option (List Value)
 |cs,[]=>some cs|cs,(i,v)::r =>
   match place i with
   |none=>none|some (off,size)=>bif Nat.beq v.cells.size size&&Nat.ble (off+size) cs.length then zaV place (spliceV cs off v.cells.toList) r else none  where
 spliceV:List Value->Nat->List Value->List Value
 |cs,_,[]=>cs|cs,off,v::r=>spliceV (cs.set off v) (off+1) r
def zeQ:List Bool->List MapEntry->Nat->Option (Nat×Value)|true::_,e::_,i=>some (i,e.val)|false::r,_::es,i=>zeQ r es (i+1)|_,_,_=>none
def KeysRep(un:Uni S)(D:Dat)(w:World)(k:U):List (El S k)->List MapEntry->Prop|[],[]=>True|y::l,e::es=>Rep un [] D w (inj k y) e.key/\KeysRep un D w k l es|_,_=>False
structure KeyOk (P:Program) (un:Uni S) (kt:TypeId) (k:U):Prop where
 find:∀(D:Dat)(w:World)(x:El S k)(a:Value)(l:List (El S k))(es:List MapEntry),Rep un [] D w (inj k x) a->KeysRep un D w k l es->(Instr.findKey kt a es).run P w= .ok (zeQ (l.map (keq un k x)) es 0) w
 check:∀(D:Dat)(w:World)(x:El S k)(a:Value)(em:Bool),Rep un [] D w (inj k x) a->(Instr.checkKey em 10000 kt a).run P w= .ok () w
 stays:∀(D:Dat)(w:World)(x y:El S k)(a b:Value),Rep un [] D w (inj k x) a->Rep un [] D w (inj k y) b->keq un k x y=true->(Instr.keyThatStays b a).run P w= .ok a w
structure RowOk (P:Program) (un:Uni S) (t:TypeId) (r:TyRow S):Prop where
 size:(P.info? t).map (·.size)=some r.n
 agg:r.agg=true->∃d,P.underlying t=some d/\zpJ d=true
 one:r.agg=false->r.n=1/\∀w,(isAgg t).run P w= .ok false w
 zero:∃z,(P.info? t).bind (·.zero)=some z/\z.cells.size=r.n/\r.zero=z.cells.toList.map zaC
 str:r.kd=1->P.underlying t=some .string
 bool:r.kd=5->P.underlying t=some .bool
 slice:r.kd=2->∃T u,r.elem=some (T,u)/\P.underlying t=some (.slice T)/\ElOk P un T u
 elem:∀T u,r.elem=some (T,u)->r.kd=2
 field:r.kd=3->∀f d s,r.fields[f]?=some (d,s)->∀a w,(Instr.fieldAt t (.pointer (some a)) f).run P w= .ok (.pointer (some (a.add d))) w
 array:r.kd=4->∀(f:Nat) d s,r.fields[f]?=some (d,s)->∀a k w,(Instr.indexAt t (.pointer (some a)) (.int k (f:Int))).run P w= .ok (.pointer (some (a.add d))) w
 build:r.kd=3\/r.kd=4->∀z,(P.info? t).bind (·.zero)=some z->∀(ps:List (Nat×Value))(cs:List Value)(w:World),zaV (λi=>r.fields[i]?) z.cells.toList ps=some cs->(Instr.build t ps.toArray).run P w= .ok (.agg cs.toArray) w
 code:∀n,r.code=some (.st n)->r.agg=true/\r.n=(un.codes n).length
 int:∀k,r.code=some (.int k)->P.underlying t=some (.int k)
 und:∃d,P.underlying t=some d
 zagg:∀z,(P.info? t).bind (·.zero)=some z->(r.agg=true->∃cs,z= .agg cs)/\(r.agg=false->z.cells= #[z])
 arr:∀T u,r.arr=some (T,u)->∀(n off s:Nat),r.fields[n]?=some (off,s)->s=U.size un u/\∀(cs:List Value)(k:IntKind)(w:World),off+s<=cs.length->(Instr.index t (.agg cs.toArray) (.int k (n:Int))).run P w= .ok (zbF u ((cs.drop off).take s)) w
 mp:∀kt k vt v,r.mp=some (kt,k,vt,v)->P.underlying t=some (.map kt vt)/\KeyOk P un kt k
 eq:∀n,r.code=some (.st n)->((un.codes n).all U.scalar&&Nat.beq r.fields.length (un.codes n).length)=true->∀D w t1 t2 c1 c2 op x y,DR un D w (un.codes n) t1 c1->DR un D w (un.codes n) t2 c2->∀b,(op= .eql/\b=eqC (un.codes n) t1 t2\/op= .neq/\b= !eqC (un.codes n) t1 t2) ->
  (eqGuard op t x y (.agg c1.toArray) (.agg c2.toArray)).run P w= .ok () w/\(binOp op t (.agg c1.toArray) (.agg c2.toArray)).run P w= .ok (.bool b) w
def zkj(un:Uni S)(D:Dat)(w:World)(u:U)(l:List (El S u))(xs:List Value):Prop:=∀(i:Nat) x,l[i]?=some x->DR un D w [u] (sg x) ((xs.drop (i*U.size un u)).take (U.size un u))
def BldAt(T Eb:TypeId)(g:Nat)(v:Value)(xs:List Value)(w:World):Prop :=
 (∃p A n c,w.heap[g]?=some (.cells #[p,v] T (0,0))/\v= .slice A n c/\(p= .pointer none\/p= .pointer (some ⟨g,0,none⟩)))/\w.ownsRow 0 Eb 1 v xs.length xs/\v.ownBlock≠some g
structure BldKeep (g:Nat) (v:Value) (w w':World):Prop where
 os:w'.os=w.os
 tape:w'.tape=w.tape
 output:w'.output=w.output
 size:w.heap.size<=w'.heap.size
 block:∀k,k<w.heap.size->k≠g->v.ownBlock≠some k->w'.heap[k]?=w.heap[k]?
def zpP(T Eb:TypeId)(g:Nat)(v:Value)(ys:List Value)(w w':World):Prop :=
 ∃v',BldAt T Eb g v' ys w'/\(∀k,v'.ownBlock=some k->v.ownBlock=some k\/w.heap.size<=k)/\BldKeep g v w w'
def BldOk(P:Program)(f:FuncId)(k:Nat)(T Eb:TypeId):Prop:=∀(g:Nat)(v:Value)(xs:List Value)(w:World),BldAt T Eb g v xs w->match k with
 |0=>∀c:Int,xs.length+1<=lim->Calls P f #[.pointer (some ⟨g,0,none⟩),.int .u8 c] w λx w'=>x= .returned .nilIface/\zpP T Eb g v (xs++[.int .u8 c]) w w'|1=>∀s:By,xs.length+s.length<=lim->Calls P f #[.pointer (some ⟨g,0,none⟩),.string ⟨s.toArray⟩] w λx w'=>x= .returned (.tuple #[.int .i64 (s.length:Int),.nilIface])/\zpP T Eb g v (xs++(zaT s).map (Value.int .u8)) w w'|2=>∀s:By,xs=(zaT s).map (Value.int .u8)->Calls P f #[.pointer (some ⟨g,0,none⟩)] w λx w'=>x= .returned (.string ⟨s.toArray⟩)/\w.grownBy w' v.ownBlock|_=>Calls P f #[.pointer (some ⟨g,0,none⟩)] w λx w'=>x= .returned (.int .i64 (xs.length:Int))/\w'=w
structure Qc (P:Program) (un:Uni S) (tb:Tb S):Prop where
 ty:∀t r,tb.ty.get t=some r->RowOk P un t r
 data:∀f us rs,tb.sig.get f=some (.data us rs)->∀args w,(callFunc f args).run P w= .ok (.enter f args) w
 eff:∀f us ts lc rs ps pan,tb.sig.get f=some (.eff us ts lc rs ps pan)->∀args w,(callFunc f args).run P w= .ok (.enter f args) w
 effI:∀f fn an ts lc rs ps pan,tb.sig.get f=some (.effI fn an ts lc rs ps pan)->P.funcs[f]?=some fn/\∀args w,(callFunc f args).run P w= .ok (.enter f args) w
 inl:∀f fn an rs,tb.sig.get f=some (.inl fn an rs)->P.funcs[f]?=some fn/\∀args w,(callFunc f args).run P w= .ok (.enter f args) w
 lin:∀f g,tb.sig.get f=some (.lin g)->(∀args w,(callFunc f args).run P w= .ok (.enter f args) w)/\g.ok=true
 bld:∀f k T Eb,tb.sig.get f=some (.bld k T Eb)->BldOk P f k T Eb/\(∀args w,(callFunc f args).run P w= .ok (.enter f args) w)
 inpl:∀f u T us,tb.sig.get f=some (.inpl u T us)->∀args w,(callFunc f args).run P w= .ok (.enter f args) w
theorem Qc.at{P:Program}{un:Uni S}{tb:Tb S}(h:Qc P un tb)(an:Ann):Qc P un (tb.at an):=⟨h.ty,h.data,h.eff,h.effI,h.inl,h.lin,h.bld,h.inpl⟩
def zkU(D:Dat)(w w':World):Dat:=λk o=>D k o\/(w.heap.size<=k/\k<w'.heap.size)
def Back(P:Program)(un:Uni S)(D:Dat)(f:FuncId)(vs:Array Value)(w:World)(p:PV S):Prop :=
 Calls P f vs w λx w'=>∃v,x= .returned v/\Below w.heap.size w w'/\Rep un [] (zkU D w w') w' p v
def Sat(P:Program)(un:Uni S)(f:FuncId)(args:List (PV S))(rs:List U)(r:ElL S rs):Prop :=
 ∀(D:Dat)(w:World)(vs:List Value),TabE un w []->(∀k o,D k o->k<w.heap.size)->Ke un [] D w args vs->Back P un D f vs.toArray w (zfI (zbQ rs r))
def zaL(un:Uni S)(D:Dat)(w:World):List TypeId->(lc:List U)->ElL S lc->List Nat->Prop|[],[],_,[]=>True|T::ts,u::us,t,g::gs=>(∃cs:List Value,w.heap[g]?=some (.cells cs.toArray T (0,0))/\DR un D w [u] (sg (hd t)) cs)/\zaL un D w ts us (tl t) gs|_,_,_,_=>False
def zov(w w':World)(gs:List Nat):Prop:=∀g∈gs,∀T cs,w.heap[g]?=some (.cells cs T (0,0))->∃cs',cs'.size=cs.size/\w'.heap[g]?=some (.cells cs' T (0,0))
abbrev zgN(gs:List Nat):Nu:=gs.map λg=>(true,.pointer (some ⟨g,0,none⟩))
def EndE(un:Uni S)(D:Dat)(w:World)(ts:List TypeId)(lc rs ps:List U)(pan:TypeId)(gs:List Nat)(r:Out S lc rs ps)(x:Ending)(w':World):Prop :=
 Wl.Grow gs w w'/\match r with
  | .inl r=>(∃v,x= .returned v/\Rep un [] (zkU D w w') w' (zfI (zbQ rs r.2)) v)/\zaL un (zkU D w w') w' ts lc r.1 gs| .inr p=>x= .panicked [zsg pan ps p]/\zov w w' gs
def zsl(P:Program)(un:Uni S)(f:FuncId)(args:List (PV S))(ts:List TypeId)(lc:List U)(c:ElL S lc)(rs ps:List U)(pan:TypeId)(r:Out S lc rs ps):Prop :=
 ∀(D:Dat)(w:World)(vs:List Value)(gs:List Nat),TabE un w gs->(∀k o,D k o->k<w.heap.size)->gs.Nodup->(∀g∈gs,∀o,¬D g o)->zaL un D w ts lc c gs->Ke un (zgN gs) D w args vs ->
  Calls P f vs.toArray w (EndE un D w ts lc rs ps pan gs r)
abbrev zaB(H:List Wl.Res):List Nat:=H.flatMap Wl.Res.blocks
def EndL(un:Uni S)(D:Dat)(w:World)(H:List Wl.Res)(fx:List Value)(g:Sg)(r:g.Out S)(x:Ending)(w':World):Prop :=
 ∃D' H',In ⟨w,zaB H,fx⟩ D' H' w'/\Ge D w D' w'/\(∀k o,D' k o->D k o\/(⟨w,zaB H,fx⟩:Wl.Ctx).may k)/\match r with
  | .inl r=>Kj un (ids H') D' w' ⟨w,zaB H,fx⟩ (zbO g.bs (zcI g.outs r g.bs.length)++zbo g.outs r) H'/\∃v,x= .returned v/\Rep un (ids H') D' w' (zfI (zww g.rs ((zcI g.outs r g.bs.length).drop g.nb))) v| .inr p=>Kj un (ids H') D' w' ⟨w,zaB H,fx⟩ (zbO g.bs (List.replicate g.nb .junk)) H'/\x= .panicked [zsg g.pan g.ps p]
def ztk(P:Program)(un:Uni S)(f:FuncId)(g:Sg)(t:g.In S)(r:g.Out S):Prop :=
 ∀(D:Dat)(w:World)(vs:List Value)(H:List Wl.Res)(fx:List Value),TabE un w (zaB H)->fx.length=g.bs.length->In ⟨w,zaB H,fx⟩ D H w ->
  Kj un (ids H) D w ⟨w,zaB H,fx⟩ (zbO g.bs (zcI g.ins t g.bs.length)++zbo g.ins t) H->Ke un (ids H) D w (zww g.as ((zcI g.ins t g.bs.length).drop g.nb)) vs ->
  Calls P f vs.toArray w (EndL un D w H fx g r)
def zyj(P:Program)(un:Uni S)(f:FuncId)(u:U)(T:TypeId)(args:List (PV S))(l l':List (El S u)):Prop :=
 ∀(D:Dat)(w:World)(v:Value)(xs:List Value)(vs:List Value),TabE un w v.ownBlock.toList->(∀k o,D k o->k<w.heap.size)->w.ownsRow 0 T (U.size un u) v l.length xs->(∀g,v.ownBlock=some g->∀o,¬D g o)->zkj un D w u l xs->Ke un [] D w args vs ->
  Calls P f (v::vs).toArray w λx w'=>x= .returned (.tuple #[])/\Wl.Grow v.ownBlock.toList w w'/\∃xs',l'.length=l.length/\w'.ownsRow 0 T (U.size un u) v l'.length xs'/\zkj un (zkU D w w') w' u l' xs'
structure K4 (P:Program) (un:Uni S) (orc:Orc S):Prop where
 d:∀f args rs r,orc.d f args rs=some r->Sat P un f args rs r
 e:∀f args ts lc c rs ps pan r,orc.e f args ts lc c rs ps pan=some r->zsl P un f args ts lc c rs ps pan r
 l:∀f g t r,orc.l f g t=some r->ztk P un f g t r
 p:∀f u T args l l',orc.p f u T args l=some l'->zyj P un f u T args l l'
structure Qe (P:Program) (un:Uni S) (inl:Inl S):Prop where
 e:∀fn an args ts lc c rs ps pan r f,inl.e fn an args ts lc c rs ps pan=some r->P.funcs[f]?=some fn->zsl P un f args ts lc c rs ps pan r
 d:∀fn an args bx rs r f,inl.d fn an args bx rs=some r->P.funcs[f]?=some fn ->
  ∀(D:Dat)(H:List Wl.Res)(w:World)(vs:List Value),TabE un w []->(∀k o,D k o->k<w.heap.size)->(∀r∈H,∃id,r= .ref id)->Kj un (ids H) D w ⟨w,[],[]⟩ bx H->Ke un (ids H) D w args vs->Back P un D f vs.toArray w (zfI (zbQ rs r))
def Gives(P:Program)(un:Uni S)(o:Oper)(e:Env S)(bx:Bxs S)(p:PV S):Prop :=
 ∀E N D H a w,St un E N D H e bx a w ->
  (∃v,(execOp a.eval o).run P w= .ok (.value v) w/\Rep un (ids H) D w p v) \/
  (∃f vs,(execOp a.eval o).run P w= .ok (.enter f vs) w/\Back P un D f vs w p)
theorem zay{α β:Type}{x:Option α}{f:α->Option β}{r:β}(h:ob x f=some r):∃a,x=some a/\f a=some r:=by
 cases x with
 |none=>cases h|some a=>exact ⟨a,rfl,h⟩
theorem znm{α:Type}{l:List α}{n:Int}{x:α}(h:at? l n=some x):∃k:Nat,n=k/\l[k]?=some x:=by
 cases n with
 |ofNat k=>exact ⟨k,rfl,h⟩|negSucc k=>cases h
theorem zgr{α:Type}{l:List α}{lo hi:Int}{s:List α}(h:zhN l lo hi=some s):∃i j:Nat,lo=i/\hi=j/\i<=j/\j<=l.length/\s=(l.drop i).take (j - i):=by
 unfold zhN at h;split at h
 ·rename_i i j;cases hb:(Nat.ble i j&&Nat.ble j l.length) with
  |false=>simp_all|true =>rw[hb] at h;simp only[yAd,yAK] at hb;cases h;exact ⟨i,j,rfl,rfl,hb.1,hb.2,rfl⟩
 ·cases h
theorem zch{α:Type}{l r s:List α}(h:zdJ l r=some s):l.length+r.length<=lim/\s=l++r:=by
 unfold zdJ at h;cases hb:Nat.ble (l.length+r.length) lim with
 |false=>grind|true=>simp_all
theorem zae{β:Type}{b:Bool}{x:Option β}{r:β}(h:(bif b then x else none)=some r):b=true/\x=some r:=by
 grind
section
variable{P:Program}{un:Uni S}{tb:Tb S}{orc:Orc S}{inl:Inl S}{E:Wl.Ctx}{N:Wl.Fr}{D:Dat}{H:List Wl.Res}{e:Env S}{bx:Bxs S}{a:Act}{w:World}
theorem St.fz1(Kq:Kx un)(h:St un E N D H e bx a w){p:PV S}{v:Value}(hr:Rep un (ids H) D w p v):Rep un (ids H) D w (fz1 bx p) v:=by
 cases p with
 |row b =>
   simp only[Pe.fz1];cases hg:zam bx b with
   |none=>simp[Rep]|some x =>
     obtain ⟨r,hr1,hr2⟩:=h.Kg.get hg;obtain ⟨ro,hb⟩:=hr2.base;simp only[yAg];cases hx:x.base with
     |own u T l =>
       rw[hx] at hb;simp only[Rep,ids,yAh,hr1,yAg,yAf] at hr;cases r with
       |own v' T' size n xs =>
         cases ro with
         |true=>simp[Kc] at hb|false =>
           have:v'=v:=by have:=hr.1;simp[zal] at this;exact this
           subst this;exact zgs Kq.flat (h.Kr.res _ (yAb hr1)) hb
       |ref id =>
         cases ro with
         |true=>simp only[Kc] at hb;have:=hr.1;simp[zal] at this;subst this;exact hb.2
         |false=>simp[Kc] at hb
       |box g T' vs=>cases ro<;>simp[Kc] at hb|wr=>cases ro<;>simp[Kc] at hb|nst=>cases ro<;>simp[Kc] at hb|grp=>cases ro<;>simp[Kc] at hb|fix=>cases ro<;>simp[Kc] at hb
     |_=>simp[Rep]
 |cont u l =>
   cases u with
   |cs u =>
     simp only[Pe.fz1,Rep] at hr ⊢;cases hr with
     |cs0 A h0 h=>exact .sl0 A 0 h0 h|cs b off cs h1 h2 h=>exact .sl b off _ cs (yAi _) h1 h2 h
   |_=>exact hr
 |_=>exact hr
theorem St.fz1L(Kq:Kx un)(h:St un E N D H e bx a w):∀{ps:List (PV S)}{vs:List Value},Ke un (ids H) D w ps vs->Ke un (ids H) D w (ps.map (Pe.fz1 bx)) vs
 |[],[],_=>by simp[Ke]
 |p::ps,v::vs,hr=>by simp only[Ke,yAn] at hr ⊢;exact ⟨h.fz1 Kq hr.1,h.fz1L Kq hr.2⟩
 |[],_::_,hr=>by grind
 |_::_,[],hr=>by grind[Ke]
theorem St.fz3(Kq:Kx un)(h:St un E N D H e bx a w){p:PV S}{v:Value}(hr:Rep un (ids H) D w p v):Rep un (ids H) D w (fz3 bx p) v:=by
 cases p with
 |elr b u i off =>
   simp only[Pe.fz3];cases hg:zam bx b with
   |none=>exact hr|some x =>
     simp only[yAg];cases hx:x.base with
     |own u' T l =>
       simp only;cases heq:U.eq? u' u with
       |none=>exact hr|some hh =>
         obtain ⟨hh⟩:=hh;subst hh;simp only;cases hl:l[i]? with
         |none=>exact hr|some y =>
           simp only[Rep] at hr;obtain ⟨fl,g,n,c,h1,rfl⟩:=hr;have hfl:fl=false:=by
            obtain ⟨r,hr1,hr2⟩:=h.Kg.get hg;obtain ⟨ro,hb⟩:=hr2.base;rw[hx] at hb;simp only[ids,yAh,hr1,yAg,yAf] at h1;cases ro<;>cases r<;>simp only[Kc] at hb;·simp only[zal,Prod.mk.injEq] at h1;exact h1.1.symm
            simp_all[zal]
           subst hfl;have Kp:Rep un (ids H) D w (.row b) (.slice (some ⟨g,0,none⟩) n c):=by simp only[Rep];exact ⟨h1,rfl,rfl⟩
           have hs:=h.fz1 Kq Kp;simp only[Pe.fz1,hg,yAg,hx,Rep] at hs;simp only[Rep];cases hs with
           |sl0 A c h0 h=>have h0:l=[]:=h0;grind
           |sl b0 off0 c cs hc g1 g2 h =>refine ⟨g,i*U.size un u',cs i,rfl,?_,g2 i y hl⟩;have:=g1 i y hl;grind
     |_=>exact hr
 |_=>exact hr
theorem St.fz3L(Kq:Kx un)(h:St un E N D H e bx a w):∀{ps:List (PV S)}{vs:List Value},Ke un (ids H) D w ps vs->Ke un (ids H) D w (ps.map (Pe.fz3 bx)) vs
 |[],[],_=>by simp[Ke]
 |p::ps,v::vs,hr=>by simp only[Ke,yAn] at hr ⊢;exact ⟨h.fz3 Kq hr.1,h.fz3L Kq hr.2⟩
 |[],_::_,hr=>by grind
 |_::_,[],hr=>by grind[Ke]
theorem St.fz2(Kq:Kx un)(h:St un E N D H e bx a w){p:PV S}{v:Value}(hr:Rep un (ids H) D w p v):Rep un (ids H) D w (fz2 bx p) v:=by
 cases p with
 |func f l r =>grind[Pe.fz2,Rep,fz3L]
 |_=>exact h.fz1 Kq hr
theorem St.fz2L(Kq:Kx un)(h:St un E N D H e bx a w):∀{ps:List (PV S)}{vs:List Value},Ke un (ids H) D w ps vs->Ke un (ids H) D w (ps.map (Pe.fz2 bx)) vs
 |[],[],_=>by simp[Ke]
 |p::ps,v::vs,hr=>by simp only[Ke,yAn] at hr ⊢;exact ⟨h.fz2 Kq hr.1,h.fz2L Kq hr.2⟩
 |[],_::_,hr=>by grind
 |_::_,[],hr=>by grind[Ke]
theorem St.fz(Kq:Kx un)(h:St un E N D H e bx a w){p:PV S}{v:Value}(hr:Rep un (ids H) D w p v):Rep un (ids H) D w (fz bx p) v:=by
 cases p with
 |agg l=>grind[Pe.fz,Rep,fz1L]
 |_=>exact h.fz1 Kq hr
theorem zcQ(a:Option Addr){g:Option Nat}{size:Nat}{ob:Obj}:¬Wl.fixOk (.pointer a) g size ob:=by rintro (⟨_,_,_,h,_⟩|⟨_,_,_,_,_,_,h,_⟩|⟨h,_⟩|⟨_,_,_,_,_,_,h,_⟩)<;>cases h
theorem zdu{t:TypeId}{r:TyRow S}(Kp:RowOk P un t r){nu:Nu}{b p off:Nat}{vs:List Value}{cs:List (PV S)}{q:PV S}(hc:w.rangeAt b p vs)(hl:Ke un nu D w cs vs)
  (hq:(bif r.agg then (bif Nat.ble (off+r.n) cs.length then some (.agg ((cs.drop off).take r.n)) else none) else cs[off]?)=some q) :
  ∃v,(Instr.loadAt t (.pointer (some ⟨b,p+off,none⟩))).run P w= .ok v w/\Rep un nu D w q v:=by
 cases ha:r.agg with
 |true =>
   rw[ha] at hq;obtain ⟨h1,h2⟩:=zae hq;simp only[yAK] at h1;cases h2;obtain ⟨d,hd,hd2⟩:=Kp.agg ha;have Ku:cs.length=vs.length:=hl.length;have hl2:=(hl.drop off).take r.n;refine ⟨_,run_loadAt_mid (P:=P) w b (p+off) t ((vs.drop off).take r.n) d (λj v hj=>?_) hd (by grind[zpJ]) ?_,?_⟩
   ·rw[yAD] at hj;split at hj;·rw[yAu] at hj;rw[yBx];exact hc _ v hj
    ·cases hj
   ·grind[RowOk.size]
   simp_all[Rep]
 |false =>rw[ha] at hq;simp only[cond_false] at hq;obtain ⟨v,hv,Q2⟩:=hl.get off q hq;refine ⟨v,?_,Q2⟩;have:=(Kp.one ha).2 w;simp[Instr.loadAt,Instr.sureAddr,loadVar,this,hc off v hv]
theorem zmM(Kq:Kx un)(ht:Qc P un tb)(h:St un E N D H e bx a w){t:TypeId}{p q:PV S}{v:Value}(hl:load un tb t p bx=some q)(hr:Rep un (ids H) D w p v) :
  ∃u,(Instr.loadAt t v).run P w= .ok u w/\Rep un (ids H) D w q u:=by
 unfold load at hl;split at hl;·cases hl
 ·rename_i r Kp;have Kp:=ht.ty t r Kp;dsimp only at hl;split at hl
  ·rename_i b off;split at hl
   ·rename_i T cs hg;cases hgb:zam bx b with
    |none=>rw[hgb] at hg;cases hg|some x =>
      rw[hgb] at hg;simp only[yAg,yAf] at hg;obtain ⟨r',hr1,hr2⟩:=h.Kg.get hgb;obtain ⟨ro,hb⟩:=hr2.base;rw[hg] at hb;simp only[Rep,ids,yAh,hr1,yAg,yAf] at hr;obtain ⟨g,hr3,rfl⟩:=hr;have key:∀vs:List Value,w.heap[g]?=some (.cells vs.toArray T (0,0))->Ke un (ids H) D w cs vs->∃u,(Instr.loadAt t (.pointer (some ⟨g,off,none⟩))).run P w= .ok u w/\Rep un (ids H) D w q u:=by intro vs hh hl2;have:=zdu (P:=P) (b:=g) (p:=0) (off:=off) Kp (vs:=vs) (λj v hj=>by rw[cell_of_row w g _ _ _ _ hh];simpa using hj) hl2 hl;simpa using this
      cases r' with
      |box g' T' vs =>
        cases ro with
        |false =>simp only[Kc] at hb;simp[zal] at hr3;subst hr3;have hh:=(h.Kr.res _ (yAb hr1)).2;rw[hb.1] at hh;exact key vs hh hb.2
        |true=>simp[Kc] at hb
      |ref id =>
        cases ro with
        |true =>
          simp only[Kc] at hb;obtain ⟨vs,hse,hl2⟩:=hb;simp only[zal] at hr3;subst hr3;cases hse with
          |box g' T' vs h1 h2 hh=>exact key vs hh hl2|fix v g' size ob T' h1 h2=>exact absurd h1 (zcQ _)
        |false=>simp[Kc] at hb
      |own=>cases ro<;>simp[Kc] at hb|wr=>cases ro<;>simp[Kc] at hb|nst=>cases ro<;>simp[Kc] at hb|grp=>cases ro<;>simp[Kc] at hb|fix v g' size ob =>simp[zal] at hr3;subst hr3;exact absurd (h.Kr.res _ (yAb hr1)).1 (zcQ _)
   ·cases hl
  ·rename_i u x off;simp only[Rep] at hr;obtain ⟨b,p,cs,rfl,hd,hx⟩:=hr;have hor:=zbZ (nu:=ids H) Kq.flat hx;split at hl
   ·rename_i m y m' hcode;cases Q4:(Nat.beq m m'&&r.agg&&Nat.beq r.n (un.codes m).length) with
    |false=>rw[Q4] at hl;exact zdu (off:=0) Kp (ze9 hd) hor hl|true =>
      rw[Q4] at hl;cases hl;simp only[yAd] at Q4;obtain ⟨d,hd1,hd2⟩:=Kp.agg Q4.1.2;refine ⟨_,run_loadAt_mid (P:=P) w b p t cs d (ze9 hd) hd1 (by cases d<;>simp_all [zpJ]) ?_,?_⟩;·rw[Kp.size,yAa Q4.2,hx.length Kq.flat];simp[zcF,U.size]
      ·simp only[Rep];exact ⟨cs,rfl,hx⟩
   ·exact zdu Kp (ze9 hd) hor hl
  ·cases hl
end
end Pe
end
section
namespace Pe
open Go Go.RowKit
variable{S:Nat->Type}
section
variable{P:Program}{un:Uni S}{tb:Tb S}{orc:Orc S}{inl:Inl S}{E:Wl.Ctx}{N:Wl.Fr}{D:Dat}{H:List Wl.Res}{e:Env S}{bx:Bxs S}{a:Act}{w:World}{o:Oper}{R:Type}{K:PV S->Option R}{r:R}
theorem zlh{op:BinOp}{t:TypeId}{x y:Operand}{k k':IntKind}{a b:Int}(w:World):(eqGuard op t x y (.int k a) (.int k' b)).run P w= .ok () w:=by simp_all[eqGuard]
theorem zpd{op:BinOp}{t:TypeId}{x y:Operand}{a b:ByteArray}(w:World):(eqGuard op t x y (.string a) (.string b)).run P w= .ok () w:=by simp_all[eqGuard]
theorem zi5{op:BinOp}{t:TypeId}{x y:Operand}{a b:Bool}(w:World):(eqGuard op t x y (.bool a) (.bool b)).run P w= .ok () w:=by simp_all[eqGuard]
theorem zd1{u:U}{v:Option U}(h:zmm u v=true):v=some u:=by
 cases v with
 |none=>cases h|some v =>
   simp only[zmm] at h;cases hh:U.eq? u v with
   |none=>grind|some x=>rw[x.down]
theorem zdp{op:BinOp}{t t':TypeId}{x y:Operand}{p q:PV S}{res:PV S}(ho:o.op= .binOp op t x y t')(hx:ev e x=some p)(hy:ev e y=some q)
  (h:∀nu D w v u,Rep un nu D w p v->Rep un nu D w q u->∃z,(eqGuard op t x y v u).run P w= .ok () w/\(binOp op t v u).run P w= .ok z w/\Rep un nu D w res z):Gives P un o e bx res:=by
 intro E N D H a w hs;obtain ⟨z,h1,h2,h3⟩:=h _ _ _ _ _ (hs.ev hx) (hs.ev hy);simp_all[execOp]
theorem zjj{op:BinOp}{t t':TypeId}{x y:Operand}{k k':IntKind}{m n:Int}(ho:o.op= .binOp op t x y t')(hx:ev e x=some (.int k m))(hy:ev e y=some (.int k' n))
  (h:zr7 op k m n K=some r):∃p,K p=some r/\Gives P un o e bx p:=by
 have key:∀res:PV S,(∀nu D w,∃z,(binOp op t (.int k m) (.int k' n)).run P w= .ok z w/\Rep un nu D w res z)->Gives P un o e bx res:=λres hr =>
  zdp ho hx hy λnu D w v u hv hu=>by simp_all[Rep,zlh]
 unfold zr7 at h;split at h
 ·cases hb:decide (0<=n) with
  |false=>grind|true =>
    rw[hb] at h;have hn:¬n<0:=by simp_all
    exact ⟨_,h,key _ λnu D w=>⟨_,by simp only[binOp,Op.shift];rw[if_neg hn];rfl,by simp only[Rep];rfl⟩⟩
 ·cases hb:decide (0<=n) with
  |false=>grind|true =>
    rw[hb] at h;have hn:¬n<0:=by simp_all
    exact ⟨_,h,key _ λnu D w=>⟨_,by simp only[binOp,Op.shift];rw[if_neg hn];rfl,by simp only[Rep];rfl⟩⟩
 ·cases h
theorem zob{op:BinOp}{t t':TypeId}{x y:Operand}{k:IntKind}{m n:Int}(ho:o.op= .binOp op t x y t')(hx:ev e x=some (.int k m))(hy:ev e y=some (.int k n))
  (h:zta op k m n K=some r):∃p,K p=some r/\Gives P un o e bx p:=by
 have key:∀res:PV S,(∀nu D w,∃z,(binOp op t (.int k m) (.int k n)).run P w= .ok z w/\Rep un nu D w res z)->Gives P un o e bx res:=λres hr =>
  zdp ho hx hy λnu D w v u hv hu=>by simp_all[Rep,zlh]
 unfold zta at h;split at h;·exact ⟨_,h,key _ λnu D w=>⟨_,by simp[binOp,Op.intArith];rfl,by grind[Rep]⟩⟩
 ·exact ⟨_,h,key _ λnu D w=>⟨_,by simp[binOp,Op.intArith];rfl,by grind[Rep]⟩⟩
 ·exact ⟨_,h,key _ λnu D w=>⟨_,by simp[binOp,Op.intArith];rfl,by grind[Rep]⟩⟩
 ·exact ⟨_,h,key _ λnu D w=>⟨_,by simp[binOp,Op.intCmp];rfl,by grind[Rep]⟩⟩
 ·exact ⟨_,h,key _ λnu D w=>⟨_,by simp[binOp,Op.intCmp];rfl,by grind[Rep]⟩⟩
 ·exact ⟨_,h,key _ λnu D w=>⟨_,by simp[binOp,Op.intCmp];rfl,by grind[Rep]⟩⟩
 ·exact ⟨_,h,key _ λnu D w=>⟨_,by simp[binOp,Op.intCmp];rfl,by grind[Rep]⟩⟩
 ·exact ⟨_,h,key _ λnu D w=>⟨_,by simp[binOp,Op.intCmp];rfl,by grind[Rep]⟩⟩
 ·exact ⟨_,h,key _ λnu D w=>⟨_,by simp[binOp,Op.intCmp];rfl,by grind[Rep]⟩⟩
 ·split at h
  ·rename_i n';have hne:¬((Int.ofNat (n'+1))=0):=by simp;omega
   exact ⟨_,h,key _ λnu D w=>⟨_,by simp only[binOp,ne_eq,not_true_eq_false,if_false,Op.intDiv];rw[if_neg hne];rfl,by grind[Rep]⟩⟩
  ·cases h
 ·split at h
  ·rename_i n';have hne:¬((Int.ofNat (n'+1))=0):=by simp;omega
   exact ⟨_,h,key _ λnu D w=>⟨_,by simp only[binOp,ne_eq,not_true_eq_false,if_false,Op.intDiv];rw[if_neg hne];rfl,by grind[Rep]⟩⟩
  ·cases h
 ·exact ⟨_,h,key _ λnu D w=>⟨_,by simp only[binOp,ne_eq,not_true_eq_false,if_false,Op.intBits];rfl,by simp only[Rep];rfl⟩⟩
 ·exact ⟨_,h,key _ λnu D w=>⟨_,by simp only[binOp,ne_eq,not_true_eq_false,if_false,Op.intBits];rfl,by simp only[Rep];rfl⟩⟩
 ·exact ⟨_,h,key _ λnu D w=>⟨_,by simp only[binOp,ne_eq,not_true_eq_false,if_false,Op.intBits];rfl,by simp only[Rep];rfl⟩⟩
 ·exact ⟨_,h,key _ λnu D w=>⟨_,by simp only[binOp,ne_eq,not_true_eq_false,if_false,Op.intBits];rfl,by simp only[Rep];rfl⟩⟩
 ·exact zjj ho hx hy h
theorem ziF(l:By):(ByteArray.mk l.toArray).toList=l:=by simp_all
theorem zoa{op:BinOp}{t t':TypeId}{x y:Operand}{m n:By}(ho:o.op= .binOp op t x y t')(hx:ev e x=some (.str m))(hy:ev e y=some (.str n))
  (h:zsk op m n K=some r):∃p,K p=some r/\Gives P un o e bx p:=by
 have key:∀res:PV S,(∀nu D w,∃z,(binOp op t (.string ⟨m.toArray⟩) (.string ⟨n.toArray⟩)).run P w= .ok z w/\Rep un nu D w res z)->Gives P un o e bx res:=λres hr =>
  zdp ho hx hy λnu D w v u hv hu=>by simp_all[Rep,zpd]
 unfold zsk at h;split at h
 ·obtain ⟨c,h1,h2⟩:=zay h;obtain ⟨h3,rfl⟩:=zch h1;refine ⟨_,h2,key _ λnu D w=>⟨.string ⟨(m++n).toArray⟩,?_,by grind[Rep]⟩⟩;have h4:¬((m.length+n.length:Nat):Int)>9223372036854775807:=by grind[lim]
  have h5:(ByteArray.mk m.toArray++ByteArray.mk n.toArray)=ByteArray.mk (m++n).toArray:=by apply ByteArray.ext;simp
  have h6:IntKind.i64.max=9223372036854775807:=by rfl
  simp_all[binOp,Op.stringOp,ByteArray.size]
 ·exact ⟨_,h,key _ λnu D w=>⟨_,by simp[binOp,Op.stringOp];rfl,by grind[Rep]⟩⟩
 ·exact ⟨_,h,key _ λnu D w=>⟨.bool (m != n),by simp[binOp,Op.stringOp,bne],by grind[Rep]⟩⟩
 ·exact ⟨_,h,key _ λnu D w=>⟨_,by simp[binOp,Op.stringOp];rfl,by grind[Rep]⟩⟩
 ·exact ⟨_,h,key _ λnu D w=>⟨.bool (Op.bytesLess m n||m==n),by simp[binOp,Op.stringOp],by grind[Rep]⟩⟩
 ·exact ⟨_,h,key _ λnu D w=>⟨.bool (!(Op.bytesLess m n||m==n)),by simp[binOp,Op.stringOp],by grind[Rep]⟩⟩
 ·exact ⟨_,h,key _ λnu D w=>⟨.bool (!(Op.bytesLess m n)),by simp[binOp,Op.stringOp],by grind[Rep]⟩⟩
 ·cases h
theorem zkc{α:Type}{b:Bool}{x y:Option α}{r:α}(h:br b x y=some r):(b=true/\x=some r)\/(b=false/\y=some r):=by
 cases b with
 |true=>exact .inl ⟨rfl,h⟩|false=>exact .inr ⟨rfl,h⟩
theorem zhA{t:TypeId}{a b:Bool}(w:World)(h:P.underlying t=some .bool):(Op.equal t (.bool a) (.bool b)).run P w= .ok (a==b) w:=by rw[Op.equal,show Op.maxDepth=Nat.succ 9999 from rfl,Op.equalIn,Sem.run_bind,run_underlying h];rfl
theorem zB4{t e:TypeId}{v:Value}(w:World)(h:P.underlying t=some (.slice e))(b:Bool)(hv:(v= .slice none 0 0/\b=true)\/∃a n c,v= .slice (some a) n c/\b=false):(Op.equal t v (.slice none 0 0)).run P w= .ok b w:=by rw[Op.equal,show Op.maxDepth=Nat.succ 9999 from rfl,Op.equalIn,Sem.run_bind,run_underlying h];rcases hv with ⟨rfl,rfl⟩|⟨a,n,c,rfl,rfl⟩<;>rfl
theorem zB6{op:BinOp}{t:TypeId}{x y:Operand}{A:Option Addr}{n c:Nat}(w:World):(eqGuard op t x y (.slice A n c) (.slice none 0 0)).run P w= .ok () w:=by cases op<;>simp[eqGuard]<;>rfl
theorem zCQ{u:U}{y:El S u}{l:List (El S u)}{v:Value}(h:DR un D w [.sl u] (sg (u:= .sl u) (show El S (.sl u) from y::l)) [v]):∃a n c,v= .slice (some a) n c:=by
 cases h with
 |sl0 A c h0 h=>cases h0|sl b off c cs hc h1 h2 h=>exact ⟨_,_,_,rfl⟩
theorem zkv{n:Nat}{x:S n}{cs:List Value}(h:DR un D w [.st n] (sg (u:= .st n) x) cs):DR un D w (un.codes n) (un.get n x) cs:=by
 cases h with
 |st h1 h=>cases h;rw[yAR];exact h1
theorem zbJ{t T:TypeId}{u:U}{k:IntKind}{b off len c i:Nat}(hu:P.underlying t=some (.slice T))(hT:ElOk P un T u)(hi:i<len)(w:World) :
  (Instr.indexAt t (.slice (some ⟨b,off,none⟩) len c) (.int k (i:Int))).run P w= .ok (.pointer (some ⟨b,off+i*U.size un u,none⟩)) w:=by
 obtain ⟨j,z,h1,h2,h3,h4,h5,h6⟩:=hT.info;simp[Instr.indexAt,asIntOf,run_underlying hu,hi,Go.sizeOf,typeInfo,h1,h3,Addr.add_mid]
theorem zjz{t:TypeId}(hu:P.underlying t=some .string)(l:By){lo hi:Option Value}{i j:Nat}(h1:i<=j)(h2:j<=l.length)
  (hlo:(lo=none/\i=0)\/∃k,lo=some (.int k (i:Int))) (hhi:(hi=none/\j=l.length)\/∃k,hi=some (.int k (j:Int))) (w:World) :
  (Instr.sliceAt t (.string ⟨l.toArray⟩) lo hi none).run P w= .ok (.string ⟨((l.drop i).take (j - i)).toArray⟩) w:=by
 have hs:(ByteArray.mk l.toArray).size=l.length:=by simp[ByteArray.size]
 have hex:(ByteArray.mk l.toArray).extract i j=⟨((l.drop i).take (j - i)).toArray⟩:=by rw[ByteArray.extract_mk]
 rcases hlo with ⟨rfl,rfl⟩|⟨k,rfl⟩<;>rcases hhi with ⟨rfl,rfl⟩|⟨k',rfl⟩
 all_goals (simp[Instr.sliceAt,run_underlying hu,Instr.slice,Instr.sliceBounds,Instr.sliceBound,asIntOf,hs,h1,h2];first|exact hex|skip)
 all_goals (first|(rw[<-hex];simp[hs])|(rw[<-hex]))
theorem zdg{nu nu':Nu}{u:U}{x:El S u}{v:Value}(h:Rep un nu D w (inj u x) v):Rep un nu' D w (inj u x) v:=by cases u<;>simpa only[inj,Rep] using h
theorem zeq(Kq:Kx un)(hs:St un E N D H e bx a w):∀{us:List (Option U)}{ps t:List (PV S)}{vs:List Value},zg7 un bx us ps=some t->Ke un (ids H) D w ps vs->Ke un [] D w t vs
 |[],[],t,vs,hc,hr=>by grind[zg7,Ke]
 |some u::us,p::ps,t,v::vs,hc,hr=>by
   simp only[Ke] at hr;unfold zg7 at hc;split at hc;·rename_i x t' h1 h2;cases hc;simp only[Ke];exact ⟨zdg (zbT Kq h1 (hs.fz Kq hr.1)).2,zeq Kq hs h2 hr.2⟩
   ·cases hc
 |none::us,p::ps,t,v::vs,hc,hr=>by
   simp only[Ke] at hr;unfold zg7 at hc;split at hc;·rename_i t' h2;obtain ⟨h3,h4⟩:=zae hc;cases h4;simp only[Ke];refine ⟨?_,zeq Kq hs h2 hr.2⟩;have h5:=hr.1;cases p<;>simp[zs3] at h3;grind[Rep,Ke]
   ·cases hc
 |some _::_,_::_,_,[],_,hr=>by grind[Ke]
 |none::_,_::_,_,[],_,hr=>by grind[Ke]
 |[],_::_,_,_,hc,_=>by grind[zg7]
 |some _::_,[],_,_,hc,_=>by grind[zg7]
 |none::_,[],_,_,hc,_=>by grind[zg7]
def zp3(r:Wl.Res):Wl.Res:= .ref (zal r)
theorem zlf(H:List Wl.Res):ids (H.map zp3)=ids H:=by simp_all[zp3,zal]
theorem zqD(Kq:Kx un)(hs:St un E N D H e bx a w):∀{b:Box S}{r:Wl.Res},Wl.Res.holds E w r->∀{ro:Bool},Kc un (ids H) D w E ro b r->Kc un (ids H) D w ⟨w,[],[]⟩ true (b.base.tame bx) (.ref (zal r)):=by
 intro b;induction b with
 |var T cs =>
   intro r hh ro hb;cases r with
   |box g T' vs =>
     cases ro with
     |false =>simp only[Kc] at hb;obtain ⟨rfl,hl⟩:=hb;simp only[Box.base,Box.tame,Kc];exact ⟨vs,.box g _ vs (yAE.1 hh.2).1 (by simp) hh.2,hs.fz1L Kq hl⟩
     |true=>simp[Kc] at hb
   |fix v g size ob =>
     cases ro with
     |false =>simp only[Kc] at hb;simp only[Box.base,Box.tame,Kc];exact ⟨_,.fix v g size ob T hh.1 λg0 hg=>⟨(yAE.1 (hh.2 g0 hg).2).1,by simp,(hh.2 g0 hg).2⟩,hs.fz1L Kq hb⟩|true=>simp[Kc] at hb
   |ref id =>
     cases ro with
     |true =>
       simp only[Kc] at hb;obtain ⟨vs,h1,h5⟩:=hb;simp only[Box.base,Box.tame,Kc];refine ⟨vs,?_,hs.fz1L Kq h5⟩;cases h1 with
       |box g T' vs h1 h2 h4=>exact .box g _ vs (yAE.1 h4).1 (by simp) h4|fix v g size ob T' h1 h2=>exact .fix v g size ob _ h1 λg0 hg=>⟨(yAE.1 (h2 g0 hg).2.2).1,by simp,(h2 g0 hg).2.2⟩
     |false=>simp[Kc] at hb
   |own=>cases ro<;>simp[Kc] at hb|wr=>cases ro<;>simp[Kc] at hb|nst=>cases ro<;>simp[Kc] at hb|grp=>cases ro<;>simp[Kc] at hb
 |own u T l =>
   intro r hh ro hb;cases r with
   |own v T' size n xs =>
     cases ro with
     |false=>simp only[Box.base,Box.tame,Kc,zal];exact ⟨trivial,zgs Kq.flat hh hb⟩|true=>simp[Kc] at hb
   |ref id =>
     cases ro with
     |true=>simp only[Kc] at hb;simp only[Box.base,Box.tame,Kc,zal];exact hb|false=>simp[Kc] at hb
   |box=>cases ro<;>simp[Kc] at hb|wr=>cases ro<;>simp[Kc] at hb|nst=>cases ro<;>simp[Kc] at hb|grp=>cases ro<;>simp[Kc] at hb|fix=>cases ro<;>simp[Kc] at hb
 |wr u T l=>intro r _ ro _;simp[Box.base,Box.tame,Kc]
 |nst u T T2 l h=>intro r _ ro _;simp[Box.base,Box.tame,Kc]
 |grp u T2 l h=>intro r _ ro _;simp[Box.base,Box.tame,Kc]
 |lk b ih=>intro r hh ro hb;simp only[Kc] at hb;simpa only[Box.base] using ih hh hb
 |ro b ih=>intro r hh ro hb;simp only[Kc] at hb;simpa only[Box.base] using ih hh hb
 |gone=>intro r _ ro _;simp[Box.base,Box.tame,Kc]
theorem zk6(Kq:Kx un)(hs:St un E N D H e bx a w):∀{bs:Bxs S}{rs:List Wl.Res},(∀r∈rs,Wl.Res.holds E w r)->Kj un (ids H) D w E bs rs->Kj un (ids H) D w ⟨w,[],[]⟩ (zoY bx bs) (rs.map zp3)
 |[],[],_,_=>by simp[zoY,Kj]
 |b::bs,r::rs,hh,hb=>by simp only[Kj,zoY,yAn] at hb ⊢;refine ⟨?_,zk6 Kq hs (λr hr=>hh r (by simp[hr])) hb.2⟩;simp only[Kc];exact zqD Kq hs (hh r (by simp)) hb.1
 |[],_::_,_,hb=>by grind[Kj]
 |_::_,[],_,hb=>by grind[Kj]
theorem zcA(hs:St un E N D H e bx a w){c:Call}{f:FuncId}{l:List (PV S)}(h:zcS e c=some (f,l))(ho:o.op= .call c)
  (hf:∀args w,(callFunc f args).run P w= .ok (.enter f args) w):∃vs:List Value,(execOp a.eval o).run P w= .ok (.enter f vs.toArray) w/\Ke un (ids H) D w l vs:=by
 unfold zcS at h;split at h
 ·rename_i x hc;split at h
  ·rename_i f' first cap l' hx hl
   cases h;have h1:=hs.ev hx;have h2:=hs.evs hl;simp only[Rep] at h1;obtain ⟨fs,cs,h3,h4,h5⟩:=h1;refine ⟨fs++c.args.toList.map a.eval++cs,?_,(h4.append h2).append h5⟩;have hmap:c.args.map a.eval=(c.args.toList.map a.eval).toArray:=by grind
   grind[execOp,resolve,Deferred.ofValue,invoke]
  ·cases h
 ·cases h
theorem zpK{nu:Nu}{u:U}{l:List (El S u)}{v:Value}(h:Rep un nu D w (.sl u l) v){i:Nat}{x:El S u}(hi:l[i]?=some x) :
  ∃b off c cs,v= .slice (some ⟨b,off,none⟩) l.length c/\dat D w b (off+i*U.size un u) cs/\DR un D w [u] (sg x) cs:=by
 simp only[Rep] at h;cases h with
 |sl0 A c h0 h =>have h0':l=[]:=h0;grind
 |sl b off c cs hc h1 h2 h=>exact ⟨b,off,c,cs i,rfl,h1 i x hi,h2 i x hi⟩
theorem zsa{nu:Nu}{u:U}{l:List (El S u)}{v:Value}(h:Rep un nu D w (.sl u l) v):(∃A c,v= .slice A l.length c/\l.length<=c):=by
 simp only[Rep] at h;cases h with
 |sl0 A c h0 h =>have h0':l=[]:=h0;simp_all
 |sl b off c cs hc h1 h2 h=>exact ⟨_,c,rfl,hc⟩
theorem zkD{t T:TypeId}{u:U}(hu:P.underlying t=some (.slice T))(hT:ElOk P un T u){nu:Nu}{l:List (El S u)}{v:Value}(hv:Rep un nu D w (.sl u l) v){lo hi:Option Value}{i j:Nat}(h1:i<=j)(h2:j<=l.length)
  (hlo:(lo=none/\i=0)\/∃k,lo=some (.int k (i:Int))) (hhi:(hi=none/\j=l.length)\/∃k,hi=some (.int k (j:Int))) :
  ∃u',(Instr.sliceAt t v lo hi none).run P w= .ok u' w/\Rep un nu D w (.sl u ((l.drop i).take (j - i))) u':=by
 obtain ⟨jn,z,g1,g2,g3,g4,g5,g6⟩:=hT.info;have Kw:∀A n c,n<=c->n=l.length->(Instr.sliceAt t (.slice A n c) lo hi none).run P w= .ok (.slice (if c=i then A else A.map (·.add (i*U.size un u))) (j - i) (c - i)) w:=by
  intro A n c hc hn;subst hn;have h3:j<=c:=yAo h2 hc;rcases hlo with ⟨rfl,rfl⟩|⟨k,rfl⟩<;>rcases hhi with ⟨rfl,rfl⟩|⟨k',rfl⟩
  all_goals simp[Instr.sliceAt,run_underlying hu,Instr.slice,Instr.sliceBounds,Instr.sliceBound,asIntOf,Go.sizeOf,typeInfo,g1,g3,h1,h3]
 simp only[Rep] at hv ⊢;have empty:∀A c,i=j->DR un D w [.sl u] (sg (u:= .sl u) ((l.drop i).take (j - i))) [.slice A (j - i) c]:=by
  intro A c hij;subst hij;have h0:(l.drop i).take (i - i)=[]:=by simp
  rw[h0,show (i - i)=0 by omega];exact .sl0 _ _ rfl .nil
 cases hv with
 |sl0 A c h0 h =>have h0':l=[]:=h0;have hl:l.length=0:=(by rw[h0'];rfl);exact ⟨_,Kw A 0 c (yAA _) hl.symm,empty _ _ (by omega)⟩
 |sl b off c cs hc k1 k2 k3 =>
   have hc':l.length<=c:=hc;refine ⟨_,Kw _ _ c hc rfl,?_⟩;by_cases hij:i=j;·grind
   ·have Ku:((l.drop i).take (j - i)).length=j - i:=(by simp;omega);have hci:¬(c=i):=(by omega);rw[if_neg hci];simp only[yAg,Addr.add_mid]
    have:= @DR.sl S un D w u [] (sg (u:= .sl u) ((l.drop i).take (j - i))) [] b (off+i*U.size un u) (c - i) (λm=>cs (i+m)) (by show ((l.drop i).take (j - i)).length<=_;omega)
     (λm x hm=>by
      have hm':l[i+m]?=some x:=by
       have hm2:((l.drop i).take (j - i))[m]?=some x:=hm;simp_all[yAD]
      have:=k1 (i+m) x hm';simp_all[yAz,yBx])
     (λm x hm=>by
      have hm':l[i+m]?=some x:=by
       have hm2:((l.drop i).take (j - i))[m]?=some x:=hm;simp_all[yAD]
      exact k2 (i+m) x hm') .nil
    have hl2:(eL (hd (sg (u:= .sl u) ((l.drop i).take (j - i))))).length=j - i:=Ku;grind
end
end Pe
end
section
namespace Pe
open Go Go.RowKit
variable{S:Nat->Type}
section
variable{P:Program}{un:Uni S}{tb:Tb S}{orc:Orc S}{inl:Inl S}{E:Wl.Ctx}{N:Wl.Fr}{D:Dat}{H:List Wl.Res}{e:Env S}{bx:Bxs S}{a:Act}{w:World}{o:Oper}{R:Type}{K:PV S->Option R}{r:R}
theorem Ke.splice{nu:Nu}:∀{ps:List (PV S)}{us:List Value}{cs:List (PV S)}{vs:List Value}(off:Nat),Ke un nu D w cs vs->Ke un nu D w ps us->Ke un nu D w (splice cs off ps) (zaV.spliceV vs off us)
 |[],[],_,_,_,h,_=>h|p::ps,u::us,cs,vs,off,h,k=>by simp only[Ke] at k;simp only[Pe.splice,zaV.spliceV];exact Ke.splice (off+1) (h.set off p u k.1) k.2
 |[],_::_,_,_,_,_,k=>by grind[Ke]
 |_::_,[],_,_,_,_,k=>by grind[Ke]
theorem zfu:∀(ps cs:List (PV S))(off:Nat),(splice cs off ps).length=cs.length|[],_,_=>rfl|p::ps,cs,off=>by simp[splice,zfu ps]
def PartsRep(un:Uni S)(nu:Nu)(D:Dat)(w:World):List (Nat×PV S)->List (Nat×Value)->Prop|[],[]=>True|(i,p)::ps,(j,v)::vs=>i=j/\Rep un nu D w p v/\PartsRep un nu D w ps vs|_,_=>False
theorem St.parts(hs:St un E N D H e bx a w):∀{xs:List (Nat×Operand)}{l:List (Nat×PV S)},zck e xs=some l->PartsRep un (ids H) D w l (xs.map λp=>(p.1,a.eval p.2))
 |[],l,h=>by grind[zck,PartsRep]
 |(i,x)::r,l,h=>by
   unfold zck at h;split at h;·rename_i v l' h1 h2;cases h;simp only[yAn,PartsRep];exact ⟨by grind,hs.ev h1,hs.parts h2⟩
   ·cases h
theorem zlq(hf:zns un){nu:Nu}{fields:List (Nat×Nat)}:∀{l:List (Nat×PV S)}{pv:List (Nat×Value)}{cs cs':List (PV S)}{vs:List Value},zph fields un cs l=some cs'->Ke un nu D w cs vs->PartsRep un nu D w l pv ->
  ∃vs',zaV (λi=>fields[i]?) vs pv=some vs'/\Ke un nu D w cs' vs'
 |[],[],cs,cs',vs,h,hc,_=>by simp[zph] at h;subst h;exact ⟨vs,rfl,hc⟩
 |(i,p)::l,(j,v)::pv,cs,cs',vs,h,hc,hp=>by
   simp only[PartsRep] at hp;obtain ⟨rfl,h1,h2⟩:=hp;unfold zph at h;split at h
   ·rename_i off n hfi;obtain ⟨h3,h4⟩:=zae h;simp only[yAd,yAK] at h3;obtain ⟨h5,h6⟩:=zf2 hf h3.1.1 h1;have h7:v.cells.size=n:=by rw[<-yAa h3.1.2,h5.length];simp
    have h8:=hc.length;obtain ⟨vs',h9,h10⟩:=zlq hf h4 (hc.splice off h5) h2;refine ⟨vs',?_,h10⟩;unfold zaV;simp only[hfi];have hb:(Nat.beq v.cells.size n&&Nat.ble (off+n) vs.length)=true:=(by simp_all);grind
   ·cases h
 |[],_::_,_,_,_,_,_,hp=>by grind[PartsRep]
 |_::_,[],_,_,_,_,_,hp=>by grind[PartsRep]
theorem zex{nu:Nu}:∀(vs:List Value),Ke un nu D w (vs.map zaC) vs
 |[]=>by simp[Ke]
 |v::vs=>by simp only[yAn,Ke];exact ⟨zhF v,zex vs⟩
theorem zgt(hs:St un E N D H e bx a w){x:Option Operand}{d:Int}{k:IntKind}{i:Int}(h:(match x with|some y=>ev e y|none=>some (PV.int .i64 d))=some (.int k i))(hd:i=d\/x≠none):(x.map a.eval=none/\i=d)\/∃k,x.map a.eval=some (.int k i):=by
 cases x with
 |none=>simp_all|some y =>have h1:=hs.ev h;grind[Rep]
theorem zlU(Kq:Kx un)(ht:Qc P un tb)(hor:K4 P un orc)(Kt:Qe P un inl)(h:zeN un tb orc inl o e bx K=some r):∃p,K p=some r/\Gives P un o e bx p:=by
 unfold zeN at h;split at h
 ·-- move
  rename_i x ho;split at h;·rename_i p hx;exact ⟨p,h,λE N D H a w hs=>.inl ⟨_,by simp[execOp,ho],hs.ev hx⟩⟩
  ·cases h
 ·-- assign
  rename_i x ho;split at h;·rename_i p hx;exact ⟨p,h,λE N D H a w hs=>.inl ⟨_,by simp[execOp,ho],hs.ev hx⟩⟩
  ·cases h
 ·-- pick
  rename_i c x y ho;split at h
  ·rename_i b p q hc hx hy;rcases zkc h with ⟨rfl,h⟩|⟨rfl,h⟩
   ·refine ⟨p,h,λE N D H a w hs=>.inl ⟨a.eval x,?_,hs.ev hx⟩⟩;have:=hs.ev hc;simp only[Rep] at this;simp[execOp,ho,this,asBool]
   ·refine ⟨q,h,λE N D H a w hs=>.inl ⟨a.eval y,?_,hs.ev hy⟩⟩;have:=hs.ev hc;simp only[Rep] at this;simp[execOp,ho,this,asBool]
  ·cases h
 ·-- binOp
  rename_i op t x y t' ho;split at h
  ·rename_i k m k' n hx hy;split at h;·rename_i hk heq;have:=hk.down;subst this;exact zob ho hx hy h
   ·exact zjj ho hx hy h
  ·rename_i m n hx hy;exact zoa ho hx hy h
  ·rename_i m n hx hy;split at h
   ·rename_i row Kp;obtain ⟨h1,h2⟩:=zae h;have hk:row.kd=5:=yAa h1;have hu:=(ht.ty t row Kp).bool hk;split at h2;·refine ⟨_,h2,zdp ho hx hy λnu D w v u hv hu'=>?_⟩;simp only[Rep] at hv hu';subst hv;subst hu';exact ⟨.bool (m==n),zi5 w,by simp[binOp,zhA w hu],by simp only[Rep]⟩
    ·refine ⟨_,h2,zdp ho hx hy λnu D w v u hv hu'=>?_⟩;simp only[Rep] at hv hu';subst hv;subst hu';exact ⟨.bool (m != n),zi5 w,by simp[binOp,zhA w hu,bne],by simp only[Rep]⟩
    ·cases h2
   ·cases h
  ·rename_i u z zs hx hy;split at h
   ·rename_i row Kp;obtain ⟨h1,h2⟩:=zae h;obtain ⟨T0,u0,e1,hu,e3⟩:=(ht.ty t row Kp).slice (yAa h1);split at h2;·refine ⟨_,h2,zdp ho hx hy λnu D w v u' hv hu'=>?_⟩;simp only[Rep] at hv hu';subst hu';obtain ⟨a0,n0,c0,rfl⟩:=zCQ hv;exact ⟨.bool false,zB6 w,by simp[binOp,zB4 w hu false (.inr ⟨_,_,_,rfl,rfl⟩)],by simp only[Rep]⟩
    ·refine ⟨_,h2,zdp ho hx hy λnu D w v u' hv hu'=>?_⟩;simp only[Rep] at hv hu';subst hu';obtain ⟨a0,n0,c0,rfl⟩:=zCQ hv;exact ⟨.bool true,zB6 w,by simp[binOp,zB4 w hu false (.inr ⟨_,_,_,rfl,rfl⟩)],by simp only[Rep]⟩
    ·cases h2
   ·cases h
  ·rename_i hx hy;split at h
   ·rename_i row Kp;obtain ⟨h1,h2⟩:=zae h;obtain ⟨T0,u0,e1,hu,e3⟩:=(ht.ty t row Kp).slice (yAa h1);split at h2;·refine ⟨_,h2,zdp ho hx hy λnu D w v u' hv hu'=>?_⟩;simp only[Rep] at hv hu';subst hu';subst hv;exact ⟨.bool true,zB6 w,by simp[binOp,zB4 w hu true (.inl ⟨rfl,rfl⟩)],by simp only[Rep]⟩
    ·refine ⟨_,h2,zdp ho hx hy λnu D w v u' hv hu'=>?_⟩;simp only[Rep] at hv hu';subst hu';subst hv;exact ⟨.bool false,zB6 w,by simp[binOp,zB4 w hu true (.inl ⟨rfl,rfl⟩)],by simp only[Rep]⟩
    ·cases h2
   ·cases h
  ·rename_i p q _ _ _ _ _ hx hy;split at h
   ·rename_i n hcode;cases Kp:tb.ty.get t with
    |none=>rw[Kp] at hcode;cases hcode|some row =>
      rw[Kp] at hcode;simp only[yAB] at hcode;split at h
      ·rename_i A B hA hB;obtain ⟨h1,h2⟩:=zae h;rw[Kp] at h1;have key:∀(op':BinOp)(b:Bool),op=op'->(op'= .eql/\b=eqC (un.codes n) (un.get n A) (un.get n B)\/op'= .neq/\b= !eqC (un.codes n) (un.get n A) (un.get n B))->Gives P un o e bx (.bool b):=by
        rintro op' b rfl hb
        refine zdp ho hx hy λnu D w v u hv hu=>?_;obtain ⟨_,g1⟩:=zbT Kq hA hv;obtain ⟨_,g2⟩:=zbT Kq hB hu;simp only[inj,Rep] at g1 g2;obtain ⟨c1,rfl,g1⟩:=g1;obtain ⟨c2,rfl,g2⟩:=g2;obtain ⟨g3,g4⟩:=(ht.ty t row Kp).eq n hcode h1 D w _ _ c1 c2 op x y (zkv g1) (zkv g2) b hb;exact ⟨_,g3,g4,by simp only[Rep]⟩
       split at h2;·exact ⟨_,h2,key .eql _ rfl (.inl ⟨rfl,rfl⟩)⟩
       ·exact ⟨_,h2,key .neq _ rfl (.inr ⟨rfl,rfl⟩)⟩
       ·cases h2
      ·cases h
   ·cases h
  ·cases h
 ·-- not
  rename_i t x ho;split at h;·rename_i b hx;refine ⟨_,h,λE N D H a w hs=>.inl ⟨.bool !b,?_,by simp only[Rep]⟩⟩;have:=hs.ev hx;simp only[Rep] at this;simp[execOp,ho,this,Op.unary]
  ·cases h
 ·-- fieldAddr
  rename_i s x f ho;split at h
  ·rename_i p row hx Kp;obtain ⟨h1,h2⟩:=zae h;have hk:row.kd=3:=yAa h1;split at h2;·rename_i b off d sz hf;refine ⟨_,h2,λE N D H a w hs=>?_⟩;have:=hs.ev hx;simp only[Rep] at this;obtain ⟨g,g1,g2⟩:=this;have Kw:=(ht.ty s row Kp).field hk f d sz hf ⟨g,off,none⟩ w;exact .inl ⟨_,by simp[execOp,ho,g2,Kw,Addr.add_mid];rfl,by simp only[Rep];exact ⟨g,g1,rfl⟩⟩
   ·rename_i u y off d sz hf;refine ⟨_,h2,λE N D H a w hs=>?_⟩;have:=hs.ev hx;simp only[Rep] at this;obtain ⟨b,p,cs,g2,g3,g4⟩:=this;have Kw:=(ht.ty s row Kp).field hk f d sz hf ⟨b,p+off,none⟩ w;exact .inl ⟨_,by simp[execOp,ho,g2,Kw,Addr.add_mid];rfl,by simp only[Rep];exact ⟨b,p,cs,by rw[yBx],g3,g4⟩⟩
   ·cases h2
  ·cases h
 ·-- indexAddr
  rename_i t x i ho;split at h
  ·rename_i p k n row hx hi Kp;cases hk2:Nat.beq row.kd 2 with
   |true =>
     rw[hk2] at h;simp only[cond_true] at h;have hk:row.kd=2:=yAa hk2;split at h
     ·rename_i u l hfz;obtain ⟨h1,h2⟩:=zae h;obtain ⟨y,h3,h4⟩:=zay h2;obtain ⟨j,rfl,h5⟩:=znm h3;refine ⟨_,h4,λE N D H a w hs=>?_⟩;have hv:=hs.fz1 Kq (hs.ev hx);rw[hfz] at hv;obtain ⟨b,off,c,cs,g1,g2,g3⟩:=zpK hv h5;have hiv:=hs.ev hi;simp only[Rep] at hiv;obtain ⟨T,u',e1,e2,e3⟩:=(ht.ty t row Kp).slice hk;have hu:=zd1 h1;rw[e1] at hu;simp at hu;subst hu;have hjl:j<l.length:=(yAc.1 h5).1;refine .inl ⟨.pointer (some ⟨b,off+j*U.size un u',none⟩),?_,?_⟩;·simp only[execOp,ho,g1,hiv];simp[zbJ (un:=un) (k:=k) e2 e3 hjl w]
      ·simp only[Rep];exact ⟨b,_,cs,rfl,g2,g3⟩
     ·cases h
   |false =>
     rw[hk2] at h;simp only[cond_false] at h;obtain ⟨h1,h2⟩:=zae h;have hk:row.kd=4:=yAa h1;split at h2
     ·rename_i j;split at h2;·rename_i b off d sz hf;refine ⟨_,h2,λE N D H a w hs=>?_⟩;have:=hs.ev hx;simp only[Rep] at this;obtain ⟨g,g1,g2⟩:=this;have hiv:=hs.ev hi;simp only[Rep] at hiv;have Kw:=(ht.ty t row Kp).array hk j d sz hf ⟨g,off,none⟩ k w;refine .inl ⟨_,?_,by simp only[Rep];exact ⟨g,g1,rfl⟩⟩;rw[Addr.add_mid] at Kw;simp only[execOp,ho,g2,hiv];show (do pure (Next.value (<-Instr.indexAt t (.pointer (some ⟨g,off,none⟩)) (.int k (j:Int))))).run P w=_;rw[Sem.run_bind,Kw];rfl
      ·rename_i u y off d sz hf;refine ⟨_,h2,λE N D H a w hs=>?_⟩;have:=hs.ev hx;simp only[Rep] at this;obtain ⟨b,p,cs,g2,g3,g4⟩:=this;have hiv:=hs.ev hi;simp only[Rep] at hiv;have Kw:=(ht.ty t row Kp).array hk j d sz hf ⟨b,p+off,none⟩ k w;refine .inl ⟨_,?_,by simp only[Rep];exact ⟨b,p,cs,rfl,g3,g4⟩⟩;rw[Addr.add_mid] at Kw;simp only[execOp,ho,g2,hiv];show (do pure (Next.value (<-Instr.indexAt t (.pointer (some ⟨b,p+off,none⟩)) (.int k (j:Int))))).run P w=_;rw[Sem.run_bind,Kw,yBx];rfl
      ·cases h2
     ·cases h2
  ·cases h
 ·-- index
  rename_i t x i ho;split at h
  ·rename_i l k n row hx hi Kp;obtain ⟨h1,h2⟩:=zae h;have hk:row.kd=1:=yAa h1;obtain ⟨c,h3,h4⟩:=zay h2;obtain ⟨j,rfl,h5⟩:=znm h3;refine ⟨_,h4,λE N D H a w hs=>.inl ⟨.int .u8 (c.toNat:Int),?_,by simp only[Rep]⟩⟩;have hv:=hs.ev hx;simp only[Rep] at hv;have hiv:=hs.ev hi;simp only[Rep] at hiv;have hu:=(ht.ty t row Kp).str hk;have hkl:j<l.length:=(yAc.1 h5).1;have hg:(ByteArray.mk l.toArray)[j]?=some c:=by
    rw[ByteArray.getElem?_lt' _ _ (by simpa[ByteArray.size] using hkl)];rw[<-(yAc.1 h5).2];rfl
   simp[execOp,ho,hv,hiv,Instr.index,asIntOf,run_underlying hu,hg]
  ·cases h
 ·-- load
  rename_i t x ho;split at h
  ·rename_i p hx;split at h;·rename_i q hq;refine ⟨q,h,λE N D H a w hs=>?_⟩;obtain ⟨u,h1,h2⟩:=zmM (P:=P) Kq ht hs hq (hs.ev hx);exact .inl ⟨u,by simp[execOp,ho,h1],h2⟩
   ·cases h
  ·cases h
 ·-- nilCheck
  rename_i x ho;split at h;·rename_i b off hx;refine ⟨_,h,λE N D H a w hs=>?_⟩;have hv:=hs.ev hx;have hv':=hv;simp only[Rep] at hv';obtain ⟨g,g1,g2⟩:=hv';exact .inl ⟨.pointer (some ⟨g,off,none⟩),by simp[execOp,ho,g2],g2▸hv⟩
  ·rename_i u y off hx;refine ⟨_,h,λE N D H a w hs=>?_⟩;have hv:=hs.ev hx;have hv':=hv;simp only[Rep] at hv';obtain ⟨b,p,cs,g2,_⟩:=hv';exact .inl ⟨.pointer (some ⟨b,p+off,none⟩),by simp[execOp,ho,g2],g2▸hv⟩
  ·cases h
 ·-- extract
  rename_i x i ho;split at h
  ·rename_i l hx;split at h;·rename_i p hi;refine ⟨_,h,λE N D H a w hs=>?_⟩;have hv:=hs.ev hx;simp only[Rep] at hv;obtain ⟨cs,g1,g2⟩:=hv;obtain ⟨v,g3,g4⟩:=g2.get i p hi;exact .inl ⟨v,by simp[execOp,ho,g1,Instr.extract,g3],g4⟩
   ·cases h
  ·cases h
 ·-- slice
  rename_i t x lo hi ho;split at h
  ·rename_i p row hx Kp;split at h
   ·rename_i l hfz;obtain ⟨h1,h2⟩:=zae h;have hk:row.kd=1:=yAa h1;split at h2
    ·rename_i k i k' j hlo hhi;obtain ⟨s,h3,h4⟩:=zay h2;obtain ⟨i',j',rfl,rfl,h5,h6,rfl⟩:=zgr h3;refine ⟨_,h4,λE N D H a w hs=>.inl ⟨.string ⟨((l.drop i').take (j' - i')).toArray⟩,?_,by simp only[Rep]⟩⟩;have hv:=hs.fz1 Kq (hs.ev hx);rw[hfz] at hv;simp only[Rep] at hv;have hu:=(ht.ty t row Kp).str hk;have e1:(lo.map a.eval=none/\i'=0)\/∃k,lo.map a.eval=some (.int k (i':Int)):=by
      rcases zgt hs (x:=lo) (d:=0) hlo (by cases lo<;>simp at hlo ⊢;omega) with g|g;·exact .inl ⟨g.1,by have:=g.2;omega⟩
      ·exact .inr g
     have e2:(hi.map a.eval=none/\j'=l.length)\/∃k,hi.map a.eval=some (.int k (j':Int)):=by
      rcases zgt hs (x:=hi) (d:=len l) hhi (by cases hi<;>simp at hhi ⊢;exact hhi.2.symm) with g|g;·exact .inl ⟨g.1,by have:=g.2;unfold len at this;omega⟩
      ·exact .inr g
     have Kw:=zjz (P:=P) hu l h5 h6 e1 e2 w;simp[execOp,ho,hv,Kw]
    ·cases h2
   ·rename_i u l hfz;obtain ⟨h1,h2⟩:=zae h;simp only[yAd] at h1;have hk:row.kd=2:=yAa h1.1;split at h2
    ·rename_i k i k' j hlo hhi;obtain ⟨s,h3,h4⟩:=zay h2;obtain ⟨i',j',rfl,rfl,h5,h6,rfl⟩:=zgr h3;refine ⟨_,h4,λE N D H a w hs=>?_⟩;have hv:=hs.fz1 Kq (hs.ev hx);rw[hfz] at hv;obtain ⟨T,u',g1,g2,g3⟩:=(ht.ty t row Kp).slice hk;have hu:=zd1 h1.2;rw[g1] at hu;simp at hu;subst hu;have e1:(lo.map a.eval=none/\i'=0)\/∃k,lo.map a.eval=some (.int k (i':Int)):=by
      rcases zgt hs (x:=lo) (d:=0) hlo (by cases lo<;>simp at hlo ⊢;omega) with g|g;·exact .inl ⟨g.1,by have:=g.2;omega⟩
      ·exact .inr g
     have e2:(hi.map a.eval=none/\j'=l.length)\/∃k,hi.map a.eval=some (.int k (j':Int)):=by
      rcases zgt hs (x:=hi) (d:=len l) hhi (by cases hi<;>simp at hhi ⊢;exact hhi.2.symm) with g|g;·exact .inl ⟨g.1,by have:=g.2;unfold len at this;omega⟩
      ·exact .inr g
     obtain ⟨u',g4,g5⟩:=zkD (P:=P) g2 g3 hv h5 h6 e1 e2;exact .inl ⟨u',by simp[execOp,ho,g4],g5⟩
    ·cases h2
   ·cases h
  ·cases h
 ·-- build
  rename_i t parts ho;split at h
  ·rename_i l row hp Kp;obtain ⟨h1,h2⟩:=zae h;have hk:row.kd=3\/row.kd=4:=(yBF _ _▸h1).imp yAa yAa;split at h2
   ·rename_i cs hcs;refine ⟨_,h2,λE N D H a w hs=>?_⟩;have hrw:=ht.ty t row Kp;obtain ⟨z,g1,g2,g3⟩:=hrw.zero;rw[g3] at hcs;obtain ⟨vs',g4,g5⟩:=zlq (nu:=ids H) (D:=D) (w:=w) Kq.flat hcs (zex _) (hs.parts hp);have Kw:=hrw.build hk z g1 _ vs' w g4;refine .inl ⟨.agg vs'.toArray,?_,by simp only[Rep];exact ⟨vs',rfl,g5⟩⟩;have hmap:(parts.map λ(p:Nat×Operand)=>(p.1,a.eval p.2))=(parts.toList.map λp=>(p.1,a.eval p.2)).toArray:=by cases parts;simp
    have h2:(parts.map λ(x:Nat×Operand)=>match x with|(i,x)=>(i,a.eval x))=(parts.toList.map λp=>(p.1,a.eval p.2)).toArray:=(by rw[<-hmap]);simp[execOp,ho,h2,Kw]
   ·cases h2
  ·cases h
 ·-- makeInterface
  rename_i t x ho;split at h
  ·rename_i l row hx Kp;obtain ⟨h1,h2⟩:=zae h;refine ⟨_,h2,λE N D H a w hs=>.inl ⟨.iface t (a.eval x),?_,?_⟩⟩;·obtain ⟨d,hd,hd2⟩:=(ht.ty t row Kp).agg h1;cases d<;>first|(simp[zpJ] at hd2;done)|simp[execOp,ho,Instr.makeInterface,run_underlying hd]
   ·have:=hs.ev hx;simp only[Rep] at this ⊢;exact ⟨_,rfl,this⟩
  ·cases h
 ·-- makeFunc
  rename_i fn first cap ho
  split at h
  ·rename_i l r' h1 h2;refine ⟨_,h,λE N D H a w hs=>?_⟩;have g1:=hs.evs h1;have g2:=hs.evs h2;refine .inl ⟨.func fn (first.toList.map a.eval).toArray (cap.toList.map a.eval).toArray,?_,by simp only[Rep];exact ⟨_,_,rfl,g1,g2⟩⟩;have e1:first.map a.eval=(first.toList.map a.eval).toArray:=by cases first;simp
   have e2:cap.map a.eval=(cap.toList.map a.eval).toArray:=(by cases cap;simp);simp only[execOp,ho,e1,e2];rfl
  ·cases h
 ·-- call
  rename_i c ho;split at h
  ·-- len
   rename_i hc;split at h
   ·rename_i p row Qb Kp;have hbuilt:∀{E N D H a w}(hs:St un E N D H e bx a w),∃v t,c.args.map a.eval= #[v]/\c.argTypes[0]?=some t/\tb.ty.get t=some row/\Rep un (ids H) D w (fz1 bx p) v:=by
     intro E N D H a w hs;have g1:=hs.evs Qb;cases hl:c.args.toList.map a.eval with
     |nil=>rw[hl] at g1;simp[Ke] at g1|cons v vs =>
       rw[hl] at g1;simp only[Ke] at g1;cases vs with
       |cons _ _=>simp[Ke] at g1|nil =>
         cases ht2:c.argTypes[0]? with
         |none=>rw[ht2] at Kp;cases Kp|some t =>rw[ht2] at Kp;exact ⟨v,t,by cases hca:c.args;rw[hca] at hl;simpa using congrArg List.toArray hl,rfl,Kp,hs.fz1 Kq g1.1⟩
    split at h
    ·rename_i l hfz;obtain ⟨h1,h2⟩:=zae h;refine ⟨_,h2,λE N D H a w hs=>?_⟩;obtain ⟨v,t,g1,g2,g3,g4⟩:=hbuilt hs;rw[hfz] at g4;simp only[Rep] at g4;subst g4;have hu:=(ht.ty t row g3).str (yAa h1);refine .inl ⟨.int .i64 (l.length:Int),?_,by simp only[Rep];rfl⟩;have hsz:(ByteArray.mk l.toArray).size=l.length:=by simp[ByteArray.size]
     simp[execOp,ho,hc,resolve,invoke,builtin,g1,g2,Builtin.len_,hsz,goInt,run_underlying hu]
    ·rename_i u l hfz;obtain ⟨h1,h2⟩:=zae h;refine ⟨_,h2,λE N D H a w hs=>?_⟩;obtain ⟨v,t,g1,g2,g3,g4⟩:=hbuilt hs;rw[hfz] at g4;obtain ⟨A,cc,rfl,_⟩:=zsa g4;obtain ⟨T,u',_,hu,_⟩:=(ht.ty t row g3).slice (yAa h1);refine .inl ⟨.int .i64 (l.length:Int),?_,by simp only[Rep];rfl⟩;simp[execOp,ho,hc,resolve,invoke,builtin,g1,g2,Builtin.len_,goInt,run_underlying hu]
    ·rename_i hfz;obtain ⟨h1,h2⟩:=zae h;refine ⟨_,h2,λE N D H a w hs=>?_⟩;obtain ⟨v,t,g1,g2,g3,g4⟩:=hbuilt hs;rw[hfz] at g4;simp only[Rep] at g4;subst g4;obtain ⟨T,u',_,hu,_⟩:=(ht.ty t row g3).slice (yAa h1);refine .inl ⟨.int .i64 0,?_,by simp only[Rep]⟩;simp[execOp,ho,hc,resolve,invoke,builtin,g1,g2,Builtin.len_,goInt,run_underlying hu]
    ·cases h
   ·cases h
  ·-- min
   rename_i hc;split at h;·rename_i m n Qb;refine ⟨_,h,λE N D H a w hs=>?_⟩;have g1:=hs.evs Qb;obtain ⟨args,hca⟩:∃args:List Operand,c.args=⟨args⟩:=⟨c.args.toList,by cases c.args;rfl⟩;rw[hca] at g1;rcases args with _|⟨x,_|⟨y,_|⟨z,zs⟩⟩⟩<;>simp[Ke,Rep] at g1;refine .inl ⟨.int .i64 (min m n),?_,by simp only[Rep]⟩;simp[execOp,ho,hc,resolve,invoke,builtin,hca,g1.1,g1.2,Builtin.min_,Builtin.min2];split<;>omega
   ·cases h
  ·-- max
   rename_i hc;split at h;·rename_i m n Qb;refine ⟨_,h,λE N D H a w hs=>?_⟩;have g1:=hs.evs Qb;obtain ⟨args,hca⟩:∃args:List Operand,c.args=⟨args⟩:=⟨c.args.toList,by cases c.args;rfl⟩;rw[hca] at g1;rcases args with _|⟨x,_|⟨y,_|⟨z,zs⟩⟩⟩<;>simp[Ke,Rep] at g1;refine .inl ⟨.int .i64 (max m n),?_,by simp only[Rep]⟩;simp[execOp,ho,hc,resolve,invoke,builtin,hca,g1.1,g1.2,Builtin.max_,Builtin.max2];split<;>omega
   ·cases h
  ·split at h
   ·rename_i f l hen;split at h
    ·rename_i us rs hsig;split at h;·rename_i t hcast;obtain ⟨y,h1,h2⟩:=zay h;refine ⟨_,h2,λE N D H a w hs=>.inr ?_⟩;obtain ⟨vs,g1,g2⟩:=zcA hs hen ho (ht.data f us rs hsig);exact ⟨f,vs.toArray,g1,hor.d f t rs y h1 D w vs hs.tab hs.Kr.lt (zeq Kq hs hcast g2)⟩
     ·cases h
    ·rename_i fn an rs hsig;obtain ⟨y,h1,h2⟩:=zay h;refine ⟨_,h2,λE N D H a w hs=>.inr ?_⟩;obtain ⟨hfn,hen2⟩:=ht.inl f fn an rs hsig;obtain ⟨vs,g1,g2⟩:=zcA hs hen ho hen2;refine ⟨f,vs.toArray,g1,Kt.d fn an (l.map (fz2 bx)) (zoZ bx) rs y f h1 hfn D (H.map zp3) w vs hs.tab hs.Kr.lt (λr hr=>by obtain ⟨x,_,rfl⟩:=yBw.1 hr;exact ⟨_,rfl⟩) ?_ ?_⟩;·rw[zlf];exact zk6 Kq hs hs.Kr.res hs.Kg
     ·rw[zlf];exact hs.fz2L Kq g2
    ·cases h
   ·cases h
 ·cases h
end
end Pe
end
