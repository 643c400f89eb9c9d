/- PROVED HERE: a part of the seat's proofs; see the text that holds the claim's theorem. -/
import Derived.Test.YtojfjgjdheiffaaGreatDoorNm
import Derived.Shelf.SlicesE.Clone
import Derived.Shelf.SlLaysE0
import Derived.Shelf.SlicesE.Delete
import Derived.Shelf.Spec.SlicesInsertGrow
import Derived.RowKit
import Derived.Shelf.SlGeneric
import Derived.Maps.AppendAt
import Derived.Maps.Range
import Derived.Test.YtojfjgjdheiffaaGreatDoorBoD
import Derived.Test.YtojfjgjdheiffaaGreatDoorBoA
import Derived.Test.YtojfjgjdheiffaaGreatDoorPeE
import Derived.Test.YtojfjgjdheiffaaGreatDoorPeDr
section
/- What is known of functions that are not read: strings.Join, IndexByte, Contains and Split at one byte, SortStableFunc at no element. -/
set_option maxRecDepth 100000
namespace Pe.Tryz
open Go Go.Proofs Pe Go.RowKit
theorem zq8{nu:Nu}{D:Dat}{w:World}{s:List UInt8}{v:Value}(h:Rep (S:=Sx) un nu D w (.str s) v):v= .string ⟨s.toArray⟩:=by grind[Rep]
noncomputable def e153(_:Orc Sx):Entry Sx:=⟨[.str,.int .u8],[.int .i64],λt=>some (Lib.indexByte t.1 (UInt8.ofNat (Int.toNat t.2.1)),())⟩
theorem hok153(o:Orc Sx)(_:SoundO Tryz.prog un o):Entry.Ok Tryz.prog un 153 (e153 o):=by
 intro t r h D w vs hD ha;cases h
 match vs,ha with
 |[v,u],ha =>
   simp only[e153,zbQ,RepL,inj,Rep] at ha;obtain ⟨rfl,rfl,_⟩:=ha;refine (Tryz.strings_IndexByte ⟨List.toArray t.1⟩ t.2.1 w).mono ?_
   simp_all[Below.refl,e153,zbQ,zfI,inj,Rep]
 |[],ha=>grind[e153,zbQ,RepL]|[_],ha=>grind[e153,zbQ,RepL]|_::_::_::_,ha=>grind[e153,zbQ,RepL]
def has1(s:List UInt8):List UInt8->Option (Bool×Unit)|[c]=>some (decide (0<=Lib.indexByte s c),())|_=>none
theorem zpc{s sub:List UInt8}{r:Bool×Unit}(h:has1 s sub=some r):∃c,sub=[c]/\r=(decide (0<=Lib.indexByte s c),()):=by
 match sub,h with
 |[c],h=>exact ⟨c,rfl,(yAS h).symm⟩
noncomputable def e163(_:Orc Sx):Entry Sx:=⟨[.str,.str],[.bool],λt=>has1 t.1 t.2.1⟩
theorem hok163(o:Orc Sx)(_:SoundO Tryz.prog un o):Entry.Ok Tryz.prog un 163 (e163 o):=by
 intro t r h D w vs hD ha;obtain ⟨s,sub,t2⟩:=t;obtain ⟨c,h1,h2⟩:=zpc (show has1 s sub=some r from h)
 ·subst h1;subst h2
  match vs,ha with
  |[v,u],ha =>
    simp only[e163,zbQ,RepL,inj,Rep] at ha;obtain ⟨rfl,rfl,_⟩:=ha;refine (Tryz.strings_Contains_one ⟨List.toArray s⟩ c w).mono ?_
    simp_all[Below.refl,e163,zbQ,zfI,inj,Rep]
  |[],ha=>grind[e163,zbQ,RepL]|[_],ha=>grind[e163,zbQ,RepL]|_::_::_::_,ha=>grind[e163,zbQ,RepL]
def zbW(c:UInt8)(s:List UInt8):List (List UInt8):=(Lib.splitB ⟨#[c]⟩ 0 (Lib.countB ⟨s.toArray⟩ ⟨#[c]⟩) ⟨s.toArray⟩).map (·.data.toList)
def split1(s:List UInt8):List UInt8->Option (List (List UInt8)×Unit)|[c]=>bif Nat.ble s.length 4000000000 then some (zbW c s,()) else none|_=>none
theorem zlP{s sub:List UInt8}{r:List (List UInt8)×Unit}(h:split1 s sub=some r):∃c,sub=[c]/\(bif Nat.ble s.length 4000000000 then some (zbW c s,()) else none)=some r:=by
 match sub,h with
 |[c],h=>exact ⟨c,rfl,h⟩
noncomputable def e216(_:Orc Sx):Entry Sx:=⟨[.str,.str],[.sl .str],λt=>split1 t.1 t.2.1⟩
theorem hok216(o:Orc Sx)(_:SoundO Tryz.prog un o):Entry.Ok Tryz.prog un 216 (e216 o):=by
 intro t r h D w vs hD ha;obtain ⟨s,sub,t2⟩:=t;obtain ⟨c,h0,h⟩:=zlP (show split1 s sub=some r from h)
 ·subst h0;obtain ⟨h1,h2⟩:=zae h;cases h2;simp only[yAK] at h1
  match vs,ha with
  |[v,u],ha =>
    simp only[e216,zbQ,RepL,inj,Rep] at ha;obtain ⟨rfl,rfl,_⟩:=ha;have hsz:(ByteArray.mk (List.toArray s)).size=List.length (α:=UInt8) s:=rfl;refine (Any.split_one Tryz.lays146 (by kernel_rfl) ⟨List.toArray s⟩ c w (by rw[hsz];omega)).mono ?_
    rintro x w' ⟨rfl,hw⟩
    have hb:Below w.heap.size w w':=(by simp_all[Below.alloc,Below.refl]);refine ⟨_,rfl,hb,?_⟩;simp only[e216,zbQ,zfI,inj,Rep];have hlen:=Lib.splitB_all ⟨#[c]⟩ (yAi 1) 0 _ ⟨List.toArray s⟩ rfl;have hl2:(zbW c s).length=Lib.countB ⟨List.toArray s⟩ ⟨#[c]⟩+1:=by simp_all[zbW]
    have hcell:∀(i:Nat)(x:List UInt8),(zbW c s)[i]?=some x->w'.cell? ⟨w.heap.size,i,none⟩=some (.string ⟨x.toArray⟩):=(by intro i x hi;unfold zbW at hi;rw[yAh,yA9] at hi;obtain ⟨y,hy,rfl⟩:=hi;rw[hw];have:(w.alloc (.cells ((Lib.splitB ⟨#[c]⟩ 0 (Lib.countB ⟨List.toArray s⟩ ⟨#[c]⟩) ⟨List.toArray s⟩).map Value.string).toArray (Tryz.lays146_ren.t 9))).heap[w.heap.size]?=_:=heap_alloc_new w _;simp_all);have key:DR (S:=Sx) un (zkU D w w') w' [.sl .str] (sg (u:= .sl .str) (zbW c s)) [.slice (some ⟨w.heap.size,0,none⟩) (zbW c s).length (zbW c s).length]:=by
     refine .sl (t:=sg (u:= .sl .str) (zbW c s)) w.heap.size 0 (zbW c s).length (λi=>[match (zbW c s)[i]? with|some x=>.string ⟨x.toArray⟩|none=>undef]) (yAi _) (λi x hi=>?_) (λi x hi=>?_) .nil
     ·intro j v hj;have hx:(zbW c s)[i]?=some x:=hi;cases j with
      |zero =>
        simp[hx] at hj;subst hj;refine ⟨.inr ⟨by simp,?_⟩,?_⟩;·rw[hw];simp
        grind[U.size]
      |succ j=>simp at hj
     ·have hx:(zbW c s)[i]?=some x:=hi;simp only[hx];exact .str .nil
    grind
  |[],ha=>grind[e216,zbQ,RepL]|[_],ha=>grind[e216,zbQ,RepL]|_::_::_::_,ha=>grind[e216,zbQ,RepL]
theorem zrz{D:Dat}{w:World}{x:List UInt8}{cc:List Value}(h:DR (S:=Sx) un D w [.str] (sg (u:= .str) x) cc):cc=[.string ⟨x.toArray⟩]:=by
 cases h with
 |str h'=>cases h';rfl
theorem znz{D:Dat}{w:World}{xs:List (List UInt8)}{v:Value}(hv:DR (S:=Sx) un D w [.sl .str] (sg (u:= .sl .str) xs) [v]) :
  (xs=[]/\∃A c,v= .slice A 0 c)\/(xs≠[]/\∃b off c,v= .slice (some ⟨b,off,none⟩) xs.length c/\xs.length<=c/\∀(j:Nat)(x:List UInt8),xs[j]?=some x->D b (off+j)/\w.cell? ⟨b,off+j,none⟩=some (.string ⟨x.toArray⟩)):=by
 cases hv with
 |sl0 A c h0 h=>exact .inl ⟨h0,A,c,rfl⟩|sl b off c cs hc k1 k2 h =>
   by_cases hx:xs=[];·subst hx;exact .inl ⟨rfl,some ⟨b,off,none⟩,c,rfl⟩
   ·refine .inr ⟨hx,b,off,c,rfl,hc,λj x hj=>?_⟩;have e1:=k1 j x hj;have e2:=zrz (k2 j x hj);rw[e2] at e1;simpa[U.size] using e1 0 _ rfl
theorem zo7{D:Dat}{w:World}(hD:∀k o,D k o->k<w.heap.size){xs:List (List UInt8)}{sep:List UInt8}{v:Value}(hv:DR (S:=Sx) un D w [.sl .str] (sg (u:= .sl .str) xs) [v])(h1:xs.length<=1000000)(h2:(Lib.join xs sep).length<=100000000) :
  Calls Tryz.prog 219 #[v,.string ⟨sep.toArray⟩] w λx w'=>x= .returned (.string ⟨(Lib.join xs sep).toArray⟩)/\Below w.heap.size w w':=by
 rcases znz hv with ⟨rfl,A,c,rfl⟩|⟨hx,b,off,c,rfl,hc,hcell⟩
 ·refine (Tryz.strings_Join_none A c ⟨sep.toArray⟩ w).mono ?_
  rintro x w' ⟨rfl,rfl⟩
  exact ⟨rfl,Below.refl _ _⟩
 ·have hb:b<w.heap.size:=by
   obtain ⟨y,ys,rfl⟩:=List.exists_cons_of_ne_nil hx;exact hD _ _ (hcell 0 y rfl).1
  have hmap:(xs.map λx=>ByteArray.mk x.toArray).map (·.data.toList)=xs:=by simp_all[Function.comp_def]
  have hlen:(xs.map λx=>ByteArray.mk x.toArray).length=xs.length:=by simp
  have:=Tryz.strings_Join b off c (xs.map λx=>ByteArray.mk x.toArray) ⟨sep.toArray⟩ w (λj x hj=>by
   rw[yAh] at hj;cases hxj:xs[j]? with
   |none=>grind|some y=>simp_all) hb (by grind) (by grind) (by rw[hmap];exact yAo h2 (by decide))
  simp_all
noncomputable def e219(_:Orc Sx):Entry Sx:=⟨[.sl .str,.str],[.str],λt=>bif Nat.ble (List.length (α:=List UInt8) t.1) 1000000&&Nat.ble (Lib.join t.1 t.2.1).length 100000000 then some (Lib.join t.1 t.2.1,()) else none⟩
theorem hok219(o:Orc Sx)(_:SoundO Tryz.prog un o):Entry.Ok Tryz.prog un 219 (e219 o):=by
 intro t r h D w vs hD ha;obtain ⟨h1,h2⟩:=zae h;cases h2;simp only[yAd,yAK] at h1
 match vs,ha with
 |[v,u],ha =>
   simp only[e219,zbQ,RepL,inj] at ha;have hu:=zq8 ha.2.1;subst hu;have hv:=ha.1;simp only[Rep] at hv;refine (zo7 hD hv h1.1 h1.2).mono ?_
   simp_all[e219,zbQ,zfI,inj,Rep]
 |[],ha=>grind[e219,zbQ,RepL]|[_],ha=>grind[e219,zbQ,RepL]|_::_::_::_,ha=>grind[e219,zbQ,RepL]
noncomputable def e305(_:Orc Sx):Entry Sx:=⟨[.str],[.str],λt=>bif Nat.ble (List.length (α:=UInt8) t.1) 1000000&&List.all (α:=UInt8) t.1 (λb=>Nat.blt b.toNat 128) then some (Lib.toUpperA t.1,()) else none⟩
theorem znv{w:World}{s:List UInt8}(h1:s.length<=1000000)(h2:s.all (λb=>Nat.blt b.toNat 128)=true) :
  Calls Tryz.prog 305 #[.string ⟨s.toArray⟩] w λx w'=>x= .returned (.string ⟨(Lib.toUpperA s).toArray⟩)/\Below w.heap.size w w':=by
 have hsz:(ByteArray.mk s.toArray).size=s.length:=by simp[ByteArray.size]
 refine Tryz.strings_ToUpper_ascii ⟨s.toArray⟩ w (by rw[hsz];omega) (λj b hb=>?_);have:=yAM.1 h2 b (yAb hb);simp_all
theorem hok305(o:Orc Sx)(_:SoundO Tryz.prog un o):Entry.Ok Tryz.prog un 305 (e305 o):=by
 intro t r h D w vs hD ha;obtain ⟨h1,h2⟩:=zae h;cases h2;simp only[yAd,yAK] at h1
 match vs,ha with
 |[v],ha =>
   simp only[e305,zbQ,RepL,inj] at ha;have:=zq8 ha.1;subst this;refine (znv h1.1 h1.2).mono ?_
   simp_all[e305,zbQ,zfI,inj,Rep]
 |[],ha=>grind[e305,zbQ,RepL]|_::_::_,ha=>grind[e305,zbQ,RepL]
end Pe.Tryz
end
section
/- licence.read: its deferred call takes the panic back. -/
set_option maxRecDepth 100000
namespace Pe
open Go Go.Proofs Go.RowKit
section
variable{S:Nat->Type}{P:Program}{un:Uni S}
theorem zlO{D:Dat}{w:World}{args:List (PV S)}{vs:List Value}{n:Nat}(hD:∀k o,D k o->k<w.heap.size)(ha:RepL un [] D w args vs)(hn:args.length<=n) :
  Holds un ⟨w,[],[]⟩ D ⟨n,[]⟩ (ze2 0 args) [] { tmps:=vs.toArray++Array.replicate (n - vs.toArray.size) undef,defers:=[] } w:=by
 have hlen:=ha.len;refine ⟨D,[],⟨⟨Wl.Grow.refl _ _,hD,λr hr=>(by cases hr),λr hr=>(by cases hr),List.Pairwise.nil,λi g h=>(by simp at h)⟩,by simp;omega,rfl,by simp[BxRep],λi p hi=>?_⟩,λk o hk=>.inl hk,Ge.refl _ _⟩;obtain ⟨_,h1⟩:=zcM args 0 i p hi;obtain ⟨v,h2,h3⟩:=ha.get i p (by grind);have hlt:i<vs.length:=(yAc.1 h2).1;simp_all[yBK]
theorem zng{E:Wl.Ctx}{D:Dat}{H:List Wl.Res}{w:World}(hin:In E D H w){i g:Nat}(h:E.fix[i]?=some (.pointer (some ⟨g,0,none⟩))):∃T cs,H[i]?=some (.box g T cs):=by
 obtain ⟨r0,h1,h2,h3,_⟩:=hin.lent i _ h;cases r0 with
 |box g' T cs=>grind[zal]|fix v g' size ob =>simp[zal] at h3;subst h3;exact absurd (hin.res _ (yAb h1)).1 (zcQ _)|_=>grind[zax]
theorem zol{nu:Nu}{D:Dat}{w:World}{E:Wl.Ctx}{T:TypeId}{cs:List (PV S)}{r:Wl.Res}(h:BoxRep un nu D w E false (.var T cs) r)(hl:cs.length≠1):∃g vs,r= .box g T vs/\RepL un nu D w cs vs:=by
 cases r with
 |box g T' vs=>simp only[BoxRep] at h;obtain ⟨rfl,h⟩:=h;exact ⟨g,vs,rfl,h⟩
 |fix v g size ob=>simp only[BoxRep] at h;have:=h.length;grind
 |_=>grind[BoxRep]
variable{Q:Exit->Act->List Frame->World->Prop}{ops:Array Oper}{a:Act}{cs:List Frame}{w w':World}{o:Oper}{i:Nat}{rest:List Nat}{v:Value}
theorem zcx(ho:ops[i]?=some o)(hg:o.guard=none)(hr:(execOp a.eval o).run P w= .ok (.value v) w')(h:wpOpsS P ops Q rest (a.put o.dst v) cs w'):wpOpsS P ops Q (i::rest) a cs w:=by simp_all[wpOpsS,Region.wanted,Oper.upon]
theorem zlK(ho:ops[i]?=some o)(hg:o.guard=none)(hr:(execOp a.eval o).run P w= .ok .skip w')(h:wpOpsS P ops Q rest (a.put o.dst undef) cs w'):wpOpsS P ops Q (i::rest) a cs w:=by simp_all[wpOpsS,Region.wanted,Oper.upon]
theorem znt(ho:ops[i]?=some o)(hg:o.guard=none)(hr:(execOp a.eval o).run P w= .ok .recover w')(h:match recoverD cs with
  |some (v,cs')=>wpOpsS P ops Q rest (a.put o.dst v) cs' w'|none=>wpOpsS P ops Q rest (a.put o.dst .nilIface) cs w'):wpOpsS P ops Q (i::rest) a cs w:=by
 unfold wpOpsS;rw[ho];simp only[Region.wanted,hg,if_true,hr];exact h
end
end Pe
namespace Pe.Tryz
open Go Go.Proofs Pe Go.RowKit
noncomputable def r0C:Code:=match Tryz.f234.body with|some (.seq a _)=>a|_=>.skip
noncomputable def r1C:Code:=match Tryz.f234.body with|some (.seq _ (.seq a _))=>a|_=>.skip
noncomputable def zlQ:Code:=match Tryz.f234.body with|some (.seq _ (.seq _ c))=>c|_=>.skip
theorem zr6:Tryz.f234.body=some (.seq r0C (.seq r1C zlQ)):=by kernel_rfl
noncomputable def q0C:Array Oper:=match Tryz.f276.body with|some (.seq (.region _ ops _) _)=>ops|_=> #[]
noncomputable def qC:Code:=match Tryz.f276.body with|some (.seq _ c)=>c|_=>.skip
theorem zpA:Tryz.f276.body=some (.seq (.region 0 q0C false) qC):=by kernel_rfl
noncomputable def qop(i:Nat):Oper:=q0C[i]?.getD default
theorem q0C_range:List.range q0C.size=[0,1,2,3,4,5,6,7]:=by kernel_rfl
def an136:Ann:=⟨.leaf,.leaf,[],[],[],[(2,[⟨[],[],[],[]⟩,⟨[],[2],[],[]⟩,⟨[0],[],[],[]⟩,⟨[1],[],[],[]⟩])]⟩
def zEx:List (PV Sx):=[.int .i64 0,.str [],.bool false,.str [],.nils]
def zF:List (PV Sx):=[.int .i64 0,.int .i64 0]
def junk(n:Nat):List (PV Sx):=List.replicate n .junk
def zrX(x:Exit)(bx:Bxs Sx):Option (Bxs Sx):=match x with | .normal=>some bx|_=>none
theorem zpi(o:Orc Sx):zhm un tb o (zoh un tb o 6) an136 qC (Bxs Sx) [(3,.bool false)] [] (λx _ bx=>zrX x bx)=some []:=by kernel_rfl
theorem zcs{a:Act}{d:Nat}{v:Value}(h:d<a.tmps.size):(a.put (some d) v).eval (.tmp d)=v:=by simp_all[Act.put,Act.eval]
theorem zee{a:Act}{d t:Nat}{v:Value}(h:d≠t):(a.put (some d) v).eval (.tmp t)=a.eval (.tmp t):=by simp[Act.put,Act.eval,h]
theorem zeU{a:Act}{d:Option Nat}{v:Value}:(a.put d v).tmps.size=a.tmps.size:=zmC a d v
theorem g0:(qop 0).guard=none/\(qop 1).guard=none/\(qop 2).guard=none/\(qop 3).guard=none/\(qop 4).guard=none/\(qop 5).guard=none/\(qop 6).guard=none/\(qop 7).guard=none:=⟨by kernel_rfl,by kernel_rfl,by kernel_rfl,by kernel_rfl,by kernel_rfl,by kernel_rfl,by kernel_rfl,by kernel_rfl⟩
theorem d0:(qop 0).dst=some 5/\(qop 1).dst=some 6/\(qop 2).dst=some 4/\(qop 3).dst=some 7/\(qop 4).dst=some 8/\(qop 5).dst=some 2/\(qop 6).dst=none/\(qop 7).dst=some 3:=⟨by kernel_rfl,by kernel_rfl,by kernel_rfl,by kernel_rfl,by kernel_rfl,by kernel_rfl,by kernel_rfl,by kernel_rfl⟩
theorem qg0:q0C[0]?=some (qop 0):=by kernel_rfl
theorem qg1:q0C[1]?=some (qop 1):=by kernel_rfl
theorem qg2:q0C[2]?=some (qop 2):=by kernel_rfl
theorem qg3:q0C[3]?=some (qop 3):=by kernel_rfl
theorem qg4:q0C[4]?=some (qop 4):=by kernel_rfl
theorem qg5:q0C[5]?=some (qop 5):=by kernel_rfl
theorem qg6:q0C[6]?=some (qop 6):=by kernel_rfl
theorem qg7:q0C[7]?=some (qop 7):=by kernel_rfl
theorem o1:(qop 1).op= .typeAssert (.tmp 5) 20 254 true:=by kernel_rfl
theorem o2:(qop 2).op= .move (.tmp 6):=by kernel_rfl
theorem o3:(qop 3).op= .extract (.tmp 4) 0:=by kernel_rfl
theorem o4:(qop 4).op= .extract (.tmp 4) 1:=by kernel_rfl
theorem o5:(qop 5).op= .alloc 254:=by kernel_rfl
theorem o6:(qop 6).op= .store 254 (.tmp 2) (.tmp 7):=by kernel_rfl
theorem o7:(qop 7).op= .assign (.tmp 8):=by kernel_rfl
theorem rec0(ρ:Operand->Value)(w:World):(execOp ρ (qop 0)).run Tryz.prog w= .ok .recover w:=by kernel_rfl
theorem ta_no(w:World):(Instr.typeAssert .nilIface 20 254 true).run Tryz.prog w= .ok (.tuple #[.agg #[.int .i64 0,.int .i64 0],.bool false]) w:=by kernel_rfl
theorem zsr(v:Value)(w:World):(Instr.typeAssert (.iface 254 v) 20 254 true).run Tryz.prog w= .ok (.tuple #[v,.bool true]) w:=by kernel_rfl
theorem al49(w:World):(Instr.alloc 254 true (.tuple #[])).run Tryz.prog w= .ok (.pointer (some ⟨w.heap.size,0,none⟩)) (w.alloc (.cells #[.int .i64 0,.int .i64 0] 254)):=by kernel_rfl
theorem zst:(Tryz.prog.info? 254).map (·.size)=some 2:=by kernel_rfl
theorem zjg{Q:Exit->Act->List Frame->World->Prop}{a:Act}{cs cs':List Frame}{w:World}{x y:Int}{v0:Value}{b:Bool}(hs:a.tmps.size=12)
  (hrec:(match recoverD cs with|some (v,cs')=>(v,cs')|none=>(.nilIface,cs))=(v0,cs')) (hta:(Instr.typeAssert v0 20 254 true).run Tryz.prog w= .ok (.tuple #[.agg #[.int .i64 x,.int .i64 y],.bool b]) w)
  (h:∀a' w',a'.tmps.size=12->a'.defers=a.defers->a'.eval (.tmp 0)=a.eval (.tmp 0)->a'.eval (.tmp 1)=a.eval (.tmp 1)->a'.eval (.tmp 2)= .pointer (some ⟨w.heap.size,0,none⟩)->a'.eval (.tmp 3)= .bool b ->
   Below w.heap.size w w'->w'.heap[w.heap.size]?=some (.cells #[.int .i64 x,.int .i64 y] 254 (0,0))->Q .normal a' cs' w') :
  wpOpsS Tryz.prog q0C Q [0,1,2,3,4,5,6,7] a cs w:=by
 obtain ⟨k0,k1,k2,k3,k4,k5,k6,k7⟩:=g0;obtain ⟨e0,e1,e2,e3,e4,e5,e6,e7⟩:=d0;have go:∀a0:Act,a0.tmps.size=12->a0.defers=a.defers->a0.eval (.tmp 0)=a.eval (.tmp 0)->a0.eval (.tmp 1)=a.eval (.tmp 1)->a0.eval (.tmp 5)=v0->wpOpsS Tryz.prog q0C Q [1,2,3,4,5,6,7] a0 cs' w:=by
  intro a0 hs0 hd0 hp0 hp1 hv0;refine zcx qg1 k1 (v:= .tuple #[.agg #[.int .i64 x,.int .i64 y],.bool b]) (w':=w) (by simp[execOp,o1,hv0,hta]) ?_;rw[e1];generalize ha1:a0.put (some 6) _=a1;have hs1:a1.tmps.size=12:=by rw[<-ha1,zeU,hs0]
  have hv1:a1.eval (.tmp 6)= .tuple #[.agg #[.int .i64 x,.int .i64 y],.bool b]:=by rw[<-ha1];exact zcs (by omega)
  have hk1:∀t,6≠t->a1.eval (.tmp t)=a0.eval (.tmp t):=λt ht=>by rw[<-ha1];exact zee ht
  have hd1:a1.defers=a0.defers:=by rw[<-ha1];rfl
  refine zcx qg2 k2 (v:= .tuple #[.agg #[.int .i64 x,.int .i64 y],.bool b]) (w':=w) (by simp[execOp,o2,hv1]) ?_;rw[e2];generalize ha2:a1.put (some 4) _=a2;have hs2:a2.tmps.size=12:=by rw[<-ha2,zeU,hs1]
  have hv2:a2.eval (.tmp 4)= .tuple #[.agg #[.int .i64 x,.int .i64 y],.bool b]:=by rw[<-ha2];exact zcs (by omega)
  have hk2:∀t,4≠t->a2.eval (.tmp t)=a1.eval (.tmp t):=λt ht=>by rw[<-ha2];exact zee ht
  have hd2:a2.defers=a1.defers:=by rw[<-ha2];rfl
  refine zcx qg3 k3 (v:= .agg #[.int .i64 x,.int .i64 y]) (w':=w) (by simp[execOp,o3,hv2,Instr.extract]) ?_;rw[e3];generalize ha3:a2.put (some 7) _=a3;have hs3:a3.tmps.size=12:=by rw[<-ha3,zeU,hs2]
  have hv3:a3.eval (.tmp 7)= .agg #[.int .i64 x,.int .i64 y]:=by rw[<-ha3];exact zcs (by omega)
  have hk3:∀t,7≠t->a3.eval (.tmp t)=a2.eval (.tmp t):=λt ht=>by rw[<-ha3];exact zee ht
  have hd3:a3.defers=a2.defers:=by rw[<-ha3];rfl
  refine zcx qg4 k4 (v:= .bool b) (w':=w) (by simp[execOp,o4,hk3 4 (by decide),hv2,Instr.extract]) ?_;rw[e4];generalize ha4:a3.put (some 8) _=a4;have hs4:a4.tmps.size=12:=by rw[<-ha4,zeU,hs3]
  have hv4:a4.eval (.tmp 8)= .bool b:=by rw[<-ha4];exact zcs (by omega)
  have hk4:∀t,8≠t->a4.eval (.tmp t)=a3.eval (.tmp t):=λt ht=>by rw[<-ha4];exact zee ht
  have hd4:a4.defers=a3.defers:=by rw[<-ha4];rfl
  refine zcx qg5 k5 (v:= .pointer (some ⟨w.heap.size,0,none⟩)) (w':=w.alloc (.cells #[.int .i64 0,.int .i64 0] 254)) (by simp[execOp,o5,al49]) ?_;rw[e5];generalize ha5:a4.put (some 2) _=a5;have hs5:a5.tmps.size=12:=by rw[<-ha5,zeU,hs4]
  have hv5:a5.eval (.tmp 2)= .pointer (some ⟨w.heap.size,0,none⟩):=by rw[<-ha5];exact zcs (by omega)
  have hk5:∀t,2≠t->a5.eval (.tmp t)=a4.eval (.tmp t):=λt ht=>by rw[<-ha5];exact zee ht
  have hd5:a5.defers=a4.defers:=by rw[<-ha5];rfl
  have hnew:=heap_alloc_new w (.cells #[.int .i64 0,.int .i64 0] 254 (0,0));obtain ⟨s1,s2⟩:=zd8 w.heap.size 254 [.int .i64 x,.int .i64 y] [.int .i64 0,.int .i64 0] 0 (w.alloc (.cells #[.int .i64 0,.int .i64 0] 254)) hnew;have hst:(Instr.storeAt 254 (.pointer (some ⟨w.heap.size,0,none⟩)) (.agg #[.int .i64 x,.int .i64 y])).run Tryz.prog (w.alloc (.cells #[.int .i64 0,.int .i64 0] 254))= .ok () ((w.alloc (.cells #[.int .i64 0,.int .i64 0] 254)).setCells w.heap.size 0 [.int .i64 x,.int .i64 y]):=by
   have:=run_storeAt_mid (P:=Tryz.prog) (w.alloc (.cells #[.int .i64 0,.int .i64 0] 254)) w.heap.size 0 254 #[.int .i64 x,.int .i64 y] (λj hj=>⟨by
    rw[cell_of_row _ _ _ _ _ _ hnew];have:j<2:=hj;rcases j with _|_|j;·rfl
    ·rfl
    ·omega,by unfold World.frozen?;simp only[];rw[hnew];rfl⟩) (by rw[zst];rfl) (by rw[Array.all_eq_true];intro i hi;rcases i with _|_|i<;>first|rfl|(simp at hi;omega))
   exact this
  have hb:Below w.heap.size w ((w.alloc (.cells #[.int .i64 0,.int .i64 0] 254)).setCells w.heap.size 0 [.int .i64 x,.int .i64 y]):=by have h1:Below w.heap.size w (w.alloc (.cells #[.int .i64 0,.int .i64 0] 254)):=(Below.refl _ _).alloc (yAi _) _;refine ⟨s2.os.trans h1.os,s2.tape.trans h1.tape,s2.output.trans h1.output,yAo h1.size s2.size,λk hk=>?_⟩;rw[s2.block k (yAq hk h1.size) (by simp;omega),h1.block k hk]
  refine zlK qg6 k6 (w':=(w.alloc (.cells #[.int .i64 0,.int .i64 0] 254)).setCells w.heap.size 0 [.int .i64 x,.int .i64 y]) (by simp[execOp,o6,hv5,hk5 7 (by decide),hk4 7 (by decide),hv3,hst]) ?_;rw[e6];refine zcx qg7 k7 (v:= .bool b) (w':=(w.alloc (.cells #[.int .i64 0,.int .i64 0] 254)).setCells w.heap.size 0 [.int .i64 x,.int .i64 y]) (by simp[execOp,o7,Act.put,hk5 8 (by decide),hv4]) ?_;rw[e7];unfold wpOpsS;have old:∀t,t≠3->t≠2->t≠8->t≠7->t≠4->t≠6->((a5.put none undef).put (some 3) (.bool b)).eval (.tmp t)=a0.eval (.tmp t):=λt h3 h2 h8 h7 h4 h6=>by rw[zee (Ne.symm h3)];show a5.eval (.tmp t)=_;rw[hk5 t (Ne.symm h2),hk4 t (Ne.symm h8),hk3 t (Ne.symm h7),hk2 t (Ne.symm h4),hk1 t (Ne.symm h6)]
  refine h _ _ (by rw[zeU,zeU,hs5]) ?_ ?_ ?_ ?_ (zcs (by rw[zeU];omega)) hb (by simpa[zaV.spliceV] using s1);·show a5.defers=_;rw[hd5,hd4,hd3,hd2,hd1,hd0]
  ·rw[old 0 (by decide) (by decide) (by decide) (by decide) (by decide) (by decide),hp0]
  ·rw[old 1 (by decide) (by decide) (by decide) (by decide) (by decide) (by decide),hp1]
  ·rw[zee (by decide)];exact hv5
 refine znt qg0 k0 (w':=w) (rec0 _ w) ?_;rw[e0];cases hc:recoverD cs with
 |none =>rw[hc] at hrec;simp only[Prod.mk.injEq] at hrec ⊢;obtain ⟨rfl,rfl⟩:=hrec;exact go _ (by rw[zeU,hs]) rfl (zee (by decide)) (zee (by decide)) (zcs (by omega))
 |some z =>rw[hc] at hrec;obtain ⟨z1,z2⟩:=z;simp only[Prod.mk.injEq] at hrec ⊢;obtain ⟨rfl,rfl⟩:=hrec;exact go _ (by rw[zeU,hs]) rfl (zee (by decide)) (zee (by decide)) (zcs (by omega))
theorem f276_res:Tryz.f276.results.toList=[]:=by kernel_rfl
theorem f276_n:Tryz.f276.ntmps=12:=by kernel_rfl
theorem qC_w:(zaW qC).all (Nat.blt · 12)=true:=by kernel_rfl
theorem zr4{o:Orc Sx}(hor:SoundO Tryz.prog un o)(p0 p1:Value)(w:World):CallsD Tryz.prog 276 #[p0,p1] .returning w λe u' w'=>(∃v,e= .returned v)/\u'= .returning/\Below w.heap.size w w':=by
 refine callsD_of_wpS Tryz.func276 zpA λc₀ cs hu=>wpS_seq (wpS_region ?_);rw[q0C_range];refine zjg (by rw[f276_n];rfl) (v0:= .nilIface) (cs':=c₀::cs) (by simp[recoverD,hu]) (ta_no w) λa' w' hs hd _ _ _ h3 hb _=>?_;show qC.wpS Tryz.prog _ a' (c₀::cs) w'
 refine wpS_of_wp (zfm (E:=⟨w',[],[]⟩) (D0:=λ_ _=>False) (N:=⟨12,[]⟩) mixed zeM zmo hor (zbC mixed zeM zmo hor 6) _ _ _ _ _ _ (zpi o) (λd hdd=>by have:=yAM.1 qC_w d hdd;simp_all)
  ⟨λ_ _=>False,[],⟨⟨Wl.Grow.refl _ _,λ_ _ h=>h.elim,λr hr=>(by cases hr),λr hr=>(by cases hr),List.Pairwise.nil,λi g h=>(by simp at h)⟩,hs,by rw[hd],by simp[BxRep],λi p hi=>?_⟩,λ_ _ h=>h.elim,Ge.refl _ _⟩ λx e' bx' hk _ _ a2 w2 hH=>?_)
 ·simp only[zvo] at hi;cases hb3:Nat.beq 3 i with
  |true =>rw[hb3] at hi;have:=yAa hb3;subst this;simp at hi;subst hi;simp only[Rep];exact h3
  |false=>grind
 ·cases x with
  |normal =>
    obtain ⟨D',H',hs',_⟩:=hH;obtain ⟨v,_,_,g1,_⟩:=zbY (fn:=Tryz.f276) (ps:=[]) zeM zmo hs' (by rw[f276_res];rfl) (rs:=[]) (t:=()) rfl;refine ⟨hs'.defers,.returning,?_,v,g1,⟨v,rfl⟩,rfl,?_⟩;·rw[<-hu]
    ·have hg:=hs'.inn.out;exact ⟨hg.os.trans hb.os,hg.tape.trans hb.tape,hg.output.trans hb.output,yAo hb.size hg.size,λk hk=>(hg.block k (yAq hk hb.size) (by simp)).trans (hb.block k hk)⟩
  |_=>cases hk
def zs6(a c:Int):Bxs Sx:=[.var 200 (junk 5),.var 254 (junk 2),.var 254 [.int .i64 a,.int .i64 c]]
def bxs41(a c:Int):Bxs Sx:=[.var 200 zEx,.var 254 [.int .i64 a,.int .i64 c],.var 254 [.int .i64 a,.int .i64 c]]
theorem zn2(o:Orc Sx)(a c:Int):zhm un tb o (zoh un tb o 6) an136 qC (Bxs Sx) [(0,.ptr 0 0),(1,.ptr 1 0),(2,.ptr 2 0),(3,.bool true)] (zs6 a c) (λx _ bx=>zrX x bx)=some (bxs41 a c):=by kernel_rfl
def zExV:Array Value:= #[.int .i64 0,.string ⟨#[]⟩,.bool false,.string ⟨#[]⟩,.slice none 0 0]
theorem zpY{nu:Nu}{D:Dat}{w:World}{vs:List Value}(h:RepL (S:=Sx) un nu D w zEx vs):vs=zExV.toList:=by
 match vs,h with
 |[a,b,c,d,e],h =>simp only[zEx,RepL,Rep] at h;obtain ⟨rfl,rfl,rfl,rfl,rfl,_⟩:=h;rfl
 |[],h=>grind[zEx,RepL]|[_],h=>grind[zEx,RepL]|[_,_],h=>grind[zEx,RepL]|[_,_,_],h=>grind[zEx,RepL]|[_,_,_,_],h=>simp[zEx,RepL] at h|_::_::_::_::_::_::_,h=>simp[zEx,RepL] at h
theorem zpZ{nu:Nu}{D:Dat}{w:World}{x y:Int}{vs:List Value}(h:RepL (S:=Sx) un nu D w [.int .i64 x,.int .i64 y] vs):vs=[.int .i64 x,.int .i64 y]:=by
 match vs,h with
 |[a,b],h =>grind[RepL,Rep]
 |[],h=>grind[RepL]|[_],h=>grind[RepL]|_::_::_::_,h=>grind[RepL]
theorem zqS{o:Orc Sx}(hor:SoundO Tryz.prog un o)(g0 g1:Nat)(x y:Int)(w:World)(c0 c1:List Value)(hg0:w.heap[g0]?=some (.cells c0.toArray 200 (0,0)))(hg1:w.heap[g1]?=some (.cells c1.toArray 254 (0,0)))(hl0:c0.length=5)(hl1:c1.length=2)(hne:g0≠g1) :
  CallsD Tryz.prog 276 #[.pointer (some ⟨g0,0,none⟩),.pointer (some ⟨g1,0,none⟩)] (.panicking [⟨.iface 254 (.agg #[.int .i64 x,.int .i64 y]),false,false⟩]) w λe u' w'=>(∃v,e= .returned v)/\settle u'= .returning/\Wl.Grow [g0,g1] w w' /\
   w'.heap[g0]?=some (.cells zExV 200 (0,0))/\w'.heap[g1]?=some (.cells #[.int .i64 x,.int .i64 y] 254 (0,0)):=by
 refine callsD_of_wpS Tryz.func276 zpA λc₀ cs hu=>wpS_seq (wpS_region ?_);rw[q0C_range];refine zjg (by rw[f276_n];rfl) (v0:= .iface 254 (.agg #[.int .i64 x,.int .i64 y])) (cs':={ c₀ with mode:= .panicking [⟨.iface 254 (.agg #[.int .i64 x,.int .i64 y]),true,false⟩] }::cs) (by simp[recoverD,hu]) (zsr _ w) λa' w' hs hd h0 h1 h2 h3 hb hnew=>?_;show qC.wpS Tryz.prog _ a' _ w';have hlt0:g0<w.heap.size:=(yAE.1 hg0).1;have hlt1:g1<w.heap.size:=(yAE.1 hg1).1;have hg0':w'.heap[g0]?=some (.cells c0.toArray 200 (0,0)):=(hb.block g0 hlt0).trans hg0;have hg1':w'.heap[g1]?=some (.cells c1.toArray 254 (0,0)):=(hb.block g1 hlt1).trans hg1
 refine wpS_of_wp (zfm (E:=⟨w,[g0,g1],[.pointer (some ⟨g0,0,none⟩),.pointer (some ⟨g1,0,none⟩)]⟩) (D0:=λ_ _=>False) (N:=⟨12,[]⟩) mixed zeM zmo hor (zbC mixed zeM zmo hor 6) _ _ _ _ _ _ (zn2 o x y) (λd hdd=>by have:=yAM.1 qC_w d hdd;simp_all)
  ⟨λ_ _=>False,[.box g0 200 c0,.box g1 254 c1,.box w.heap.size 254 [.int .i64 x,.int .i64 y]],⟨⟨Wl.Grow.of_below hb,λ_ _ h=>h.elim,λr hr=>?_,λr hr g hg o' _ h=>h.elim,?_,λi g h=>?_⟩,hs,by rw[hd],?_,λi p hi=>?_⟩,λ_ _ h=>h.elim,⟨λ_ _ h=>h,λ_ _ h=>h.elim⟩⟩ λxx e' bx' hk _ _ a2 w2 hH=>?_)
 ·simp only[yAm,yAX,or_false] at hr;rcases hr with rfl|rfl|rfl;·exact ⟨.inr (by simp),hg0'⟩
  ·exact ⟨.inr (by simp),hg1'⟩
  ·exact ⟨.inl (yAi _),hnew⟩
 ·refine yBU.2 ⟨λr hr g h1' h2'=>?_,yBU.2 ⟨λr hr g h1' h2'=>?_,yBs _ _⟩⟩;·simp only[yAm,yAX,or_false] at hr;grind[Wl.Res.has]
  simp_all[Wl.Res.has]
 ·rcases i with _|_|i;·simp at h;subst h;exact ⟨_,rfl,rfl,rfl,keptR.box⟩
  ·simp at h;subst h;exact ⟨_,rfl,rfl,rfl,keptR.box⟩
  ·simp at h
 ·simp only[zs6,BxRep,BoxRep];have j5:∀{nu:Nu}{cs:List Value}{n:Nat},cs.length=n->RepL (S:=Sx) un nu (λ_ _=>False) w' (junk n) cs:=by
   intro nu cs n hn;subst hn;induction cs with
   |nil=>simp[junk,RepL]|cons v cs ih=>simp_all[junk,yCb,RepL,Rep]
  refine ⟨⟨trivial,j5 hl0⟩,⟨trivial,j5 hl1⟩,⟨trivial,?_⟩,trivial⟩;simp_all[RepL,Rep]
 ·have hget:∀j,a'.tmps.getD j undef=a'.eval (.tmp j):=λj=>rfl;simp only[zvo] at hi;rw[hget];cases hb0:Nat.beq 0 i with
  |true =>rw[hb0] at hi;have:=yAa hb0;subst this;simp at hi;subst hi;rw[h0];simp only[Rep,ids];exact ⟨g0,rfl,rfl⟩
  |false =>
    rw[hb0] at hi;simp only[cond_false] at hi;cases hb1:Nat.beq 1 i with
    |true =>rw[hb1] at hi;have:=yAa hb1;subst this;simp at hi;subst hi;rw[h1];simp only[Rep,ids];exact ⟨g1,rfl,rfl⟩
    |false =>
      rw[hb1] at hi;simp only[cond_false] at hi;cases hb2:Nat.beq 2 i with
      |true =>rw[hb2] at hi;have:=yAa hb2;subst this;simp at hi;subst hi;rw[h2];simp only[Rep,ids];exact ⟨w.heap.size,rfl,rfl⟩
      |false =>
        rw[hb2] at hi;simp only[cond_false] at hi;cases hb3:Nat.beq 3 i with
        |true =>rw[hb3] at hi;have:=yAa hb3;grind[Rep]
        |false=>grind
 ·cases xx with
  |normal =>
    simp only[zrX,yAf] at hk;subst hk;obtain ⟨D',H',hs',_⟩:=hH;obtain ⟨v,_,_,g1',_⟩:=zbY (fn:=Tryz.f276) (ps:=[]) zeM zmo hs' (by rw[f276_res];rfl) (rs:=[]) (t:=()) rfl;refine ⟨hs'.defers,_,rfl,v,g1',⟨v,rfl⟩,rfl,hs'.inn.out,?_,?_⟩;·obtain ⟨T,cs',hH0⟩:=zng hs'.inn (i:=0) (g:=g0) rfl;obtain ⟨r,hr1,hr2⟩:=hs'.boxes.get (i:=0) (b:= .var 200 zEx) rfl;rw[hH0] at hr1;cases hr1;simp only[BoxRep] at hr2;obtain ⟨rfl,hl⟩:=hr2;have:=(hs'.inn.res _ (yAb hH0)).2;rw[zpY hl] at this;exact this
    ·obtain ⟨T,cs',hH0⟩:=zng hs'.inn (i:=1) (g:=g1) rfl;obtain ⟨r,hr1,hr2⟩:=hs'.boxes.get (i:=1) (b:= .var 254 [.int .i64 x,.int .i64 y]) rfl;rw[hH0] at hr1;cases hr1;simp only[BoxRep] at hr2;obtain ⟨rfl,hl⟩:=hr2;have:=(hs'.inn.res _ (yAb hH0)).2;rw[zpZ hl] at this;exact this
  |_=>cases hk
def znq:Ann:=⟨(.node .leaf 7 ⟨[],[],[]⟩ .leaf),.leaf,[],[],[],[]⟩
abbrev zpM:=ElL Sx [(.st 9),(.st 15)]⊕ElL Sx [.int .i64,.int .i64]
noncomputable def zl4(orc:Orc Sx)(s:List UInt8):Option zpM:=(oc (α:=((Gt.Rd×Unit)×(Unit))) (β:=Int×Int×Unit) (orc.e 277 [.ptr 0 0] [293] [(.st 16)] (((Gt.Rd.mk s 0 (Gt.Tk.mk 0 [] 0 false) 0),()):Gt.Rd×Unit) [] [(.int .i64),(.int .i64)] 254) (λ(r1:((Gt.Rd×Unit)×(Unit)))=>(oc (α:=((Gt.Rd×Unit)×(LicSpec.Ex×Unit))) (β:=Int×Int×Unit) (orc.e 278 [.ptr 0 0] [293] [(.st 16)] ((r1.1.1,()):Gt.Rd×Unit) [(.st 9)] [(.int .i64),(.int .i64)] 254) (λ(r2:((Gt.Rd×Unit)×(LicSpec.Ex×Unit)))=>(zaE (σ:=Unit) (R:=_) (br ((Gt.Tk.kind (Gt.Rd.now r2.1.1)) != 0) (oc (α:=((Unit)×(Unit))) (β:=Int×Int×Unit) (orc.e 279 [.int .i64 (Gt.Tk.at_ (Gt.Rd.now r2.1.1)),.int .i64 6] [] [] ((()):Unit) [] [(.int .i64),(.int .i64)] 254) (λ(_:((Unit)×(Unit)))=>(some (.inl (())))) λ(p4:Int×Int×Unit)=>(some (.inr (.inr (p4.1,p4.2.1,()))))) (some (.inl (())))) λ(_:Unit)=>(some (.inl ((LicSpec.Ex.mk (LicSpec.Ex.kind r2.2.1) (LicSpec.Ex.name r2.2.1) (LicSpec.Ex.later r2.2.1) (LicSpec.Ex.wth r2.2.1) (LicSpec.Ex.kids r2.2.1)),(Gt.Licence_fault.mk 0 0),()))))) λ(p6:Int×Int×Unit)=>(some (.inr (p6.1,p6.2.1,()))))) λ(p7:Int×Int×Unit)=>(some (.inr (p7.1,p7.2.1,()))))
noncomputable def zn0(e:Env Sx)(bx:Bxs Sx):Option zpM:=match ze6 un tb e bx Tryz.f234.results.toList with
 |some l=>(match zf4 un (zaq (zdi l) bx) [.st 9,.st 15] l with|some c=>some (.inl c)|none=>none)|none=>none
noncomputable def finR(x:Exit)(e:Env Sx)(bx:Bxs Sx):Option zpM:=match x with
 | .normal=>zn0 e bx| .ret=>zn0 e bx| .panic ch=>(match zom 254 [.int .i64,.int .i64] ch with|some p=>some (.inr p)|none=>none)|_=>none
theorem zqv(o:Orc Sx)(s:List UInt8):zhm un tb o (zoh un tb o 6) znq zlQ zpM [(3,.ptr 1 0),(2,.ptr 0 0),(0,.str s)] [.var 200 zEx,.var 254 zF] finR=zl4 o s:=by kernel_rfl
noncomputable def e234(o:Orc Sx):Entry Sx:=⟨[.str],[.st 9,.st 15],λt=>match zl4 o t.1 with
 |some (.inl c)=>some c|some (.inr p)=>some (LicSpec.Ex.zero,⟨p.1,p.2.1⟩,())|none=>none⟩
def fin0(x:Exit)(e:Env Sx)(bx:Bxs Sx):Option (Env Sx×Bxs Sx):=match x with | .normal=>some (e,bx)|_=>none
theorem zrZ(o:Orc Sx)(s:List UInt8):zhm un tb o (zoh un tb o 6) znq r0C (Env Sx×Bxs Sx) [(0,.str s)] [] fin0=some ([(3,.ptr 1 0),(2,.ptr 0 0),(0,.str s)],[.var 200 zEx,.var 254 zF]):=by kernel_rfl
theorem f234_n:Tryz.f234.ntmps=27:=by kernel_rfl
theorem r0_w:(zaW r0C).all (Nat.blt · 27)=true:=by kernel_rfl
theorem zsv:(zaW zlQ).all (Nat.blt · 27)=true:=by kernel_rfl
theorem ziE:(za7 znq zlQ).contains 2=false/\(za7 znq zlQ).contains 3=false:=⟨by kernel_rfl,by kernel_rfl⟩
noncomputable def zpR(i:Nat):Oper:=match r1C with | .region _ ops _=>ops[i]?.getD default|_=>default
theorem zsx:r1C= .region 1 [zpR 0,zpR 1].toArray false:=by kernel_rfl
theorem r1_0:(zpR 0).op= .makeFunc (.func 276) #[] #[.tmp 2,.tmp 3]:=by kernel_rfl
theorem r1_1:∃c:Call,(zpR 1).op= .defer c/\c.callee= .value (.tmp 5)/\c.args= #[]:=⟨⟨.value (.tmp 5),#[],#[]⟩,by kernel_rfl,by kernel_rfl,by kernel_rfl⟩
theorem r1_g:(zpR 0).guard=none/\(zpR 1).guard=none:=⟨by kernel_rfl,by kernel_rfl⟩
theorem r1_d:(zpR 0).dst=some 5/\(zpR 1).dst=none:=⟨by kernel_rfl,by kernel_rfl⟩
theorem zsO(p0 p1:Value)(w:World):(invoke (.fn (.func 276) #[p0,p1]) #[]).run Tryz.prog w= .ok (.enter 276 #[p0,p1]) w:=by kernel_rfl
theorem resR(x y:Int):zn0 [(2,.ptr 0 0),(3,.ptr 1 0)] [.var 200 zEx,.var 254 [.int .i64 x,.int .i64 y]]=some (.inl (LicSpec.Ex.zero,⟨x,y⟩,())):=by kernel_rfl
theorem zgR{l:List Nat}{i:Nat}(h:l.contains i=false):i∉l:=by simpa using h
theorem zi7{e:Env Sx}{bx:Bxs Sx}{r:zpM}(h:zn0 e bx=some r):∃l c,ze6 un tb e bx Tryz.f234.results.toList=some l/\zf4 un (zaq (zdi l) bx) [.st 9,.st 15] l=some c/\r= .inl c:=by
 unfold zn0 at h;split at h
 ·rename_i l hl;split at h;·simp_all
  ·cases h
 ·cases h
theorem hok234(o:Orc Sx)(h:SoundO Tryz.prog un o):Entry.Ok Tryz.prog un 234 (e234 o):=by
 intro t r hr D w vs hD ha;obtain ⟨s,_⟩:=t
 match vs,ha with
 |[],ha=>grind[e234,zbQ,RepL]|_::_::_,ha=>grind[e234,zbQ,RepL]|[v],ha =>
 have ha':RepL (S:=Sx) un [] D w [.str s] [v]:=ha;have hin:=zbC mixed zeM zmo h 6;refine calls_of_wp_defers Tryz.func234 zr6 ?_;rw[f234_n];have hst:=zlO (n:=27) hD ha' (by simp);refine wp_seq (zfm (E:=⟨w,[],[]⟩) (D0:=D) (N:=⟨27,[]⟩) mixed zeM zmo h hin _ _ _ _ _ _ (zrZ o s) (λd hdd=>by have:=yAM.1 r0_w d hdd;simp_all) hst λx e bx hk _ _ a1 w1 hH=>?_);have hx:x= .normal:=by cases x<;>first|rfl|cases hk
 subst hx;simp only[fin0,yAf,Prod.mk.injEq] at hk;obtain ⟨rfl,rfl⟩:=hk;show (Code.seq r1C zlQ).wp _ _ a1 w1;obtain ⟨D1,H1,st1,hD1,_⟩:=hH;obtain ⟨b0,hb0,hb0'⟩:=st1.boxes.get (i:=0) (b:= .var 200 zEx) rfl;obtain ⟨b1,hb1,hb1'⟩:=st1.boxes.get (i:=1) (b:= .var 254 zF) rfl;have hres0:=st1.inn.res _ (yAb hb0);have hres1:=st1.inn.res _ (yAb hb1);obtain ⟨g0,cs0,rfl,hl0⟩:=zol hb0' (by decide);obtain ⟨g1,cs1,rfl,hl1⟩:=zol hb1' (by decide);have hge0:w.heap.size<=g0:=by rcases hres0.1 with h1|h1;exact h1;simp at h1
 have hge1:w.heap.size<=g1:=by rcases hres1.1 with h1|h1;exact h1;simp at h1
 have hne:g0≠g1:=λhe=>by have:=zaK st1.inn.disj hb0 hb1 (g:=g0) rfl (by rw[he];rfl);omega
 have hHl:H1=[.box g0 200 cs0,.box g1 254 cs1]:=by
  have hlen:=st1.boxes.length
  match H1,hb0,hb1,hlen with
  |[x,y],hb0,hb1,_=>grind|[],hb0,_,_=>simp at hb0|[_],_,hb1,_=>simp at hb1|_::_::_::_,_,_,hlen=>simp at hlen
 have hv2:a1.tmps.getD 2 undef= .pointer (some ⟨g0,0,none⟩):=by have:=st1.slots 2 (.ptr 0 0) rfl;simp_all[Rep,zal]
 have hv3:a1.tmps.getD 3 undef= .pointer (some ⟨g1,0,none⟩):=by have:=st1.slots 3 (.ptr 1 0) rfl;simp_all[Rep,zal]
 refine wp_seq ?_;rw[zsx];refine wp_region_lit (wpList_plain r1_g.1 λK hK=>?_);have hrun0:(execOp a1.eval (zpR 0)).run Tryz.prog w1= .ok (.value (.func (.func 276) #[] #[.pointer (some ⟨g0,0,none⟩),.pointer (some ⟨g1,0,none⟩)])) w1:=by have e2:a1.eval (.tmp 2)= .pointer (some ⟨g0,0,none⟩):=hv2;have e3:a1.eval (.tmp 3)= .pointer (some ⟨g1,0,none⟩):=hv3;simp only[execOp,r1_0];simp[e2,e3];rfl
 unfold Oper.wp;rw[hrun0];refine hK _ _ (wpList_plain r1_g.2 λK' hK'=>?_);rw[r1_d.1];obtain ⟨c,hc1,hc2,hc3⟩:=r1_1;have hrun1:(execOp (a1.put (some 5) (.func (.func 276) #[] #[.pointer (some ⟨g0,0,none⟩),.pointer (some ⟨g1,0,none⟩)])).eval (zpR 1)).run Tryz.prog w1= .ok (.defer ⟨.fn (.func 276) #[.pointer (some ⟨g0,0,none⟩),.pointer (some ⟨g1,0,none⟩)],#[]⟩) w1:=by have e5:(a1.put (some 5) (.func (.func 276) #[] #[.pointer (some ⟨g0,0,none⟩),.pointer (some ⟨g1,0,none⟩)])).eval (.tmp 5)= .func (.func 276) #[] #[.pointer (some ⟨g0,0,none⟩),.pointer (some ⟨g1,0,none⟩)]:=zcs (by have:a1.tmps.size=27:=st1.size;omega);simp[execOp,hc1,resolve,hc2,hc3,e5,Deferred.ofValue]
 unfold Oper.wp;rw[hrun1];refine hK' _ _ (wpList_nil ?_);rw[r1_d.2];show zlQ.wp _ _ _ w1
 -- the rest,the two blocks as if they were lent
 have hst2:Holds un ⟨w1,[g0,g1],[.pointer (some ⟨g0,0,none⟩),.pointer (some ⟨g1,0,none⟩)]⟩ D1 ⟨27,[⟨.fn (.func 276) #[.pointer (some ⟨g0,0,none⟩),.pointer (some ⟨g1,0,none⟩)],#[]⟩]⟩ [(3,.ptr 1 0),(2,.ptr 0 0),(0,.str s)] [.var 200 zEx,.var 254 zF]
   ({ a1.put (some 5) (.func (.func 276) #[] #[.pointer (some ⟨g0,0,none⟩),.pointer (some ⟨g1,0,none⟩)]) with defers:=⟨.fn (.func 276) #[.pointer (some ⟨g0,0,none⟩),.pointer (some ⟨g1,0,none⟩)],#[]⟩::(a1.put (some 5) (.func (.func 276) #[] #[.pointer (some ⟨g0,0,none⟩),.pointer (some ⟨g1,0,none⟩)])).defers }.put none undef) w1:=by
  refine ⟨D1,H1,⟨⟨Wl.Grow.refl _ _,st1.inn.lt,λr hr=>?_,st1.inn.apart,st1.inn.disj,λi g hi=>?_⟩,?_,?_,?_,λi p hi=>?_⟩,λk o hk=>.inl hk,Ge.refl _ _⟩
  ·rw[hHl] at hr;simp only[yAm,yAX,or_false] at hr;rcases hr with rfl|rfl;·exact ⟨.inr (by simp),hres0.2⟩
   ·exact ⟨.inr (by simp),hres1.2⟩
  ·rw[hHl];rcases i with _|_|i;·simp at hi;subst hi;exact ⟨_,rfl,rfl,rfl,keptR.box⟩
   ·simp at hi;subst hi;exact ⟨_,rfl,rfl,rfl,keptR.box⟩
   ·simp at hi
  ·simp[Act.put,st1.size]
  ·simp[Act.put,st1.defers]
  ·rw[hHl];simp only[BxRep,BoxRep];have:ids H1=ids [.box g0 200 cs0,.box g1 254 cs1]:=by rw[hHl]
   rw[this] at hl0 hl1;exact ⟨⟨trivial,hl0⟩,⟨trivial,hl1⟩,trivial⟩
  ·have hi5:5≠i:=λh5=>(by subst h5;cases hi);have:=st1.slots i p hi;simpa[Act.put,yAv,hi5] using this
 have hsp:(match zl4 o s with
  |some (.inl c)=>some c|some (.inr p)=>some (LicSpec.Ex.zero,⟨p.1,p.2.1⟩,())|none=>none)=some r:=hr
 cases hm:zl4 o s with
 |none=>rw[hm] at hsp;cases hsp|some res =>
 rw[hm] at hsp;refine zfm (N:=⟨27,_⟩) mixed zeM zmo h hin _ _ _ _ _ _ ((zqv o s).trans hm) (λd hdd=>by have:=yAM.1 zsv d hdd;simpa[yAN] using this) hst2 λx e' bx' hk hp hpb a3 w3 hH3=>?_;obtain ⟨D3,H3,st3,hD3,_⟩:=hH3;have hg1:=st1.inn.out;have hg3:=st3.inn.out;have below:∀w4,Wl.Grow [g0,g1] w3 w4->Below w.heap.size w w4:=λw4 hg4=>by
  refine ⟨hg4.os.trans (hg3.os.trans hg1.os),hg4.tape.trans (hg3.tape.trans hg1.tape),hg4.output.trans (hg3.output.trans hg1.output),yAo hg1.size (yAo hg3.size hg4.size),λk hk=>?_⟩;have hk0:k∉[g0,g1]:=by simp;omega
  have s1:k<w1.heap.size:=yAq hk hg1.size;rw[hg4.block k (yAq s1 hg3.size) hk0,hg3.block k s1 hk0,hg1.block k hk (by simp)]
 have normal:zn0 e' bx'=some res->Leaves Tryz.prog Tryz.f234 a3.tmps (λx w'=>∃v,x= .returned v/\Below w.heap.size w w'/\Rep un [] (zkU D w w') w' (zfI (zbQ (e234 o).rs r)) v) a3.defers .returning w3:=by
  intro hf;obtain ⟨l,c,hl,hc,rfl⟩:=zi7 hf;cases hsp;rw[st3.defers];refine leaves_cons (by simp) (zsO _ _ w3) ((zr4 h _ _ w3).mono ?_)
  rintro e4 u' w4 ⟨⟨v4,rfl⟩,rfl,hb4⟩
  show ∃v,(results Tryz.f234 a3.tmps).run Tryz.prog w4= .ok v w4/\_;have hin4:=st3.inn.below hb4;have hge4:=Ge.below st3.inn hb4;have st4:St un ⟨w1,[g0,g1],[.pointer (some ⟨g0,0,none⟩),.pointer (some ⟨g1,0,none⟩)]⟩ ⟨27,_⟩ (zkU D3 w3 w4) H3 e' bx' a3 w4:=⟨hin4,st3.size,st3.defers,st3.boxes.mono hge4 (zas st3.inn.out hin4.out) λ_ _ h=>h,λi q hi=>(st3.slots i q hi).ge hge4 λ_ _ h=>h⟩;obtain ⟨v,D5,H5,k1,k2,st5,_,_,hup⟩:=zbY (fn:=Tryz.f234) zeM zmo st4 hl hc;refine ⟨v,k1,v,rfl,below w4 (Wl.Grow.of_below hb4),k2.ge ⟨λk o hk5=>?_,λ_ _ _=>rfl⟩ λ_ _ h=>h⟩;rcases hup k o hk5 with hk|hk
  rotate_left
  ·exact .inr ⟨hk.elim (λh=>yAo hg1.size h) (λh=>by simp at h;rcases h with rfl|rfl<;>omega),st5.inn.lt k o hk5⟩
  rcases hk with hk|hk
  ·rcases hD3 k o hk with h1|h1
   ·rcases hD1 k o h1 with h2|h2;·exact .inl h2
    ·exact .inr ⟨h2.elim id (λh=>by simp at h),yAq (st3.inn.lt k o hk) hb4.size⟩
   ·exact .inr ⟨h1.elim (λh=>yAo hg1.size h) (λh=>by simp at h;rcases h with rfl|rfl<;>omega),yAq (st3.inn.lt k o hk) hb4.size⟩
  ·exact .inr ⟨yAo hg1.size (yAo hg3.size hk.1),hk.2⟩
 cases x with
 |normal=>exact normal hk|ret=>exact normal hk|panic ch =>
   simp only[finR] at hk;split at hk
   ·rename_i p hp49;cases hk;cases hsp;have hch:=zjq hp49;subst hch;show Leaves Tryz.prog Tryz.f234 a3.tmps _ a3.defers (.panicking _) w3;rw[st3.defers];have hl2:zvo e' 2=some (.ptr 0 0):=hp 2 _ (zgR ziE.1) rfl rfl;have hl3:zvo e' 3=some (.ptr 1 0):=hp 3 _ (zgR ziE.2) rfl rfl;obtain ⟨T3,cs3,hH30⟩:=zng st3.inn (i:=0) (g:=g0) rfl;obtain ⟨T4,cs4,hH31⟩:=zng st3.inn (i:=1) (g:=g1) rfl;obtain ⟨c0',hbx0,hlen0⟩:=hpb.var 0 200 zEx rfl;obtain ⟨c1',hbx1,hlen1⟩:=hpb.var 1 254 zF rfl;obtain ⟨r0,hr0,hr0'⟩:=st3.boxes.get hbx0;obtain ⟨r1,hr1,hr1'⟩:=st3.boxes.get hbx1;rw[hH30] at hr0;cases hr0;rw[hH31] at hr1;cases hr1;simp only[BoxRep] at hr0' hr1';obtain ⟨rfl,hq0⟩:=hr0';obtain ⟨rfl,hq1⟩:=hr1';have hp0:=(st3.inn.res _ (yAb hH30)).2;have hp1:=(st3.inn.res _ (yAb hH31)).2;refine leaves_cons (by simp) (zsO _ _ w3) ((zqS h g0 g1 p.1 p.2.1 w3 cs3 cs4 hp0 hp1 (by rw[<-hq0.length,hlen0];rfl) (by rw[<-hq1.length,hlen1];rfl) hne).mono ?_)
    rintro e4 u' w4 ⟨⟨v4,rfl⟩,hu',hg4,hh0,hh1⟩
    show Leaves Tryz.prog Tryz.f234 a3.tmps _ [] (settle u') w4;rw[hu'];obtain ⟨l,c,hl,hc,hcr⟩:=zi7 (resR p.1 p.2.1);cases hcr;have st4:St un ⟨w4,[g0,g1],[.pointer (some ⟨g0,0,none⟩),.pointer (some ⟨g1,0,none⟩)]⟩ ⟨27,a3.defers⟩ (λ_ _=>False) [.box g0 200 zExV.toList,.box g1 254 [.int .i64 p.1,.int .i64 p.2.1]] [(2,.ptr 0 0),(3,.ptr 1 0)] [.var 200 zEx,.var 254 [.int .i64 p.1,.int .i64 p.2.1]] a3 w4:=by
     refine ⟨⟨Wl.Grow.refl _ _,λ_ _ h=>h.elim,λr hr=>?_,λr hr g hg o' _ h=>h.elim,?_,λi g hi=>?_⟩,st3.size,rfl,?_,λi q hi=>?_⟩
     ·simp only[yAm,yAX,or_false] at hr;rcases hr with rfl|rfl;·exact ⟨.inr (by simp),by simpa using hh0⟩
      ·exact ⟨.inr (by simp),hh1⟩
     ·refine yBU.2 ⟨λr hr g h1' h2'=>?_,yBs _ _⟩;simp only[yAm,yAX,or_false] at hr;subst hr;simp[Wl.Res.has] at h1' h2';omega
     ·rcases i with _|_|i;·simp at hi;subst hi;exact ⟨_,rfl,rfl,rfl,keptR.box⟩
      ·simp at hi;subst hi;exact ⟨_,rfl,rfl,rfl,keptR.box⟩
      ·simp at hi
     ·simp only[BxRep,BoxRep,zEx,zExV,RepL,Rep,List.toArray];exact ⟨⟨trivial,trivial,trivial,trivial,trivial,trivial,trivial⟩,⟨trivial,trivial,trivial,trivial⟩,trivial⟩
     ·have q2:=st3.slots 2 _ hl2;have q3:=st3.slots 3 _ hl3;simp only[Rep,ids,yAh,hH30,hH31,yAg,zal,yAf,Prod.mk.injEq,true_and] at q2 q3;obtain ⟨x0,y0,z0⟩:=q2;obtain ⟨x1,y1,z1⟩:=q3;simp at y0 y1;subst y0;subst y1;simp only[zvo] at hi;cases hb2:Nat.beq 2 i with
      |true =>rw[hb2] at hi;have:=yAa hb2;subst this;simp at hi;subst hi;simp only[Rep,ids];exact ⟨g0,rfl,z0⟩
      |false =>
        rw[hb2] at hi;simp only[cond_false] at hi;cases hb3:Nat.beq 3 i with
        |true =>rw[hb3] at hi;have:=yAa hb3;subst this;simp at hi;subst hi;simp only[Rep,ids];exact ⟨g1,rfl,z1⟩
        |false=>rw[hb3] at hi;simp at hi
    obtain ⟨v,D5,H5,k1,k2,st5,_,_,hup⟩:=zbY (fn:=Tryz.f234) zeM zmo st4 hl hc;refine ⟨v,k1,v,rfl,below w4 hg4,k2.ge ⟨λk o hk5=>?_,λ_ _ _=>rfl⟩ λ_ _ h=>h⟩;rcases hup k o hk5 with hk|hk;·exact hk.elim
    ·exact .inr ⟨hk.elim (λh=>yAo hg1.size (yAo hg3.size (yAo hg4.size h))) (λh=>by simp at h;rcases h with rfl|rfl<;>omega),st5.inn.lt k o hk5⟩
   ·cases hk
 |exit i=>cases hk|goto l=>cases hk|outgrown=>cases hk
end Pe.Tryz
end
section
/- What is known of slices.Clone: the slice that zde back holds the same elements. -/
set_option maxRecDepth 100000
namespace Pe
open Go.Shelf Go.RowKit Go.Lib Go
variable{P:Program}{ρ:Ren}
set_option maxHeartbeats 2000000 in
theorem zt9(L:Go.Proofs.SlLaysE0.n41 P ρ)(i0:TypeInfo)(z:Value)(size bytes:Nat)(hi:P.info? (ρ.t 23)=some i0)(hz0:i0.zero=some z)(hz1:i0.size=size)(hz2:i0.bytes=bytes)(hzs:z.cells.size=size)(hsz:0<size)
  (z23:∀w,(Go.sizeOf (ρ.t 23)).run P w= .ok size w) (ad:Addr) (n c:Nat) (news:List Value) (w:World) (hl:news.length=n*size) (hn:n<=maxLen) (hbig:n*bytes<=140737488355328)
  (hc:∀j u,news[j]?=some u->w.cell? (ad.add j)=some u) (h1:∀u∈news,u.oneCell'=true) :
  Calls P (ρ.f 41) #[.slice (some ad) n c] w λe w'=>∃v',e= .returned v'/\w'.ownsRow w.heap.size (ρ.t 23) size v' n news/\Below w.heap.size w w':=by
 have mixed:=L.mixed;have t4:=L.t4;have a4:=L.a4;have z4:=L.z4;have v4:=L.v4;have t22:=L.t22;have a22:=L.a22;have z22:=L.z22;have v22:=L.v22;have q22:∀(w:World)(a:Option Addr)(n c n' c':Nat),(binOp .eql (ρ.t 22) (.slice a n c) (.slice none n' c')).run P w= .ok (.bool a.isNone) w:=λw a n c n' c'=>Lib.run_eql_slice_nil w _ _ a n c n' c' L.t22;have u22:∀w,Sem.run P (underlying (ρ.t 22)) w= .ok (TypeDesc.slice (ρ.t 23)) w:=run_underlying t22;have A:Aside (∀j u,news[j]?=some u->w.cell? (ad.add j)=some u):=hc;clear hc;obtain ⟨_,_,FG⟩:=L.f41
 go_enter FG,Go.Proofs.SlBodyN.n41_ntmps ρ
 go_wp2_with (at_builtin;refine wpList_append_own _ rfl _ _ (ρ.t 22) rfl w.heap.size (ρ.t 23) i0 z size bytes t22 hi hz0 hz1 hz2 hzs hsz _ _ _ rfl (World.ownsRow_made w #[] 0 (yAi _) (yAA _) (by simp)) ad n c news rfl ?qc1 ?qc2 ?qc3 ?qc4 ?qc5 ?qc6 ?_)
 case qc1=>exact hl
 case qc2=>grind[cell?_alloc_some,Aside.out]
 case qc3=>exact h1
 case qc4=>simp_all
 case qc5=>simp_all
 case qc6=>simp
 intro v' w1 hown hgrow hnil
 go_wp2
 go_ret
 refine ⟨v',rfl,by grind,?_⟩;exact ((Below.refl _ w).alloc (yAi _) _).grown hgrow (by simp) (by grind[Value.ownBlock])
section
variable{S:Nat->Type}{un:Uni S}
theorem zuQ{D:Dat}{w w':World}(hD:∀k o,D k o->k<w.heap.size)(hb:Below w.heap.size w w'):Ge D w (zkU D w w') w' :=
 ⟨λ_ _ h=>.inl h,λk o h=>World.cell?_of_block (hb.block k (hD k o h))⟩
noncomputable def clE(S:Nat->Type)(u:U):Entry S:=⟨[.sl u],[.sl u],λt=>bif Nat.ble (List.length (α:=El S u) t.1) 1000000000 then some (t.1,()) else none⟩
theorem zuD(L:Go.Proofs.SlLaysE0.n41 P ρ)(hun:UniOk un){u:U}(hE:ElOk P un (ρ.t 23) u)(_:0<U.size un u)(z23:∀w,(Go.sizeOf (ρ.t 23)).run P w= .ok (U.size un u) w):Entry.Ok P un (ρ.f 41) (clE S u):=by
 intro t r h D w vs hD ha;obtain ⟨h1,h2⟩:=zae h;cases h2;simp only[yAK] at h1
 match vs,ha with
 |[v],ha =>
   simp only[clE,zbQ,RepL,inj] at ha;obtain ⟨A,c,news,rfl,g1,g2,g3,g4,g5⟩:=zkf hun.flat ha.1;cases A with
   |none =>
     have hl:=g2 rfl;refine (Go.Proofs.AnyE.slices_Clone_nil L _ c w).mono ?_
     rintro x w' ⟨rfl,rfl⟩
     refine ⟨_,rfl,Below.refl _ _,?_⟩;simp only[clE,zbQ,zfI,inj,Rep];exact .sl0 none 0 hl .nil
   |some ad =>
     obtain ⟨inf,z,e1,e2,e3,e4,e5,e6⟩:=hE.info;have hlen:List.length (α:=El S u) t.1<=1000000000:=h1;have hb:List.length (α:=El S u) t.1*inf.bytes<=140737488355328:=by have:List.length (α:=El S u) t.1*inf.bytes<=1000000000*32768:=yCi hlen e6;omega
     refine (zt9 L inf z (U.size un u) inf.bytes e1 e2 e3 rfl e4 e5 z23 ad _ c news w g1 (yAo hlen (by decide)) hb (g3 ad rfl) g5).mono ?_
     rintro x w' ⟨v',rfl,hown,hbl⟩
     refine ⟨v',rfl,hbl,?_⟩;simp only[clE,zbQ,zfI,inj,Rep];have hge:=zuQ hD hbl;rcases hown.2 with ⟨rfl,hn⟩|⟨g,cap,cur,rfl,hbg,hg,hnc,hcm,hcs,htk⟩;·exact .sl0 none 0 (yAU.1 hn) .nil
     ·refine .sl g 0 cap (λi=>(news.drop (i*U.size un u)).take (U.size un u)) hnc (λi x hi j v hj=>?_) (λi x hi=>(g4 i x hi).mono hge) .nil;have hgl:g<w'.heap.size:=(yAE.1 hg).1;rw[yAD] at hj;split at hj;·rw[yAu] at hj;have hc:=hown.cells (g:=g) rfl _ v hj;rw[Addr.add_lit] at hc;exact ⟨.inr ⟨hbg,hgl⟩,by simpa[yAJ] using hc⟩
      ·cases hj
 |[],ha=>simp[clE,zbQ,RepL] at ha|_::_::_,ha=>simp[clE,zbQ,RepL] at ha
end
end Pe
end
section
/- The clones that a component's copy makes. -/
set_option maxRecDepth 100000
namespace Pe.Tryz
open Go Go.Proofs Pe Go.RowKit Go.Shelf
theorem zvn:ElOk Tryz.prog un 153 (.st 10):=by obtain ⟨T,u,h1,h2,h3⟩:=(row33 _ rfl).slice rfl;cases yAS (h2.symm.trans Tryz.underlying33);grind
theorem elDig:ElOk Tryz.prog un 98 (.st 6):=by obtain ⟨T,u,h1,h2,h3⟩:=(row36 _ rfl).slice rfl;cases yAS (h2.symm.trans Tryz.underlying36);grind
theorem elStr:ElOk Tryz.prog un 9 .str:=by obtain ⟨T,u,h1,h2,h3⟩:=(row26 _ rfl).slice rfl;cases yAS (h2.symm.trans Tryz.underlying26);grind
def zvg:Go.Shelf.Ren:=⟨fun|41=>111|n=>n,fun|22=>33|23=>153|n=>n,λn=>n⟩
def zvf:Go.Shelf.Ren:=⟨fun|41=>112|n=>n,fun|22=>36|23=>98|n=>n,λn=>n⟩
def zve:Go.Shelf.Ren:=⟨fun|41=>113|n=>n,fun|22=>26|23=>9|n=>n,λn=>n⟩
theorem zu7:SlLaysE0.n41 Tryz.prog zvg:={ mixed:=mixed,f41:=⟨Tryz.f111.name,by decide,Tryz.func111.trans (congrArg some (by kernel_rfl))⟩,t4:=Tryz.underlying4,a4:=Tryz.isAgg4,z4:=Tryz.sizeOf4,v4:=Tryz.zeroValue4,t22:=Tryz.underlying33,a22:=Tryz.isAgg33,z22:=Tryz.sizeOf33,v22:=Tryz.zeroValue33 }
theorem zu6:SlLaysE0.n41 Tryz.prog zvf:={ mixed:=mixed,f41:=⟨Tryz.f112.name,by decide,Tryz.func112.trans (congrArg some (by kernel_rfl))⟩,t4:=Tryz.underlying4,a4:=Tryz.isAgg4,z4:=Tryz.sizeOf4,v4:=Tryz.zeroValue4,t22:=Tryz.underlying36,a22:=Tryz.isAgg36,z22:=Tryz.sizeOf36,v22:=Tryz.zeroValue36 }
theorem zu5:SlLaysE0.n41 Tryz.prog zve:={ mixed:=mixed,f41:=⟨Tryz.f113.name,by decide,Tryz.func113.trans (congrArg some (by kernel_rfl))⟩,t4:=Tryz.underlying4,a4:=Tryz.isAgg4,z4:=Tryz.sizeOf4,v4:=Tryz.zeroValue4,t22:=Tryz.underlying26,a22:=Tryz.isAgg26,z22:=Tryz.sizeOf26,v22:=Tryz.zeroValue26 }
noncomputable def e111(_:Orc Sx):Entry Sx:=clE Sx (.st 10)
noncomputable def e112(_:Orc Sx):Entry Sx:=clE Sx (.st 6)
noncomputable def e113(_:Orc Sx):Entry Sx:=clE Sx .str
theorem hok111(o:Orc Sx)(_:SoundO Tryz.prog un o):Entry.Ok Tryz.prog un 111 (e111 o):=zuD zu7 zeM zvn (by rw[show U.size un (.st 10)=2 by kernel_rfl];omega) λw=>by rw[show U.size un (.st 10)=2 by kernel_rfl];exact Tryz.sizeOf153 w
theorem hok112(o:Orc Sx)(_:SoundO Tryz.prog un o):Entry.Ok Tryz.prog un 112 (e112 o):=zuD zu6 zeM elDig (by rw[show U.size un (.st 6)=2 by kernel_rfl];omega) λw=>by rw[show U.size un (.st 6)=2 by kernel_rfl];exact Tryz.sizeOf98 w
theorem hok113(o:Orc Sx)(_:SoundO Tryz.prog un o):Entry.Ok Tryz.prog un 113 (e113 o):=zuD zu5 zeM elStr (by grind[U.size]) λw=>by rw[show U.size un .str=1 by kernel_rfl];exact Tryz.sizeOf9 w
end Pe.Tryz
end
section
/- slices.Delete of elements of any size, from a row of the call's own. -/
set_option maxRecDepth 100000
namespace Go.Proofs
open Go.Shelf Go.RowKit Go.Lib
variable{P:Program}{ρ:Ren}
set_option maxHeartbeats 4000000 in
theorem ztT(L:SlLaysE0.n45 P ρ)(i0:TypeInfo)(z:Value)(sz:Nat)(hi0:P.info? (ρ.t 23)=some i0)(_:i0.zero=some z)(hz1:i0.size=sz)(_:z.cells.size=sz)(_:0<sz)(z23:∀w,(Go.sizeOf (ρ.t 23)).run P w= .ok sz w)
  (blk off cap n i j:Nat) (w W1:World) (news zs:List Value) (hcap:n<=cap) (hm:cap<=9223372036854775807) (hij:i<j) (hj:j<=n)
  (hnl:news.length=(n - j)*sz) (hsrc0:∀t u,news[t]?=some u->w.drew.cell? ⟨blk,off+j*sz+t,none⟩=some u) (h1:∀u∈news,u.oneCell'=true)
  (hroom:∀t,t<news.length->(w.drew.cell? ⟨blk,off+i*sz+t,none⟩).isSome=true/\w.drew.frozen? ⟨blk,off+i*sz+t,none⟩=false) (hW0:W1=w.drew.setCells blk (off+i*sz) news)
  (hcl:∀ty,(Builtin.clear_ #[ρ.t 22] ty #[.slice (some ⟨blk,off+(i+(n - j))*sz,none⟩) (n - (i+(n - j))) (cap - (i+(n - j)))]).run P W1= .ok (.tuple #[]) (W1.setCells blk (off+(i+(n - j))*sz) zs)) :
  Calls P (ρ.f 45) #[.slice (some ⟨blk,off,none⟩) n cap,.int .i64 i,.int .i64 j] w λe w'=>e= .returned (.slice (some ⟨blk,off,none⟩) (n - (j - i)) cap)/\w'=W1.setCells blk (off+(i+(n - j))*sz) zs:=by
 have mixed:=L.mixed;have t0:=L.t0;have a0:=L.a0;have z0:=L.z0;have v0:=L.v0;have t3:=L.t3;have a3:=L.a3;have z3:=L.z3;have v3:=L.v3;have t4:=L.t4;have a4:=L.a4;have z4:=L.z4;have v4:=L.v4;have t22:=L.t22;have a22:=L.a22;have z22:=L.z22;have v22:=L.v22;have heq:¬i=j:=by omega
 obtain ⟨A,hA,hsrc⟩:∃A:Addr,(if cap=j then some (⟨blk,off,none⟩:Addr) else some ⟨blk,off+j*sz,none⟩)=some A/\Hid (∀t u,news[t]?=some u->w.drew.cell? (A.add t)=some u):=by
  by_cases h:cap=j
  ·refine ⟨⟨blk,off,none⟩,by simp[h],λt u hu=>?_⟩;have h0:news.length=0:=by rw[hnl,show n - j=0 by omega];simp
   rw[yAU.1 h0] at hu;simp at hu
  ·refine ⟨⟨blk,off+j*sz,none⟩,by simp[h],λt u hu=>?_⟩;rw[Addr.add_lit];exact hsrc0 t u hu
 have s1:Hid (news.length=(n - j)*sz):=hnl;have s2:Hid (∀u∈news,u.oneCell'=true):=h1;have s3:Hid (∀t,t<news.length->(w.drew.cell? ⟨blk,off+i*sz+t,none⟩).isSome=true/\w.drew.frozen? ⟨blk,off+i*sz+t,none⟩=false):=hroom;have hW:Hid (W1=w.drew.setCells blk (off+i*sz) news):=hW0;have hic:i<=cap:=by omega
 have hjc:j<=cap:=by omega
 clear hW0 hroom h1 hnl hsrc0;obtain ⟨_,_,FG⟩:=L.f45
 go_enter FG,SlBodyN.n45_ntmps ρ
 go_wp2_with fail
 go_region_law_o (refine step_append_room rfl (.tmp 22) (.tmp 25) (ρ.t 22) rfl (ρ.t 23) i0 sz t22 hi0 hz1 blk off i cap (by simp[Act.eval,Act.put]) A (n - j) (cap - j) news (by simp[Act.eval,Act.put]) s1.out hsrc.out s2.out (by omega) s3.out ?_;rw[<-hW.out])
 go_wp2
 go_ret
 refine ⟨by rw[show n - (j - i)=i+(n - j) by omega];rfl,?_⟩;rfl
end Go.Proofs
end
section
/- slices.Insert of elements of 3 cells into a row: what it does, in three roads. -/
set_option maxRecDepth 100000
namespace Go.Proofs.Ins3
open Go.Proofs
open Go.Shelf Go.RowKit Go.Lib
variable{P:Program}{ρ:Ren}
structure InsLays (P:Program) (ρ:Ren):Prop where
 mixed:P.follows .mixedOrders=true
 f22:Bears P (ρ.f 22) (Body2.n22 ρ)
 f29:∀(args:Array Value)(w:World),(callFunc (ρ.f 29) args).run P w=((Extern.SlicesOverlaps.overlaps #[ρ.t 24,ρ.t 24] #[ρ.t 4] args).run P w).andThen λv w'=>.ok (.value v) w'
 t0:P.underlying (ρ.t 0)=some (TypeDesc.tuple #[])
 a0:∀w,(isAgg (ρ.t 0)).run P w= .ok false w
 z0:∀w,(Go.sizeOf (ρ.t 0)).run P w= .ok 1 w
 v0:∀w,(zeroValue (ρ.t 0)).run P w= .ok (Value.tuple #[]) w
 t3:P.underlying (ρ.t 3)=some (TypeDesc.int IntKind.i64)
 a3:∀w,(isAgg (ρ.t 3)).run P w= .ok false w
 z3:∀w,(Go.sizeOf (ρ.t 3)).run P w= .ok 1 w
 v3:∀w,(zeroValue (ρ.t 3)).run P w= .ok (Value.int IntKind.i64 0) w
 t4:P.underlying (ρ.t 4)=some (TypeDesc.bool)
 a4:∀w,(isAgg (ρ.t 4)).run P w= .ok false w
 z4:∀w,(Go.sizeOf (ρ.t 4)).run P w= .ok 1 w
 v4:∀w,(zeroValue (ρ.t 4)).run P w= .ok (Value.bool false) w
 t24:P.underlying (ρ.t 24)=some (TypeDesc.slice (ρ.t 9))
 a24:∀w,(isAgg (ρ.t 24)).run P w= .ok false w
 z24:∀w,(Go.sizeOf (ρ.t 24)).run P w= .ok 1 w
 v24:∀w,(zeroValue (ρ.t 24)).run P w= .ok (Value.slice none 0 0) w
 z9:∀w,(Go.sizeOf (ρ.t 9)).run P w= .ok 3 w
theorem zts(a:Addr)(n:Nat):(a.add n).block=a.block:=by grind[Addr.add]
theorem ztl(w:World)(dT sT ty elem:TypeId)(b o dLen dCap:Nat)(a:Addr)(sLen sCap:Nat)(cs:List Value)
  (hu:P.underlying dT=some (.slice elem)) (hs:(P.info? elem).map (·.size)=some 3) (hn:cs.length=Nat.min sLen dLen*3)
  (hsrc:∀j v,cs[j]?=some v->w.cell? (a.add j)=some v) (hc:∀j,j<cs.length->(w.cell? ⟨b,o+j,none⟩).isSome=true) (hf:∀j,j<cs.length->w.frozen? ⟨b,o+j,none⟩=false) (h1:∀v∈cs,v.oneCell'=true) :
  (Builtin.copy_ #[dT,sT] ty #[.slice (some ⟨b,o,none⟩) dLen dCap,.slice (some a) sLen sCap]).run P w= .ok (goInt (Nat.min sLen dLen)) (w.setCells b o cs):=by
 have hl:=run_loadCells_list (P:=P) w a cs hsrc;have hst:=run_storeCells_cells (P:=P) b o cs 0 w (by grind) (by grind) h1;cases hq:P.info? elem with
 |none=>grind|some i =>simp_all[Builtin.copy_,Builtin.lenOf,Builtin.firstCells,sizeOf,typeInfo,run_underlying]
theorem zto(w:World)(tS tR e:TypeId)(ht:P.underlying tS=some (.slice e))(size:Nat)(hz:∀w,(Go.sizeOf e).run P w= .ok size w)
  (a b:Addr) (la ca lb cb:Nat) (hne:a.block≠b.block) {oa:Array Value} {Ta:TypeId} {fa:Nat×Nat} (ha:w.heap[a.block]?=some (.cells oa Ta fa)) {ob:Array Value} {Tb:TypeId} (hb:w.heap[b.block]?=some (.cells ob Tb (0,0))) (h0:ob.size≠0) (h0a:oa.size≠0) :
  (Extern.SlicesOverlaps.overlaps #[tS,tS] #[tR] #[.slice (some a) la ca,.slice (some b) lb cb]).run P w= .ok (.bool false) w:=by
 have hsa:w.shape? a.block=some (Ta,oa.size):=by simp[World.shape?,ha]
 have hsb:w.shape? b.block=some (Tb,ob.size):=by simp[World.shape?,hb]
 have hfb:w.frozen? b=false:=by simp[World.frozen?,hb]
 have hfe:∀k s,w.frozen? ⟨b.block,k,s⟩=false:=λk s=>by simp[World.frozen?,hb]
 have hnb:(a.block != b.block)=true:=by grind
 have hnb':(a.block==b.block)=false:=by grind
 change Sem.run P (α:=Value) (do
  let some t := (#[tS, tS] : Array TypeId)[0]? | stuck "slices.overlaps: no parameter types"
  let .slice elem ← underlying t | stuck "slices.overlaps: slice type expected"
  let size <-sizeOf elem
  match (some a:Option Addr),(some b:Option Addr) with
  |some a,some b =>
    if la=0\/lb=0\/size=0 then pure (Value.bool false)
    else if a.block != b.block&&(<-frozen a)&&(<-frozen b) then unsupported .addressObserved
    else do
     if a.block != b.block then do
      noView a;noView b
      if ← mayBeOne a b then return Value.bool ((← choose (.extern "sameAddr.stringBytes" 2)) == 1)
     pure (Value.bool (a.block==b.block&&a.off<b.off+lb*size&&b.off<a.off+la*size))
  |_,_=>pure (Value.bool false)) w=_
 by_cases h1:la=0\/lb=0\/size=0;·simp[run_underlying ht,hz,h1]
 ·obtain ⟨kB,hk⟩:∃kB,ob.size=kB+1:=⟨ob.size - 1,by omega⟩;rw[hk] at hsb;obtain ⟨kA,hka⟩:∃kA,oa.size=kA+1:=⟨oa.size - 1,by omega⟩;rw[hka] at hsa
  cases hfa:w.frozen? a<;>cases hfe':w.frozen? { block:=a.block,off:=kA+1 } <;>
   simp[run_underlying ht,hz,h1,hnb,hnb',frozen,noView,viewAt,mayBeOne,stringish,shape,Sem.run,hsa,hsb,hfa,hfb,hfe,hfe']
set_option maxHeartbeats 4000000 in
theorem ztL(L:InsLays P ρ)(hinf:(P.info? (ρ.t 9)).map (·.size)=some 3)(b off n c i m vc:Nat)(va:Addr)(cs vs:List Value)(w:World)(hi:i<n)(hm:0<m)(hroom:n+m<=c)(hc63:c<=9223372036854775807)(hvb:va.block≠b)
  (hcl:cs.length=n*3) (hvl:vs.length=m*3)
  (hcs:∀j v,cs[j]?=some v->w.cell? ⟨b,off+j,none⟩=some v) (hsp:∀j,j<(n+m)*3->(w.cell? ⟨b,off+j,none⟩).isSome=true) (hfz:∀j,j<(n+m)*3->w.frozen? ⟨b,off+j,none⟩=false)
  (hvs:∀j v,vs[j]?=some v->w.cell? (va.add j)=some v) (h1c:∀v∈cs,v.oneCell'=true) (h1v:∀v∈vs,v.oneCell'=true)
  {oa:Array Value} {Ta:TypeId} {fa:Nat×Nat} (ha:w.heap[va.block]?=some (.cells oa Ta fa)) {ob:Array Value} {Tb:TypeId} (hb:w.heap[b]?=some (.cells ob Tb (0,0))) (h0:ob.size≠0) (h0a:oa.size≠0) :
  Calls P (ρ.f 22) #[.slice (some ⟨b,off,none⟩) n c,.int .i64 i,.slice (some va) m vc] w λe w' =>
   e= .returned (.slice (some ⟨b,off,none⟩) (n+m) c)/\w'=(w.drew.setCells b (off+(i+m)*3) (cs.drop (i*3))).setCells b (off+i*3) vs:=by
 have t0:=L.t0;have a0:=L.a0;have z0:=L.z0;have v0:=L.v0;have t3:=L.t3;have a3:=L.a3;have z3:=L.z3;have v3:=L.v3;have t4:=L.t4;have a4:=L.a4;have z4:=L.z4;have v4:=L.v4;have z9:=L.z9;have t24:=L.t24;have a24:=L.a24;have z24:=L.z24;have v24:=L.v24;have u0:=run_underlying L.t0;have u3:=run_underlying L.t3;have u4:=run_underlying L.t4;have u24:=run_underlying L.t24;have hz1:¬((m:Int)=0):=by omega
 have hz2:¬((i:Int)=(n:Int)):=by omega
 have hov:∀lb cb,(callFunc (ρ.f 29) #[.slice (some va) m vc,.slice (some ⟨b,off+(i+m)*3,none⟩) lb cb]).run P w= .ok (.value (.bool false)) w:=λlb cb=>by
  rw[L.f29,
   zto w (ρ.t 24) (ρ.t 4) (ρ.t 9) L.t24 3 L.z9 va ⟨b,off+(i+m)*3,none⟩ m vc lb cb hvb ha hb h0 h0a]
  rfl
 have hdl:(cs.drop (i*3)).length=(n - i)*3:=by rw[yAL,hcl];omega
 have mixed:=L.mixed;have hw1:IntKind.i64.wrap ((i:Int)+(m:Int))=(i:Int)+(m:Int):=by grind[IntKind.wrap_i64]
 have hb1:(0:Int)<=(i:Int)+(m:Int):=by omega
 have hin:i<=n:=by omega
 have htn:((i:Int)+(m:Int)).toNat=i+m:=by omega
 have hb2:¬(c=i+m):=by omega
 have hb3:(i:Int)<=(n:Int)+(m:Int):=by omega
 have hb4:¬(c=i):=by omega
 have hmin:Nat.min (n+m - i) (n+m - (i+m))=n - i:=by grind
 have hcp1:∀ty dc sc,(Builtin.copy_ #[(ρ.t 24),(ρ.t 24)] ty #[.slice (some ⟨b,off+(i+m)*3,none⟩) (n+m - (i+m)) dc,.slice (some ⟨b,off+i*3,none⟩) (n+m - i) sc]).run P w.drew= .ok (goInt ((n - i:Nat))) (w.drew.setCells b (off+(i+m)*3) (cs.drop (i*3))):=λty dc sc=>by
  have h:=ztl w.drew _ (ρ.t 24) ty (ρ.t 9) b (off+(i+m)*3) (n+m - (i+m)) dc ⟨b,off+i*3,none⟩ (n+m - i) sc (cs.drop (i*3)) L.t24 hinf (by rw[hdl,hmin])
   (λj v hj=>by simp_all[Addr.add_lit,yBx])
   (λj hj=>by rw[yBx];exact hsp _ (by omega)) (λj hj=>by rw[yBx];exact hfz _ (by omega)) (λv hv=>h1c v (List.mem_of_mem_drop hv))
  grind
 obtain ⟨W1,hW1⟩:∃W1,W1=w.drew.setCells b (off+(i+m)*3) (cs.drop (i*3)):=⟨_,rfl⟩;have hsp1:∀k,k<(n+m)*3->(W1.cell? ⟨b,off+k,none⟩).isSome=true:=λk hk=>by rw[hW1];exact isSome_setCells b _ _ _ (λj hj=>by rw[yBx];exact hsp _ (by omega)) _ (hsp k hk)
 have hmin2:Nat.min m (n+m - i)=m:=by simp only[Nat.min_def];split<;>omega
 have hcp2:∀(W:World),(∀x,W.cell? x=W1.cell? x)->(∀x,W.frozen? x=W1.frozen? x)->∀ty dc,(Builtin.copy_ #[(ρ.t 24),(ρ.t 24)] ty #[.slice (some ⟨b,off+i*3,none⟩) (n+m - i) dc,.slice (some va) m vc]).run P W= .ok (goInt m) (W.setCells b (off+i*3) vs):=λW hWc hWf ty dc=>by
  have h:=ztl W _ (ρ.t 24) ty (ρ.t 9) b (off+i*3) (n+m - i) dc va m vc vs L.t24 hinf (by rw[hvl,hmin2])
   (λj v hj=>by rw[hWc,hW1,World.cell?_setCells_out b _ _ _ (va.add j) (λh _=>absurd ((zts va j).symm.trans h) hvb)];exact hvs j v hj)
   (λj hj=>by rw[hWc,yBx];exact hsp1 _ (by omega)) (λj hj=>by rw[hWf,hW1,World.frozen?_setCells,yBx];exact hfz _ (by omega)) h1v
  rwa[hmin2] at h
 rw[<-hW1] at hcp1;obtain ⟨_,_,FG⟩:=L.f22
 go_enter FG,Body2.n22_ntmps ρ
 go_wp2_with (simp only[hov])
 go_region_law_o (refine step_copy_runI rfl _ _ (ρ.t 24) (ρ.t 24) rfl _ _ (by simp[Act.eval,Act.put]) (by simp[Act.eval,Act.put]) (hcp1 _ _ _) ?_)
 go_wp2_with (at_builtin;refine wpList_copy_runI _ rfl _ _ (ρ.t 24) (ρ.t 24) rfl _ _ rfl rfl (hcp2 _ (λ_=>rfl) (λ_=>rfl) _ _) ?_)
 go_ret
 first|exact ⟨rfl,rfl⟩|exact ⟨rfl,by rw[hW1]⟩
set_option maxHeartbeats 4000000 in
theorem ztW(L:InsLays P ρ){i0:TypeInfo}{z:Value}(hi0:P.info? (ρ.t 9)=some i0)(hz0:i0.zero=some z)(hzs:i0.size=3)(hzz:z.cells.size=3)(b off n c i m vc:Nat)(va:Addr)(cs vs:List Value)(w:World)(hi:i<n)(hm:0<m)(hnc:n<=c)(hroom:c<n+m)(hbig:(n+m)*i0.bytes<=140737488355328)(hb63:n+m<=4611686018427387904)
  (hcl:cs.length=n*3) (hvl:vs.length=m*3)
  (hcs:∀j v,cs[j]?=some v->w.cell? ⟨b,off+j,none⟩=some v)
  (hvs:∀j v,vs[j]?=some v->w.cell? (va.add j)=some v) (_:va.block<w.heap.size) (h1c:∀v∈cs,v.oneCell'=true) (h1v:∀v∈vs,v.oneCell'=true) :
  Calls P (ρ.f 22) #[.slice (some ⟨b,off,none⟩) n c,.int .i64 i,.slice (some va) m vc] w λe w' =>
   e= .returned (.slice (some ⟨w.heap.size,0,none⟩) (n+m) (grownCap w (n+m) c (ρ.t 9))) /\
   w'=(((w.alloc (.cells ((cs.take (i*3)).toArray++Builtin.zeroCells z.cells (n+m - i)++Builtin.zeroCells z.cells (grownCap w (n+m) c (ρ.t 9) - (n+m))) (ρ.t 9))).drew.setCells w.heap.size (i*3) vs).drew).setCells w.heap.size ((i+m)*3) (cs.drop (i*3)):=by
 have t0:=L.t0;have a0:=L.a0;have z0:=L.z0;have v0:=L.v0;have t3:=L.t3;have a3:=L.a3;have z3:=L.z3;have v3:=L.v3;have t4:=L.t4;have a4:=L.a4;have z4:=L.z4;have v4:=L.v4;have z9:=L.z9;have t24:=L.t24;have a24:=L.a24;have z24:=L.z24;have v24:=L.v24;have u0:=run_underlying L.t0;have u3:=run_underlying L.t3;have u4:=run_underlying L.t4;have u24:=run_underlying L.t24;have mixed:=L.mixed;have hz1:¬((m:Int)=0):=by omega
 have hz2:¬((i:Int)=(n:Int)):=by omega
 have hz3:(c:Int)<(n:Int)+(m:Int):=by omega
 have hsz:(P.info? (ρ.t 9)).map (·.size)=some 3:=by rw[hi0];simp[hzs]
 have hbw:b<w.heap.size:=block_lt_of_cell (hcs 0 _ (yAe (by omega)));have hkk:(n:Int)+(m:Int) - (i:Int)=((n+m - i:Nat):Int):=by omega
 have hik:i+(n+m - i)=n+m:=by omega
 have hold:(Builtin.firstCells i0.size i (.slice (some ⟨b,off,none⟩) i c)).run P w.drew= .ok (cs.take (i*3)).toArray w.drew:=by
  rw[hzs];exact run_firstCells_some w.drew 3 i ⟨b,off,none⟩ i c (cs.take (i*3)) (by rw[yAY];omega) (λj v hj=>by
   rw[Addr.add_lit];rw[yAD] at hj;split at hj;·exact hcs j v hj
   ·cases hj)
 have hle:(n+m - i)*i0.bytes<=281474976710656:=by have:(n+m - i)*i0.bytes<=(n+m)*i0.bytes:=yAs _ (by omega);omega
 have hrz:∀ty,(Builtin.append_ #[(ρ.t 24),(ρ.t 3)] ty #[.slice (some ⟨b,off,none⟩) i c,.int .i64 ((n:Int)+(m:Int) - (i:Int))]).run P w =
   .ok (.slice (some ⟨w.heap.size,0,none⟩) (n+m) (grownCap w (n+m) c (ρ.t 9))) (w.drew.alloc (.cells ((cs.take (i*3)).toArray++Builtin.zeroCells z.cells (n+m - i)++Builtin.zeroCells z.cells (grownCap w (n+m) c (ρ.t 9) - (n+m))) (ρ.t 9))):=λty=>by
  have h:=Lib.run_append_grow_zeros w (ρ.t 24) (ρ.t 3) ty (ρ.t 9) i0 _ .i64 .i64 L.t24 L.t3 hi0 hz0 (some ⟨b,off,none⟩) i c (cs.take (i*3)) hold (n+m - i) (by omega) (by omega) (by omega) (by omega) hle (by rw[hik];exact growslice_fits hroom hbig);rw[hik] at h;rw[hkk];exact h
 have hGn:n+m<=grownCap w (n+m) c (ρ.t 9):=grownCap_ge w _ _ _;have hG63:grownCap w (n+m) c (ρ.t 9)<=9223372036854775807:=by have:=grownCap_le_maxLen w (n+m) c (ρ.t 9) (by unfold maxLen;omega);unfold maxLen at this;omega
 obtain ⟨G,hG⟩:∃G,G=grownCap w (n+m) c (ρ.t 9):=⟨_,rfl⟩;rw[<-hG] at hGn hG63;obtain ⟨ROW,hROW⟩:∃ROW:Array Value,ROW=(cs.take (i*3)).toArray++Builtin.zeroCells z.cells (n+m - i)++Builtin.zeroCells z.cells (G - (n+m)):=⟨_,rfl⟩;rw[<-hG] at hrz ⊢;rw[<-hROW] at hrz ⊢;have hRl:(n+m)*3<=ROW.size:=by rw[hROW];simp only[Array.size_append,List.size_toArray,size_zeroCells,hzz,yAY];omega
 obtain ⟨W1,hW1⟩:∃W1,W1=w.drew.alloc (.cells ROW (ρ.t 9)):=⟨_,rfl⟩;rw[<-hW1] at hrz;have hN:∀j,j<(n+m)*3->(W1.cell? ⟨w.heap.size,j,none⟩).isSome=true:=λj hj=>by rw[hW1,World.cell?_alloc_at (w:=w.drew) ROW _ w.heap.size j rfl,yCe (by omega)];rfl
 have hNf:∀j,W1.frozen? ⟨w.heap.size,j,none⟩=false:=λj=>by rw[hW1];exact World.frozen?_alloc_at (w:=w.drew) ROW _ w.heap.size j rfl
 have hOb:∀j v,w.cell? ⟨b,j,none⟩=some v->W1.cell? ⟨b,j,none⟩=some v:=λj v h=>by rw[hW1,World.cell?_alloc_past (w:=w.drew) _ b j hbw];exact h
 have hOv:∀x v,w.cell? x=some v->W1.cell? x=some v:=λx v h=>by rw[hW1];exact Lib.cell?_alloc_some (W:=w.drew) _ h
 have hmA:Nat.min m (n+m - i)=m:=by simp only[Nat.min_def];split<;>omega
 have hcpA:∀(W:World),(∀x,W.cell? x=W1.cell? x)->(∀x,W.frozen? x=W1.frozen? x)->∀ty dc,(Builtin.copy_ #[(ρ.t 24),(ρ.t 24)] ty #[.slice (some ⟨w.heap.size,i*3,none⟩) (n+m - i) dc,.slice (some va) m vc]).run P W= .ok (goInt m) (W.setCells w.heap.size (i*3) vs):=λW hWc hWf ty dc=>by
  have h:=ztl W _ (ρ.t 24) ty (ρ.t 9) w.heap.size (i*3) (n+m - i) dc va m vc vs L.t24 hsz (by rw[hvl,hmA])
   (λj v hj=>by rw[hWc];exact hOv _ v (hvs j v hj))
   (λj hj=>by rw[hWc];exact hN _ (by omega)) (λj hj=>by rw[hWf];exact hNf _) h1v
  rwa[hmA] at h
 have hGi:¬(G=i):=by omega
 have hGim:¬(G=i+m):=by omega
 have hci:¬(c=i):=by omega
 have hbN:b≠w.heap.size:=by omega
 have hdl:(cs.drop (i*3)).length=(n - i)*3:=by rw[yAL,hcl];omega
 have hmB:Nat.min (n - i) (n+m - (i+m))=n - i:=by simp only[Nat.min_def];split<;>omega
 have hcpB:∀(W:World),(∀x,W.cell? x=(W1.setCells w.heap.size (i*3) vs).cell? x)->(∀x,W.frozen? x=(W1.setCells w.heap.size (i*3) vs).frozen? x)->∀ty dc sc,(Builtin.copy_ #[(ρ.t 24),(ρ.t 24)] ty #[.slice (some ⟨w.heap.size,(i+m)*3,none⟩) (n+m - (i+m)) dc,.slice (some ⟨b,off+i*3,none⟩) (n - i) sc]).run P W= .ok (goInt ((n - i:Nat))) (W.setCells w.heap.size ((i+m)*3) (cs.drop (i*3))):=λW hWc hWf ty dc sc=>by
  have h:=ztl W _ (ρ.t 24) ty (ρ.t 9) w.heap.size ((i+m)*3) (n+m - (i+m)) dc ⟨b,off+i*3,none⟩ (n - i) sc (cs.drop (i*3)) L.t24 hsz (by rw[hdl,hmB])
   (λj v hj=>by rw[Addr.add_lit,hWc,World.cell?_setCells_out _ _ _ _ _ (λh _=>absurd h hbN),yBx];exact hOb _ v (hcs (i*3+j) v (by rwa[yAu] at hj)))
   (λj hj=>by rw[hWc];exact isSome_setCells _ _ _ _ (λt ht=>hN _ (by omega)) _ (hN _ (by omega)))
   (λj hj=>by rw[hWf,World.frozen?_setCells];exact hNf _) (λv hv=>h1c v (List.mem_of_mem_drop hv))
  rwa[hmB] at h
 subst hW1;have hE1:∀x,((w.alloc (.cells ROW (ρ.t 9))).drew).cell? x=(w.drew.alloc (.cells ROW (ρ.t 9))).cell? x:=λx=>rfl;have hE2:∀x,((w.alloc (.cells ROW (ρ.t 9))).drew).frozen? x=(w.drew.alloc (.cells ROW (ρ.t 9))).frozen? x:=λx=>rfl;have hF1:∀x,(((w.alloc (.cells ROW (ρ.t 9))).drew.setCells w.heap.size (i*3) vs).drew).cell? x=((w.drew.alloc (.cells ROW (ρ.t 9))).setCells w.heap.size (i*3) vs).cell? x:=λx=>rfl;have hF2:∀x,(((w.alloc (.cells ROW (ρ.t 9))).drew.setCells w.heap.size (i*3) vs).drew).frozen? x=((w.drew.alloc (.cells ROW (ρ.t 9))).setCells w.heap.size (i*3) vs).frozen? x:=λx=>rfl;have hw1:IntKind.i64.wrap ((i:Int)+(m:Int))=(i:Int)+(m:Int):=by rw[IntKind.wrap_i64];omega
 have hb1:(0:Int)<=(i:Int)+(m:Int):=by omega
 have hin:i<=n:=by omega
 have htn:((i:Int)+(m:Int)).toNat=i+m:=by omega
 have hb3:(i:Int)<=(n:Int):=by omega
 clear hkk hik hold hROW hG hRl;obtain ⟨_,_,FG⟩:=L.f22
 go_enter FG,Body2.n22_ntmps ρ
 go_wp2_with (first
  |(at_builtin;refine Lib.wpList_append_run _ rfl _ _ _ _ rfl _ _ rfl rfl _ _ (hrz _) ?_)
  |(at_builtin;refine wpList_copy_runI _ rfl _ _ (ρ.t 24) (ρ.t 24) rfl _ _ rfl rfl (hcpA _ hE1 hE2 _ _) ?_)
  |(at_builtin;refine wpList_copy_runI _ rfl _ _ (ρ.t 24) (ρ.t 24) rfl _ _ rfl rfl (hcpB _ (λ_=>rfl) (λ_=>rfl) _ _ _) ?_))
 go_region_law_o (refine step_copy_runI rfl _ _ (ρ.t 24) (ρ.t 24) rfl (.slice (some ⟨w.heap.size,(i+m)*3,none⟩) (n+m - (i+m)) (G - (i+m))) (.slice (some ⟨b,off+i*3,none⟩) (n - i) (c - i)) (by simp[Act.eval,Act.put]) (by simp[Act.eval,Act.put]) (hcpB _ hF1 hF2 (ρ.t 3) (G - (i+m)) (c - i)) ?_)
 go_wp2
 go_ret
 exact ⟨rfl,rfl⟩
theorem ztv{w:World}{a:Addr}{v:Value}(h:w.cell? a=some v):∃oa Ta fa,w.heap[a.block]?=some (.cells oa Ta fa)/\oa.size≠0:=by
 unfold World.cell? at h;split at h;·rename_i oa Ta fa hh;refine ⟨oa,Ta,fa,hh,?_⟩;intro h0;have:oa= #[]:=Array.eq_empty_of_size_eq_zero h0;grind
 ·cases h
theorem ztE{c xs vs:List Value}{n i:Nat}(hx:xs.length=n*3)(hv:vs.length=3)(hi:i<=n)
  (h1:∀k,k<i*3->c[k]?=xs[k]?) (h2:∀k,i*3<=k->k<i*3+3->c[k]?=vs[k - i*3]?) (h3:∀k,i*3+3<=k->k<(n+1)*3->c[k]?=xs[k - 3]?) :
  c.take ((n+1)*3)=xs.take (i*3)++vs++xs.drop (i*3):=by
 apply yAW;intro k;have hl1:(xs.take (i*3)).length=i*3:=by rw[yAY];omega
 have hl2:(xs.take (i*3)++vs).length=i*3+3:=by simp_all
 by_cases hk:k<(n+1)*3
 ·rw[yAt hk];by_cases ha:k<i*3;·simp_all[yAk]
  ·by_cases hb:k<i*3+3;·rw[yAk (by omega),yAF (by omega),hl1];grind
   ·rw[yAF (by omega),hl2,yAu,h3 k (by omega) hk];congr 1;omega
 ·rw[yAZ (by rw[yAY];omega)];symm;rw[yAZ];rw[yAI,hl2,yAL];omega
open Pe in
set_option maxHeartbeats 4000000 in
theorem ins_own(L:InsLays P ρ){i0:TypeInfo}{z:Value}(hi0:P.info? (ρ.t 9)=some i0)(hz0:i0.zero=some z)(hzs:i0.size=3)(hzz:z.cells.size=3)(hby:i0.bytes<=32768){v:Value}{n:Nat}{xs:List Value}{w:World}(hown:w.ownsRow 0 (ρ.t 9) 3 v n xs)(hone:∀u∈xs,u.oneCell'=true)
  {i vc:Nat} (hi:i<=n) (hn:n<=1000000) {va:Addr} {vs:List Value} (hvl:vs.length=3) (hvs:∀j u,vs[j]?=some u->w.cell? (va.add j)=some u) (h1v:∀u∈vs,u.oneCell'=true) (hva:∀g,v.ownBlock=some g->va.block≠g) :
  Calls P (ρ.f 22) #[v,.int .i64 i,.slice (some va) 1 vc] w λe w'=>∃v',e= .returned v'/\w'.ownsRow 0 (ρ.t 9) 3 v' (n+1) (xs.take (i*3)++vs++xs.drop (i*3))/\w.grownBy w' v.ownBlock/\(v'.ownBlock=v.ownBlock\/v'.ownBlock=some w.heap.size):=by
 have hbig:(n+1)*i0.bytes<=140737488355328:=by
  have:(n+1)*i0.bytes<=1000001*32768:=yCi (by omega) hby
  omega
 obtain ⟨oa,Ta,fa,hoa,hoz⟩:=ztv (hvs 0 _ (yAe (by omega)));rw[zts] at hoa;have hvw:va.block<w.heap.size:=(yAE.1 hoa).1;have hxl:=hown.1;by_cases hin:i=n
 ·subst hin;obtain ⟨v',w',hr,h1,h2,_,h4⟩:=run_append_own_at (P:=P) (w:=w) 0 (ρ.t 24) (ρ.t 24) (ρ.t 9) i0 z 3 i0.bytes L.t24 hi0 hz0 hzs rfl hzz (by decide) v i xs hown va 1 vc vs (by rw[hvl]) hvs h1v (by grind[maxLen]) hbig (yAA _);have hfin:xs++vs=xs.take (i*3)++vs++xs.drop (i*3):=by
   rw[<-hxl,List.take_length,List.drop_length,yAR]
  rw[hfin] at h1;have hw:Calls P (ρ.f 22) #[v,.int .i64 i,.slice (some va) 1 vc] w λe w''=>e= .returned v'/\w''=w':=by
   have t0:=L.t0;have a0:=L.a0;have z0:=L.z0;have v0:=L.v0;have t3:=L.t3;have a3:=L.a3;have z3:=L.z3;have v3:=L.v3;have t4:=L.t4;have a4:=L.a4;have z4:=L.z4;have v4:=L.v4;have z9:=L.z9;have t24:=L.t24;have a24:=L.a24;have z24:=L.z24;have v24:=L.v24;have u0:=run_underlying L.t0;have u3:=run_underlying L.t3;have u4:=run_underlying L.t4;have u24:=run_underlying L.t24;have mixed:=L.mixed;have hi63:i<=9223372036854775807:=(by omega);rcases hown.2 with ⟨rfl,rfl⟩|⟨g,cap,cur,rfl,hg0,hg,hnc,hcm,hcs,htk⟩
   ·clear h1 h2 h4 hfin hvs h1v hone hva hown hxl;obtain ⟨_,_,FG⟩:=L.f22
    go_enter FG,Body2.n22_ntmps ρ
    go_wp2_with (at_builtin;refine Lib.wpList_append_run _ rfl _ _ _ _ rfl _ _ rfl rfl _ _ hr ?_)
    go_ret
    simp_all
   ·have hc63:cap<=9223372036854775807:=(by grind[maxLen]);clear h1 h2 h4 hfin hvs h1v hone hva hown hxl;obtain ⟨_,_,FG⟩:=L.f22
    go_enter FG,Body2.n22_ntmps ρ
    go_wp2_with (at_builtin;refine Lib.wpList_append_run _ rfl _ _ _ _ rfl _ _ rfl rfl _ _ hr ?_)
    all_goals (go_ret;simp_all)
  refine Calls.mono hw ?_
  simp_all
 ·have hi':i<n:=by omega
  rcases hown.2 with ⟨_,hn0⟩|⟨g,cap,cur,rfl,hg0,hg,hnc,hcm,hcs,htk⟩;·omega
  have hcell:∀q,w.cell? ⟨g,0+q,none⟩=cur.toList[q]? :=λq=>by simp[World.cell?,hg]
  have hxs:∀q,q<n*3->xs[q]?=cur.toList[q]? :=λq hq=>by rw[<-htk,yAt hq]
  have hxc:∀j u,xs[j]?=some u->w.cell? ⟨g,0+j,none⟩=some u:=λj u hj=>by have:j<xs.length:=(yAc.1 hj).1;rw[hcell,<-hxs j (by omega),hj]
  have hcz:cur.size≠0:=by have:n*3<=cap*3:=yAs _ hnc;omega
  have hne:va.block≠g:=hva g rfl;have hg':w.drew.heap[g]?=some (.cells cur.toList.toArray (ρ.t 9) (0,0)):=by show w.heap[g]?=_;simpa using hg
  have hd0:w.grownBy w.drew (some g):=⟨rfl,rfl,rfl,yAi _,λ_ _ _=>rfl⟩;have hdl:(xs.drop (i*3)).length=(n - i)*3:=by rw[yAL,hxl];omega
  by_cases hroom:n+1<=cap
  ·have hcl:(n+1)*3<=cur.toList.length:=by
    have:(n+1)*3<=cap*3:=yAs _ hroom;rw[Array.length_toList];omega
   refine Calls.mono (ztL L (by rw[hi0];simp[hzs]) g 0 n cap i 1 vc va xs vs w hi' (by decide) hroom (by unfold maxLen at hcm;omega) hne hxl (by rw[hvl]) hxc (λj hj=>by rw[hcell,yAe (by omega)];rfl) (λj hj=>by simp[World.frozen?,hg]) hvs hone h1v hoa hg hcz hoz) ?_
   rintro x w' ⟨rfl,rfl⟩
   obtain ⟨a1,a2⟩:=zbq g (ρ.t 9) (0,0) (xs.drop (i*3)) cur.toList (0+(i+1)*3) w.drew hg';obtain ⟨b1,b2⟩:=zbq g (ρ.t 9) (0,0) vs _ (0+i*3) _ a1;have hs1:∀k,(zaV.spliceV cur.toList (0+(i+1)*3) (xs.drop (i*3)))[k]?=if 0+(i+1)*3<=k/\k<0+(i+1)*3+(xs.drop (i*3)).length then (xs.drop (i*3))[k - (0+(i+1)*3)]? else cur.toList[k]? :=λk=>zaN (by omega) k
   have hs2:∀k,(zaV.spliceV (zaV.spliceV cur.toList (0+(i+1)*3) (xs.drop (i*3))) (0+i*3) vs)[k]?=if 0+i*3<=k/\k<0+i*3+vs.length then vs[k - (0+i*3)]? else (zaV.spliceV cur.toList (0+(i+1)*3) (xs.drop (i*3)))[k]? :=λk=>zaN (by rw[zaF];omega) k
   refine ⟨_,rfl,⟨?_,.inr ⟨g,cap,_,rfl,yAA _,b1,hroom,hcm,?_,?_⟩⟩,(hd0.trans a2).trans b2,.inl rfl⟩;·rw[yAI,yAI,yAY,hvl,hdl];omega
   ·rw[List.size_toArray,zaF,zaF,Array.length_toList];exact hcs
   ·rw[List.toList_toArray];refine ztE hxl hvl hi (λk hk=>?_) (λk h1 h2=>?_) (λk h1 h2=>?_);·rw[hs2,if_neg (by omega),hs1,if_neg (by omega),hxs k (by omega)]
    ·rw[hs2,if_pos (by omega),yAJ]
    ·rw[hs2,if_neg (by omega),hs1,if_pos (by omega),yAu];congr 1;omega
  ·refine Calls.mono (ztW L hi0 hz0 hzs hzz g 0 n cap i 1 vc va xs vs w hi' (by decide) hnc (by omega) hbig (by omega) hxl (by rw[hvl]) hxc hvs hvw hone h1v) ?_
   rintro x w' ⟨rfl,rfl⟩
   obtain ⟨G,hG⟩:∃G,G=grownCap w (n+1) cap (ρ.t 9):=⟨_,rfl⟩;have hGn:n+1<=G:=by rw[hG];exact grownCap_ge w _ _ _
   have hGm:G<=maxLen:=(by rw[hG];exact grownCap_le_maxLen w (n+1) cap (ρ.t 9) (by unfold maxLen;omega));rw[<-hG];obtain ⟨ROW,hROW⟩:∃ROW:Array Value,ROW=(xs.take (i*3)).toArray++Builtin.zeroCells z.cells (n+1 - i)++Builtin.zeroCells z.cells (G - (n+1)):=⟨_,rfl⟩;rw[<-hROW];have hRs:ROW.size=G*3:=by rw[hROW];simp only[Array.size_append,List.size_toArray,size_zeroCells,hzz,yAY,hxl];omega
   have hRl:∀k,k<i*3->ROW.toList[k]?=xs[k]? :=λk hk=>by
    rw[hROW];have hl:(xs.take (i*3)).length=i*3:=by rw[yAY];omega
    rw[Array.toList_append,Array.toList_append,yA5,yAk (by rw[List.toList_toArray];omega),List.toList_toArray,yAt hk]
   have hA:((w.alloc (.cells ROW (ρ.t 9))).drew).heap[w.heap.size]?=some (.cells ROW.toList.toArray (ρ.t 9) (0,0)):=(by show (w.heap.push (Obj.cells ROW (ρ.t 9)))[w.heap.size]?=_;simp);obtain ⟨a1,a2⟩:=zbq w.heap.size (ρ.t 9) (0,0) vs ROW.toList (i*3) _ hA;have a1':(((w.alloc (.cells ROW (ρ.t 9))).drew.setCells w.heap.size (i*3) vs).drew).heap[w.heap.size]?=some (.cells (zaV.spliceV ROW.toList (i*3) vs).toArray (ρ.t 9) (0,0)):=a1;obtain ⟨b1,b2⟩:=zbq w.heap.size (ρ.t 9) (0,0) (xs.drop (i*3)) _ ((i+1)*3) _ a1';have hGl:(n+1)*3<=ROW.toList.length:=by have:(n+1)*3<=G*3:=yAs _ hGn;rw[Array.length_toList];omega
   have hs1:∀k,(zaV.spliceV ROW.toList (i*3) vs)[k]?=if i*3<=k/\k<i*3+vs.length then vs[k - i*3]? else ROW.toList[k]? :=λk=>zaN (by omega) k
   have hs2:∀k,(zaV.spliceV (zaV.spliceV ROW.toList (i*3) vs) ((i+1)*3) (xs.drop (i*3)))[k]?=if (i+1)*3<=k/\k<(i+1)*3+(xs.drop (i*3)).length then (xs.drop (i*3))[k - (i+1)*3]? else (zaV.spliceV ROW.toList (i*3) vs)[k]? :=λk=>zaN (by rw[zaF];omega) k
   have g0:w.grownBy ((w.alloc (.cells ROW (ρ.t 9))).drew) (some g):=⟨rfl,rfl,rfl,by simp,λk hk _=>by show (w.heap.push _)[k]?=_;rw[Array.getElem?_push_lt hk,yCe hk]⟩;have hpush:∀{a b:World},w.heap.size<=a.heap.size->a.grownBy b (some w.heap.size)->w.grownBy a (some g)->w.grownBy b (some g):=λ{a b} _ h2 h1=>h1.andThen h2 (λj hj=>by simp at hj;exact .inl (by omega));refine ⟨_,rfl,⟨?_,.inr ⟨w.heap.size,G,_,rfl,yAA _,b1,hGn,hGm,?_,?_⟩⟩,?_,.inr rfl⟩;·rw[yAI,yAI,yAY,hvl,hdl];omega
   ·rw[List.size_toArray,zaF,zaF,Array.length_toList];exact hRs
   ·rw[List.toList_toArray];refine ztE hxl hvl hi (λk hk=>?_) (λk h1 h2=>?_) (λk h1 h2=>?_);·rw[hs2,if_neg (by omega),hs1,if_neg (by omega),hRl k hk]
    ·rw[hs2,if_neg (by omega),hs1,if_pos (by omega)]
    ·rw[hs2,if_pos (by omega),yAu];congr 1;omega
   ·have e1:=hpush g0.size a2 g0;exact hpush (b:=_) (a:=((w.alloc (.cells ROW (ρ.t 9))).drew.setCells w.heap.size (i*3) vs).drew) e1.size b2 (e1.trans ⟨rfl,rfl,rfl,yAi _,λ_ _ _=>rfl⟩)
end Go.Proofs.Ins3
end
section
/- slices.Insert of elements of 10 cells into a row: what it does, in three roads. -/
set_option maxRecDepth 100000
namespace Go.Proofs.Ins10
open Go.Proofs
open Go.Shelf Go.RowKit Go.Lib
variable{P:Program}{ρ:Ren}
structure InsLays (P:Program) (ρ:Ren):Prop where
 mixed:P.follows .mixedOrders=true
 f22:Bears P (ρ.f 22) (Body2.n22 ρ)
 f29:∀(args:Array Value)(w:World),(callFunc (ρ.f 29) args).run P w=((Extern.SlicesOverlaps.overlaps #[ρ.t 24,ρ.t 24] #[ρ.t 4] args).run P w).andThen λv w'=>.ok (.value v) w'
 t0:P.underlying (ρ.t 0)=some (TypeDesc.tuple #[])
 a0:∀w,(isAgg (ρ.t 0)).run P w= .ok false w
 z0:∀w,(Go.sizeOf (ρ.t 0)).run P w= .ok 1 w
 v0:∀w,(zeroValue (ρ.t 0)).run P w= .ok (Value.tuple #[]) w
 t3:P.underlying (ρ.t 3)=some (TypeDesc.int IntKind.i64)
 a3:∀w,(isAgg (ρ.t 3)).run P w= .ok false w
 z3:∀w,(Go.sizeOf (ρ.t 3)).run P w= .ok 1 w
 v3:∀w,(zeroValue (ρ.t 3)).run P w= .ok (Value.int IntKind.i64 0) w
 t4:P.underlying (ρ.t 4)=some (TypeDesc.bool)
 a4:∀w,(isAgg (ρ.t 4)).run P w= .ok false w
 z4:∀w,(Go.sizeOf (ρ.t 4)).run P w= .ok 1 w
 v4:∀w,(zeroValue (ρ.t 4)).run P w= .ok (Value.bool false) w
 t24:P.underlying (ρ.t 24)=some (TypeDesc.slice (ρ.t 9))
 a24:∀w,(isAgg (ρ.t 24)).run P w= .ok false w
 z24:∀w,(Go.sizeOf (ρ.t 24)).run P w= .ok 1 w
 v24:∀w,(zeroValue (ρ.t 24)).run P w= .ok (Value.slice none 0 0) w
 z9:∀w,(Go.sizeOf (ρ.t 9)).run P w= .ok 10 w
theorem zts(a:Addr)(n:Nat):(a.add n).block=a.block:=by grind[Addr.add]
theorem ztl(w:World)(dT sT ty elem:TypeId)(b o dLen dCap:Nat)(a:Addr)(sLen sCap:Nat)(cs:List Value)
  (hu:P.underlying dT=some (.slice elem)) (hs:(P.info? elem).map (·.size)=some 10) (hn:cs.length=Nat.min sLen dLen*10)
  (hsrc:∀j v,cs[j]?=some v->w.cell? (a.add j)=some v) (hc:∀j,j<cs.length->(w.cell? ⟨b,o+j,none⟩).isSome=true) (hf:∀j,j<cs.length->w.frozen? ⟨b,o+j,none⟩=false) (h1:∀v∈cs,v.oneCell'=true) :
  (Builtin.copy_ #[dT,sT] ty #[.slice (some ⟨b,o,none⟩) dLen dCap,.slice (some a) sLen sCap]).run P w= .ok (goInt (Nat.min sLen dLen)) (w.setCells b o cs):=by
 have hl:=run_loadCells_list (P:=P) w a cs hsrc;have hst:=run_storeCells_cells (P:=P) b o cs 0 w (by grind) (by grind) h1;cases hq:P.info? elem with
 |none=>grind|some i =>simp_all[Builtin.copy_,Builtin.lenOf,Builtin.firstCells,sizeOf,typeInfo,run_underlying]
theorem zto(w:World)(tS tR e:TypeId)(ht:P.underlying tS=some (.slice e))(size:Nat)(hz:∀w,(Go.sizeOf e).run P w= .ok size w)
  (a b:Addr) (la ca lb cb:Nat) (hne:a.block≠b.block) {oa:Array Value} {Ta:TypeId} {fa:Nat×Nat} (ha:w.heap[a.block]?=some (.cells oa Ta fa)) {ob:Array Value} {Tb:TypeId} (hb:w.heap[b.block]?=some (.cells ob Tb (0,0))) (h0:ob.size≠0) (h0a:oa.size≠0) :
  (Extern.SlicesOverlaps.overlaps #[tS,tS] #[tR] #[.slice (some a) la ca,.slice (some b) lb cb]).run P w= .ok (.bool false) w:=by
 have hsa:w.shape? a.block=some (Ta,oa.size):=by simp[World.shape?,ha]
 have hsb:w.shape? b.block=some (Tb,ob.size):=by simp[World.shape?,hb]
 have hfb:w.frozen? b=false:=by simp[World.frozen?,hb]
 have hfe:∀k s,w.frozen? ⟨b.block,k,s⟩=false:=λk s=>by simp[World.frozen?,hb]
 have hnb:(a.block != b.block)=true:=by grind
 have hnb':(a.block==b.block)=false:=by grind
 change Sem.run P (α:=Value) (do
  let some t := (#[tS, tS] : Array TypeId)[0]? | stuck "slices.overlaps: no parameter types"
  let .slice elem ← underlying t | stuck "slices.overlaps: slice type expected"
  let size <-sizeOf elem
  match (some a:Option Addr),(some b:Option Addr) with
  |some a,some b =>
    if la=0\/lb=0\/size=0 then pure (Value.bool false)
    else if a.block != b.block&&(<-frozen a)&&(<-frozen b) then unsupported .addressObserved
    else do
     if a.block != b.block then do
      noView a;noView b
      if ← mayBeOne a b then return Value.bool ((← choose (.extern "sameAddr.stringBytes" 2)) == 1)
     pure (Value.bool (a.block==b.block&&a.off<b.off+lb*size&&b.off<a.off+la*size))
  |_,_=>pure (Value.bool false)) w=_
 by_cases h1:la=0\/lb=0\/size=0;·simp[run_underlying ht,hz,h1]
 ·obtain ⟨kB,hk⟩:∃kB,ob.size=kB+1:=⟨ob.size - 1,by omega⟩;rw[hk] at hsb;obtain ⟨kA,hka⟩:∃kA,oa.size=kA+1:=⟨oa.size - 1,by omega⟩;rw[hka] at hsa
  cases hfa:w.frozen? a<;>cases hfe':w.frozen? { block:=a.block,off:=kA+1 } <;>
   simp[run_underlying ht,hz,h1,hnb,hnb',frozen,noView,viewAt,mayBeOne,stringish,shape,Sem.run,hsa,hsb,hfa,hfb,hfe,hfe']
set_option maxHeartbeats 4000000 in
theorem ztL(L:InsLays P ρ)(hinf:(P.info? (ρ.t 9)).map (·.size)=some 10)(b off n c i m vc:Nat)(va:Addr)(cs vs:List Value)(w:World)(hi:i<n)(hm:0<m)(hroom:n+m<=c)(hc63:c<=9223372036854775807)(hvb:va.block≠b)
  (hcl:cs.length=n*10) (hvl:vs.length=m*10)
  (hcs:∀j v,cs[j]?=some v->w.cell? ⟨b,off+j,none⟩=some v) (hsp:∀j,j<(n+m)*10->(w.cell? ⟨b,off+j,none⟩).isSome=true) (hfz:∀j,j<(n+m)*10->w.frozen? ⟨b,off+j,none⟩=false)
  (hvs:∀j v,vs[j]?=some v->w.cell? (va.add j)=some v) (h1c:∀v∈cs,v.oneCell'=true) (h1v:∀v∈vs,v.oneCell'=true)
  {oa:Array Value} {Ta:TypeId} {fa:Nat×Nat} (ha:w.heap[va.block]?=some (.cells oa Ta fa)) {ob:Array Value} {Tb:TypeId} (hb:w.heap[b]?=some (.cells ob Tb (0,0))) (h0:ob.size≠0) (h0a:oa.size≠0) :
  Calls P (ρ.f 22) #[.slice (some ⟨b,off,none⟩) n c,.int .i64 i,.slice (some va) m vc] w λe w' =>
   e= .returned (.slice (some ⟨b,off,none⟩) (n+m) c)/\w'=(w.drew.setCells b (off+(i+m)*10) (cs.drop (i*10))).setCells b (off+i*10) vs:=by
 have t0:=L.t0;have a0:=L.a0;have z0:=L.z0;have v0:=L.v0;have t3:=L.t3;have a3:=L.a3;have z3:=L.z3;have v3:=L.v3;have t4:=L.t4;have a4:=L.a4;have z4:=L.z4;have v4:=L.v4;have z9:=L.z9;have t24:=L.t24;have a24:=L.a24;have z24:=L.z24;have v24:=L.v24;have u0:=run_underlying L.t0;have u3:=run_underlying L.t3;have u4:=run_underlying L.t4;have u24:=run_underlying L.t24;have hz1:¬((m:Int)=0):=by omega
 have hz2:¬((i:Int)=(n:Int)):=by omega
 have hov:∀lb cb,(callFunc (ρ.f 29) #[.slice (some va) m vc,.slice (some ⟨b,off+(i+m)*10,none⟩) lb cb]).run P w= .ok (.value (.bool false)) w:=λlb cb=>by
  rw[L.f29,
   zto w (ρ.t 24) (ρ.t 4) (ρ.t 9) L.t24 10 L.z9 va ⟨b,off+(i+m)*10,none⟩ m vc lb cb hvb ha hb h0 h0a]
  rfl
 have hdl:(cs.drop (i*10)).length=(n - i)*10:=by rw[yAL,hcl];omega
 have mixed:=L.mixed;have hw1:IntKind.i64.wrap ((i:Int)+(m:Int))=(i:Int)+(m:Int):=by grind[IntKind.wrap_i64]
 have hb1:(0:Int)<=(i:Int)+(m:Int):=by omega
 have hin:i<=n:=by omega
 have htn:((i:Int)+(m:Int)).toNat=i+m:=by omega
 have hb2:¬(c=i+m):=by omega
 have hb3:(i:Int)<=(n:Int)+(m:Int):=by omega
 have hb4:¬(c=i):=by omega
 have hmin:Nat.min (n+m - i) (n+m - (i+m))=n - i:=by grind
 have hcp1:∀ty dc sc,(Builtin.copy_ #[(ρ.t 24),(ρ.t 24)] ty #[.slice (some ⟨b,off+(i+m)*10,none⟩) (n+m - (i+m)) dc,.slice (some ⟨b,off+i*10,none⟩) (n+m - i) sc]).run P w.drew= .ok (goInt ((n - i:Nat))) (w.drew.setCells b (off+(i+m)*10) (cs.drop (i*10))):=λty dc sc=>by
  have h:=ztl w.drew _ (ρ.t 24) ty (ρ.t 9) b (off+(i+m)*10) (n+m - (i+m)) dc ⟨b,off+i*10,none⟩ (n+m - i) sc (cs.drop (i*10)) L.t24 hinf (by rw[hdl,hmin])
   (λj v hj=>by simp_all[Addr.add_lit,yBx])
   (λj hj=>by rw[yBx];exact hsp _ (by omega)) (λj hj=>by rw[yBx];exact hfz _ (by omega)) (λv hv=>h1c v (List.mem_of_mem_drop hv))
  grind
 obtain ⟨W1,hW1⟩:∃W1,W1=w.drew.setCells b (off+(i+m)*10) (cs.drop (i*10)):=⟨_,rfl⟩;have hsp1:∀k,k<(n+m)*10->(W1.cell? ⟨b,off+k,none⟩).isSome=true:=λk hk=>by rw[hW1];exact isSome_setCells b _ _ _ (λj hj=>by rw[yBx];exact hsp _ (by omega)) _ (hsp k hk)
 have hmin2:Nat.min m (n+m - i)=m:=by simp only[Nat.min_def];split<;>omega
 have hcp2:∀(W:World),(∀x,W.cell? x=W1.cell? x)->(∀x,W.frozen? x=W1.frozen? x)->∀ty dc,(Builtin.copy_ #[(ρ.t 24),(ρ.t 24)] ty #[.slice (some ⟨b,off+i*10,none⟩) (n+m - i) dc,.slice (some va) m vc]).run P W= .ok (goInt m) (W.setCells b (off+i*10) vs):=λW hWc hWf ty dc=>by
  have h:=ztl W _ (ρ.t 24) ty (ρ.t 9) b (off+i*10) (n+m - i) dc va m vc vs L.t24 hinf (by rw[hvl,hmin2])
   (λj v hj=>by rw[hWc,hW1,World.cell?_setCells_out b _ _ _ (va.add j) (λh _=>absurd ((zts va j).symm.trans h) hvb)];exact hvs j v hj)
   (λj hj=>by rw[hWc,yBx];exact hsp1 _ (by omega)) (λj hj=>by rw[hWf,hW1,World.frozen?_setCells,yBx];exact hfz _ (by omega)) h1v
  rwa[hmin2] at h
 rw[<-hW1] at hcp1;obtain ⟨_,_,FG⟩:=L.f22
 go_enter FG,Body2.n22_ntmps ρ
 go_wp2_with (simp only[hov])
 go_region_law_o (refine step_copy_runI rfl _ _ (ρ.t 24) (ρ.t 24) rfl _ _ (by simp[Act.eval,Act.put]) (by simp[Act.eval,Act.put]) (hcp1 _ _ _) ?_)
 go_wp2_with (at_builtin;refine wpList_copy_runI _ rfl _ _ (ρ.t 24) (ρ.t 24) rfl _ _ rfl rfl (hcp2 _ (λ_=>rfl) (λ_=>rfl) _ _) ?_)
 go_ret
 first|exact ⟨rfl,rfl⟩|exact ⟨rfl,by rw[hW1]⟩
set_option maxHeartbeats 4000000 in
theorem ztW(L:InsLays P ρ){i0:TypeInfo}{z:Value}(hi0:P.info? (ρ.t 9)=some i0)(hz0:i0.zero=some z)(hzs:i0.size=10)(hzz:z.cells.size=10)(b off n c i m vc:Nat)(va:Addr)(cs vs:List Value)(w:World)(hi:i<n)(hm:0<m)(hnc:n<=c)(hroom:c<n+m)(hbig:(n+m)*i0.bytes<=140737488355328)(hb63:n+m<=4611686018427387904)
  (hcl:cs.length=n*10) (hvl:vs.length=m*10)
  (hcs:∀j v,cs[j]?=some v->w.cell? ⟨b,off+j,none⟩=some v)
  (hvs:∀j v,vs[j]?=some v->w.cell? (va.add j)=some v) (_:va.block<w.heap.size) (h1c:∀v∈cs,v.oneCell'=true) (h1v:∀v∈vs,v.oneCell'=true) :
  Calls P (ρ.f 22) #[.slice (some ⟨b,off,none⟩) n c,.int .i64 i,.slice (some va) m vc] w λe w' =>
   e= .returned (.slice (some ⟨w.heap.size,0,none⟩) (n+m) (grownCap w (n+m) c (ρ.t 9))) /\
   w'=(((w.alloc (.cells ((cs.take (i*10)).toArray++Builtin.zeroCells z.cells (n+m - i)++Builtin.zeroCells z.cells (grownCap w (n+m) c (ρ.t 9) - (n+m))) (ρ.t 9))).drew.setCells w.heap.size (i*10) vs).drew).setCells w.heap.size ((i+m)*10) (cs.drop (i*10)):=by
 have t0:=L.t0;have a0:=L.a0;have z0:=L.z0;have v0:=L.v0;have t3:=L.t3;have a3:=L.a3;have z3:=L.z3;have v3:=L.v3;have t4:=L.t4;have a4:=L.a4;have z4:=L.z4;have v4:=L.v4;have z9:=L.z9;have t24:=L.t24;have a24:=L.a24;have z24:=L.z24;have v24:=L.v24;have u0:=run_underlying L.t0;have u3:=run_underlying L.t3;have u4:=run_underlying L.t4;have u24:=run_underlying L.t24;have mixed:=L.mixed;have hz1:¬((m:Int)=0):=by omega
 have hz2:¬((i:Int)=(n:Int)):=by omega
 have hz3:(c:Int)<(n:Int)+(m:Int):=by omega
 have hsz:(P.info? (ρ.t 9)).map (·.size)=some 10:=by rw[hi0];simp[hzs]
 have hbw:b<w.heap.size:=block_lt_of_cell (hcs 0 _ (yAe (by omega)));have hkk:(n:Int)+(m:Int) - (i:Int)=((n+m - i:Nat):Int):=by omega
 have hik:i+(n+m - i)=n+m:=by omega
 have hold:(Builtin.firstCells i0.size i (.slice (some ⟨b,off,none⟩) i c)).run P w.drew= .ok (cs.take (i*10)).toArray w.drew:=by
  rw[hzs];exact run_firstCells_some w.drew 10 i ⟨b,off,none⟩ i c (cs.take (i*10)) (by rw[yAY];omega) (λj v hj=>by
   rw[Addr.add_lit];rw[yAD] at hj;split at hj;·exact hcs j v hj
   ·cases hj)
 have hle:(n+m - i)*i0.bytes<=281474976710656:=by have:(n+m - i)*i0.bytes<=(n+m)*i0.bytes:=yAs _ (by omega);omega
 have hrz:∀ty,(Builtin.append_ #[(ρ.t 24),(ρ.t 3)] ty #[.slice (some ⟨b,off,none⟩) i c,.int .i64 ((n:Int)+(m:Int) - (i:Int))]).run P w =
   .ok (.slice (some ⟨w.heap.size,0,none⟩) (n+m) (grownCap w (n+m) c (ρ.t 9))) (w.drew.alloc (.cells ((cs.take (i*10)).toArray++Builtin.zeroCells z.cells (n+m - i)++Builtin.zeroCells z.cells (grownCap w (n+m) c (ρ.t 9) - (n+m))) (ρ.t 9))):=λty=>by
  have h:=Lib.run_append_grow_zeros w (ρ.t 24) (ρ.t 3) ty (ρ.t 9) i0 _ .i64 .i64 L.t24 L.t3 hi0 hz0 (some ⟨b,off,none⟩) i c (cs.take (i*10)) hold (n+m - i) (by omega) (by omega) (by omega) (by omega) hle (by rw[hik];exact growslice_fits hroom hbig);rw[hik] at h;rw[hkk];exact h
 have hGn:n+m<=grownCap w (n+m) c (ρ.t 9):=grownCap_ge w _ _ _;have hG63:grownCap w (n+m) c (ρ.t 9)<=9223372036854775807:=by have:=grownCap_le_maxLen w (n+m) c (ρ.t 9) (by unfold maxLen;omega);unfold maxLen at this;omega
 obtain ⟨G,hG⟩:∃G,G=grownCap w (n+m) c (ρ.t 9):=⟨_,rfl⟩;rw[<-hG] at hGn hG63;obtain ⟨ROW,hROW⟩:∃ROW:Array Value,ROW=(cs.take (i*10)).toArray++Builtin.zeroCells z.cells (n+m - i)++Builtin.zeroCells z.cells (G - (n+m)):=⟨_,rfl⟩;rw[<-hG] at hrz ⊢;rw[<-hROW] at hrz ⊢;have hRl:(n+m)*10<=ROW.size:=by rw[hROW];simp only[Array.size_append,List.size_toArray,size_zeroCells,hzz,yAY];omega
 obtain ⟨W1,hW1⟩:∃W1,W1=w.drew.alloc (.cells ROW (ρ.t 9)):=⟨_,rfl⟩;rw[<-hW1] at hrz;have hN:∀j,j<(n+m)*10->(W1.cell? ⟨w.heap.size,j,none⟩).isSome=true:=λj hj=>by rw[hW1,World.cell?_alloc_at (w:=w.drew) ROW _ w.heap.size j rfl,yCe (by omega)];rfl
 have hNf:∀j,W1.frozen? ⟨w.heap.size,j,none⟩=false:=λj=>by rw[hW1];exact World.frozen?_alloc_at (w:=w.drew) ROW _ w.heap.size j rfl
 have hOb:∀j v,w.cell? ⟨b,j,none⟩=some v->W1.cell? ⟨b,j,none⟩=some v:=λj v h=>by rw[hW1,World.cell?_alloc_past (w:=w.drew) _ b j hbw];exact h
 have hOv:∀x v,w.cell? x=some v->W1.cell? x=some v:=λx v h=>by rw[hW1];exact Lib.cell?_alloc_some (W:=w.drew) _ h
 have hmA:Nat.min m (n+m - i)=m:=by simp only[Nat.min_def];split<;>omega
 have hcpA:∀(W:World),(∀x,W.cell? x=W1.cell? x)->(∀x,W.frozen? x=W1.frozen? x)->∀ty dc,(Builtin.copy_ #[(ρ.t 24),(ρ.t 24)] ty #[.slice (some ⟨w.heap.size,i*10,none⟩) (n+m - i) dc,.slice (some va) m vc]).run P W= .ok (goInt m) (W.setCells w.heap.size (i*10) vs):=λW hWc hWf ty dc=>by
  have h:=ztl W _ (ρ.t 24) ty (ρ.t 9) w.heap.size (i*10) (n+m - i) dc va m vc vs L.t24 hsz (by rw[hvl,hmA])
   (λj v hj=>by rw[hWc];exact hOv _ v (hvs j v hj))
   (λj hj=>by rw[hWc];exact hN _ (by omega)) (λj hj=>by rw[hWf];exact hNf _) h1v
  rwa[hmA] at h
 have hGi:¬(G=i):=by omega
 have hGim:¬(G=i+m):=by omega
 have hci:¬(c=i):=by omega
 have hbN:b≠w.heap.size:=by omega
 have hdl:(cs.drop (i*10)).length=(n - i)*10:=by rw[yAL,hcl];omega
 have hmB:Nat.min (n - i) (n+m - (i+m))=n - i:=by simp only[Nat.min_def];split<;>omega
 have hcpB:∀(W:World),(∀x,W.cell? x=(W1.setCells w.heap.size (i*10) vs).cell? x)->(∀x,W.frozen? x=(W1.setCells w.heap.size (i*10) vs).frozen? x)->∀ty dc sc,(Builtin.copy_ #[(ρ.t 24),(ρ.t 24)] ty #[.slice (some ⟨w.heap.size,(i+m)*10,none⟩) (n+m - (i+m)) dc,.slice (some ⟨b,off+i*10,none⟩) (n - i) sc]).run P W= .ok (goInt ((n - i:Nat))) (W.setCells w.heap.size ((i+m)*10) (cs.drop (i*10))):=λW hWc hWf ty dc sc=>by
  have h:=ztl W _ (ρ.t 24) ty (ρ.t 9) w.heap.size ((i+m)*10) (n+m - (i+m)) dc ⟨b,off+i*10,none⟩ (n - i) sc (cs.drop (i*10)) L.t24 hsz (by rw[hdl,hmB])
   (λj v hj=>by rw[Addr.add_lit,hWc,World.cell?_setCells_out _ _ _ _ _ (λh _=>absurd h hbN),yBx];exact hOb _ v (hcs (i*10+j) v (by rwa[yAu] at hj)))
   (λj hj=>by rw[hWc];exact isSome_setCells _ _ _ _ (λt ht=>hN _ (by omega)) _ (hN _ (by omega)))
   (λj hj=>by rw[hWf,World.frozen?_setCells];exact hNf _) (λv hv=>h1c v (List.mem_of_mem_drop hv))
  rwa[hmB] at h
 subst hW1;have hE1:∀x,((w.alloc (.cells ROW (ρ.t 9))).drew).cell? x=(w.drew.alloc (.cells ROW (ρ.t 9))).cell? x:=λx=>rfl;have hE2:∀x,((w.alloc (.cells ROW (ρ.t 9))).drew).frozen? x=(w.drew.alloc (.cells ROW (ρ.t 9))).frozen? x:=λx=>rfl;have hF1:∀x,(((w.alloc (.cells ROW (ρ.t 9))).drew.setCells w.heap.size (i*10) vs).drew).cell? x=((w.drew.alloc (.cells ROW (ρ.t 9))).setCells w.heap.size (i*10) vs).cell? x:=λx=>rfl;have hF2:∀x,(((w.alloc (.cells ROW (ρ.t 9))).drew.setCells w.heap.size (i*10) vs).drew).frozen? x=((w.drew.alloc (.cells ROW (ρ.t 9))).setCells w.heap.size (i*10) vs).frozen? x:=λx=>rfl;have hw1:IntKind.i64.wrap ((i:Int)+(m:Int))=(i:Int)+(m:Int):=by rw[IntKind.wrap_i64];omega
 have hb1:(0:Int)<=(i:Int)+(m:Int):=by omega
 have hin:i<=n:=by omega
 have htn:((i:Int)+(m:Int)).toNat=i+m:=by omega
 have hb3:(i:Int)<=(n:Int):=by omega
 clear hkk hik hold hROW hG hRl;obtain ⟨_,_,FG⟩:=L.f22
 go_enter FG,Body2.n22_ntmps ρ
 go_wp2_with (first
  |(at_builtin;refine Lib.wpList_append_run _ rfl _ _ _ _ rfl _ _ rfl rfl _ _ (hrz _) ?_)
  |(at_builtin;refine wpList_copy_runI _ rfl _ _ (ρ.t 24) (ρ.t 24) rfl _ _ rfl rfl (hcpA _ hE1 hE2 _ _) ?_)
  |(at_builtin;refine wpList_copy_runI _ rfl _ _ (ρ.t 24) (ρ.t 24) rfl _ _ rfl rfl (hcpB _ (λ_=>rfl) (λ_=>rfl) _ _ _) ?_))
 go_region_law_o (refine step_copy_runI rfl _ _ (ρ.t 24) (ρ.t 24) rfl (.slice (some ⟨w.heap.size,(i+m)*10,none⟩) (n+m - (i+m)) (G - (i+m))) (.slice (some ⟨b,off+i*10,none⟩) (n - i) (c - i)) (by simp[Act.eval,Act.put]) (by simp[Act.eval,Act.put]) (hcpB _ hF1 hF2 (ρ.t 3) (G - (i+m)) (c - i)) ?_)
 go_wp2
 go_ret
 exact ⟨rfl,rfl⟩
theorem ztv{w:World}{a:Addr}{v:Value}(h:w.cell? a=some v):∃oa Ta fa,w.heap[a.block]?=some (.cells oa Ta fa)/\oa.size≠0:=by
 unfold World.cell? at h;split at h;·rename_i oa Ta fa hh;refine ⟨oa,Ta,fa,hh,?_⟩;intro h0;have:oa= #[]:=Array.eq_empty_of_size_eq_zero h0;grind
 ·cases h
theorem ztE{c xs vs:List Value}{n i:Nat}(hx:xs.length=n*10)(hv:vs.length=10)(hi:i<=n)
  (h1:∀k,k<i*10->c[k]?=xs[k]?) (h2:∀k,i*10<=k->k<i*10+10->c[k]?=vs[k - i*10]?) (h3:∀k,i*10+10<=k->k<(n+1)*10->c[k]?=xs[k - 10]?) :
  c.take ((n+1)*10)=xs.take (i*10)++vs++xs.drop (i*10):=by
 apply yAW;intro k;have hl1:(xs.take (i*10)).length=i*10:=by rw[yAY];omega
 have hl2:(xs.take (i*10)++vs).length=i*10+10:=by simp_all
 by_cases hk:k<(n+1)*10
 ·rw[yAt hk];by_cases ha:k<i*10;·simp_all[yAk]
  ·by_cases hb:k<i*10+10;·rw[yAk (by omega),yAF (by omega),hl1];grind
   ·rw[yAF (by omega),hl2,yAu,h3 k (by omega) hk];congr 1;omega
 ·rw[yAZ (by rw[yAY];omega)];symm;rw[yAZ];rw[yAI,hl2,yAL];omega
open Pe in
set_option maxHeartbeats 4000000 in
theorem ins_own(L:InsLays P ρ){i0:TypeInfo}{z:Value}(hi0:P.info? (ρ.t 9)=some i0)(hz0:i0.zero=some z)(hzs:i0.size=10)(hzz:z.cells.size=10)(hby:i0.bytes<=32768){v:Value}{n:Nat}{xs:List Value}{w:World}(hown:w.ownsRow 0 (ρ.t 9) 10 v n xs)(hone:∀u∈xs,u.oneCell'=true)
  {i vc:Nat} (hi:i<=n) (hn:n<=1000000) {va:Addr} {vs:List Value} (hvl:vs.length=10) (hvs:∀j u,vs[j]?=some u->w.cell? (va.add j)=some u) (h1v:∀u∈vs,u.oneCell'=true) (hva:∀g,v.ownBlock=some g->va.block≠g) :
  Calls P (ρ.f 22) #[v,.int .i64 i,.slice (some va) 1 vc] w λe w'=>∃v',e= .returned v'/\w'.ownsRow 0 (ρ.t 9) 10 v' (n+1) (xs.take (i*10)++vs++xs.drop (i*10))/\w.grownBy w' v.ownBlock/\(v'.ownBlock=v.ownBlock\/v'.ownBlock=some w.heap.size):=by
 have hbig:(n+1)*i0.bytes<=140737488355328:=by
  have:(n+1)*i0.bytes<=1000001*32768:=yCi (by omega) hby
  omega
 obtain ⟨oa,Ta,fa,hoa,hoz⟩:=ztv (hvs 0 _ (yAe (by omega)));rw[zts] at hoa;have hvw:va.block<w.heap.size:=(yAE.1 hoa).1;have hxl:=hown.1;by_cases hin:i=n
 ·subst hin;obtain ⟨v',w',hr,h1,h2,_,h4⟩:=run_append_own_at (P:=P) (w:=w) 0 (ρ.t 24) (ρ.t 24) (ρ.t 9) i0 z 10 i0.bytes L.t24 hi0 hz0 hzs rfl hzz (by decide) v i xs hown va 1 vc vs (by rw[hvl]) hvs h1v (by grind[maxLen]) hbig (yAA _);have hfin:xs++vs=xs.take (i*10)++vs++xs.drop (i*10):=by
   rw[<-hxl,List.take_length,List.drop_length,yAR]
  rw[hfin] at h1;have hw:Calls P (ρ.f 22) #[v,.int .i64 i,.slice (some va) 1 vc] w λe w''=>e= .returned v'/\w''=w':=by
   have t0:=L.t0;have a0:=L.a0;have z0:=L.z0;have v0:=L.v0;have t3:=L.t3;have a3:=L.a3;have z3:=L.z3;have v3:=L.v3;have t4:=L.t4;have a4:=L.a4;have z4:=L.z4;have v4:=L.v4;have z9:=L.z9;have t24:=L.t24;have a24:=L.a24;have z24:=L.z24;have v24:=L.v24;have u0:=run_underlying L.t0;have u3:=run_underlying L.t3;have u4:=run_underlying L.t4;have u24:=run_underlying L.t24;have mixed:=L.mixed;have hi63:i<=9223372036854775807:=(by omega);rcases hown.2 with ⟨rfl,rfl⟩|⟨g,cap,cur,rfl,hg0,hg,hnc,hcm,hcs,htk⟩
   ·clear h1 h2 h4 hfin hvs h1v hone hva hown hxl;obtain ⟨_,_,FG⟩:=L.f22
    go_enter FG,Body2.n22_ntmps ρ
    go_wp2_with (at_builtin;refine Lib.wpList_append_run _ rfl _ _ _ _ rfl _ _ rfl rfl _ _ hr ?_)
    go_ret
    simp_all
   ·have hc63:cap<=9223372036854775807:=(by grind[maxLen]);clear h1 h2 h4 hfin hvs h1v hone hva hown hxl;obtain ⟨_,_,FG⟩:=L.f22
    go_enter FG,Body2.n22_ntmps ρ
    go_wp2_with (at_builtin;refine Lib.wpList_append_run _ rfl _ _ _ _ rfl _ _ rfl rfl _ _ hr ?_)
    all_goals (go_ret;simp_all)
  refine Calls.mono hw ?_
  simp_all
 ·have hi':i<n:=by omega
  rcases hown.2 with ⟨_,hn0⟩|⟨g,cap,cur,rfl,hg0,hg,hnc,hcm,hcs,htk⟩;·omega
  have hcell:∀q,w.cell? ⟨g,0+q,none⟩=cur.toList[q]? :=λq=>by simp[World.cell?,hg]
  have hxs:∀q,q<n*10->xs[q]?=cur.toList[q]? :=λq hq=>by rw[<-htk,yAt hq]
  have hxc:∀j u,xs[j]?=some u->w.cell? ⟨g,0+j,none⟩=some u:=λj u hj=>by have:j<xs.length:=(yAc.1 hj).1;rw[hcell,<-hxs j (by omega),hj]
  have hcz:cur.size≠0:=by have:n*10<=cap*10:=yAs _ hnc;omega
  have hne:va.block≠g:=hva g rfl;have hg':w.drew.heap[g]?=some (.cells cur.toList.toArray (ρ.t 9) (0,0)):=by show w.heap[g]?=_;simpa using hg
  have hd0:w.grownBy w.drew (some g):=⟨rfl,rfl,rfl,yAi _,λ_ _ _=>rfl⟩;have hdl:(xs.drop (i*10)).length=(n - i)*10:=by rw[yAL,hxl];omega
  by_cases hroom:n+1<=cap
  ·have hcl:(n+1)*10<=cur.toList.length:=by
    have:(n+1)*10<=cap*10:=yAs _ hroom;rw[Array.length_toList];omega
   refine Calls.mono (ztL L (by rw[hi0];simp[hzs]) g 0 n cap i 1 vc va xs vs w hi' (by decide) hroom (by unfold maxLen at hcm;omega) hne hxl (by rw[hvl]) hxc (λj hj=>by rw[hcell,yAe (by omega)];rfl) (λj hj=>by simp[World.frozen?,hg]) hvs hone h1v hoa hg hcz hoz) ?_
   rintro x w' ⟨rfl,rfl⟩
   obtain ⟨a1,a2⟩:=zbq g (ρ.t 9) (0,0) (xs.drop (i*10)) cur.toList (0+(i+1)*10) w.drew hg';obtain ⟨b1,b2⟩:=zbq g (ρ.t 9) (0,0) vs _ (0+i*10) _ a1;have hs1:∀k,(zaV.spliceV cur.toList (0+(i+1)*10) (xs.drop (i*10)))[k]?=if 0+(i+1)*10<=k/\k<0+(i+1)*10+(xs.drop (i*10)).length then (xs.drop (i*10))[k - (0+(i+1)*10)]? else cur.toList[k]? :=λk=>zaN (by omega) k
   have hs2:∀k,(zaV.spliceV (zaV.spliceV cur.toList (0+(i+1)*10) (xs.drop (i*10))) (0+i*10) vs)[k]?=if 0+i*10<=k/\k<0+i*10+vs.length then vs[k - (0+i*10)]? else (zaV.spliceV cur.toList (0+(i+1)*10) (xs.drop (i*10)))[k]? :=λk=>zaN (by rw[zaF];omega) k
   refine ⟨_,rfl,⟨?_,.inr ⟨g,cap,_,rfl,yAA _,b1,hroom,hcm,?_,?_⟩⟩,(hd0.trans a2).trans b2,.inl rfl⟩;·rw[yAI,yAI,yAY,hvl,hdl];omega
   ·rw[List.size_toArray,zaF,zaF,Array.length_toList];exact hcs
   ·rw[List.toList_toArray];refine ztE hxl hvl hi (λk hk=>?_) (λk h1 h2=>?_) (λk h1 h2=>?_);·rw[hs2,if_neg (by omega),hs1,if_neg (by omega),hxs k (by omega)]
    ·rw[hs2,if_pos (by omega),yAJ]
    ·rw[hs2,if_neg (by omega),hs1,if_pos (by omega),yAu];congr 1;omega
  ·refine Calls.mono (ztW L hi0 hz0 hzs hzz g 0 n cap i 1 vc va xs vs w hi' (by decide) hnc (by omega) hbig (by omega) hxl (by rw[hvl]) hxc hvs hvw hone h1v) ?_
   rintro x w' ⟨rfl,rfl⟩
   obtain ⟨G,hG⟩:∃G,G=grownCap w (n+1) cap (ρ.t 9):=⟨_,rfl⟩;have hGn:n+1<=G:=by rw[hG];exact grownCap_ge w _ _ _
   have hGm:G<=maxLen:=(by rw[hG];exact grownCap_le_maxLen w (n+1) cap (ρ.t 9) (by unfold maxLen;omega));rw[<-hG];obtain ⟨ROW,hROW⟩:∃ROW:Array Value,ROW=(xs.take (i*10)).toArray++Builtin.zeroCells z.cells (n+1 - i)++Builtin.zeroCells z.cells (G - (n+1)):=⟨_,rfl⟩;rw[<-hROW];have hRs:ROW.size=G*10:=by rw[hROW];simp only[Array.size_append,List.size_toArray,size_zeroCells,hzz,yAY,hxl];omega
   have hRl:∀k,k<i*10->ROW.toList[k]?=xs[k]? :=λk hk=>by
    rw[hROW];have hl:(xs.take (i*10)).length=i*10:=by rw[yAY];omega
    rw[Array.toList_append,Array.toList_append,yA5,yAk (by rw[List.toList_toArray];omega),List.toList_toArray,yAt hk]
   have hA:((w.alloc (.cells ROW (ρ.t 9))).drew).heap[w.heap.size]?=some (.cells ROW.toList.toArray (ρ.t 9) (0,0)):=(by show (w.heap.push (Obj.cells ROW (ρ.t 9)))[w.heap.size]?=_;simp);obtain ⟨a1,a2⟩:=zbq w.heap.size (ρ.t 9) (0,0) vs ROW.toList (i*10) _ hA;have a1':(((w.alloc (.cells ROW (ρ.t 9))).drew.setCells w.heap.size (i*10) vs).drew).heap[w.heap.size]?=some (.cells (zaV.spliceV ROW.toList (i*10) vs).toArray (ρ.t 9) (0,0)):=a1;obtain ⟨b1,b2⟩:=zbq w.heap.size (ρ.t 9) (0,0) (xs.drop (i*10)) _ ((i+1)*10) _ a1';have hGl:(n+1)*10<=ROW.toList.length:=by have:(n+1)*10<=G*10:=yAs _ hGn;rw[Array.length_toList];omega
   have hs1:∀k,(zaV.spliceV ROW.toList (i*10) vs)[k]?=if i*10<=k/\k<i*10+vs.length then vs[k - i*10]? else ROW.toList[k]? :=λk=>zaN (by omega) k
   have hs2:∀k,(zaV.spliceV (zaV.spliceV ROW.toList (i*10) vs) ((i+1)*10) (xs.drop (i*10)))[k]?=if (i+1)*10<=k/\k<(i+1)*10+(xs.drop (i*10)).length then (xs.drop (i*10))[k - (i+1)*10]? else (zaV.spliceV ROW.toList (i*10) vs)[k]? :=λk=>zaN (by rw[zaF];omega) k
   have g0:w.grownBy ((w.alloc (.cells ROW (ρ.t 9))).drew) (some g):=⟨rfl,rfl,rfl,by simp,λk hk _=>by show (w.heap.push _)[k]?=_;rw[Array.getElem?_push_lt hk,yCe hk]⟩;have hpush:∀{a b:World},w.heap.size<=a.heap.size->a.grownBy b (some w.heap.size)->w.grownBy a (some g)->w.grownBy b (some g):=λ{a b} _ h2 h1=>h1.andThen h2 (λj hj=>by simp at hj;exact .inl (by omega));refine ⟨_,rfl,⟨?_,.inr ⟨w.heap.size,G,_,rfl,yAA _,b1,hGn,hGm,?_,?_⟩⟩,?_,.inr rfl⟩;·rw[yAI,yAI,yAY,hvl,hdl];omega
   ·rw[List.size_toArray,zaF,zaF,Array.length_toList];exact hRs
   ·rw[List.toList_toArray];refine ztE hxl hvl hi (λk hk=>?_) (λk h1 h2=>?_) (λk h1 h2=>?_);·rw[hs2,if_neg (by omega),hs1,if_neg (by omega),hRl k hk]
    ·rw[hs2,if_neg (by omega),hs1,if_pos (by omega)]
    ·rw[hs2,if_pos (by omega),yAu];congr 1;omega
   ·have e1:=hpush g0.size a2 g0;exact hpush (b:=_) (a:=((w.alloc (.cells ROW (ρ.t 9))).drew.setCells w.heap.size (i*10) vs).drew) e1.size b2 (e1.trans ⟨rfl,rfl,rfl,yAi _,λ_ _ _=>rfl⟩)
end Go.Proofs.Ins10
end
section
/- What is known of slices.Delete, slices.Insert and slices.Clone, where the rows are handed over. -/
set_option maxRecDepth 100000
namespace Go.Proofs
open Go.Shelf Go.RowKit Go.Lib
def Tryz.del173_ren:Go.Shelf.Ren:=⟨fun|45=>173|n=>n,fun|22=>22|23=>38|n=>n,λn=>n⟩
theorem Tryz.del173:Go.Proofs.SlLaysE0.n45 Tryz.prog Tryz.del173_ren:={
 mixed:=by kernel_rfl
 f45:=⟨Tryz.f173.name,by decide,Tryz.func173.trans (congrArg some (by kernel_rfl))⟩
 t0:=Tryz.underlying0
 a0:=Tryz.isAgg0
 z0:=Tryz.sizeOf0
 v0:=Tryz.zeroValue0
 t3:=Tryz.underlying3
 a3:=Tryz.isAgg3
 z3:=Tryz.sizeOf3
 v3:=Tryz.zeroValue3
 t4:=Tryz.underlying4
 a4:=Tryz.isAgg4
 z4:=Tryz.sizeOf4
 v4:=Tryz.zeroValue4
 t22:=Tryz.underlying22
 a22:=Tryz.isAgg22
 z22:=Tryz.sizeOf22
 v22:=Tryz.zeroValue22
}
def Tryz.ins174_ren:Go.Shelf.Ren:=⟨fun|22=>174|29=>236|30=>237|36=>282|17=>309|n=>n,fun|24=>22|9=>38|n=>n,λn=>n⟩
theorem Tryz.ins174:Ins10.InsLays Tryz.prog Tryz.ins174_ren:={
 mixed:=by kernel_rfl
 f22:=⟨Tryz.f174.name,by decide,Tryz.func174.trans (congrArg some (by kernel_rfl))⟩
 f29:=run_callFunc_extern Tryz.func236 (by kernel_rfl) (by kernel_rfl) (by kernel_rfl) (e:=Extern.SlicesOverlaps.overlaps #[22,22] #[4]) (by kernel_rfl)
 t0:=Tryz.underlying0
 a0:=Tryz.isAgg0
 z0:=Tryz.sizeOf0
 v0:=Tryz.zeroValue0
 t3:=Tryz.underlying3
 a3:=Tryz.isAgg3
 z3:=Tryz.sizeOf3
 v3:=Tryz.zeroValue3
 t4:=Tryz.underlying4
 a4:=Tryz.isAgg4
 z4:=Tryz.sizeOf4
 v4:=Tryz.zeroValue4
 t24:=Tryz.underlying22
 a24:=Tryz.isAgg22
 z24:=Tryz.sizeOf22
 v24:=Tryz.zeroValue22
 z9:=Tryz.sizeOf38
}
def Tryz.del176_ren:Go.Shelf.Ren:=⟨fun|45=>176|n=>n,fun|22=>23|23=>75|n=>n,λn=>n⟩
theorem Tryz.del176:Go.Proofs.SlLaysE0.n45 Tryz.prog Tryz.del176_ren:={
 mixed:=by kernel_rfl
 f45:=⟨Tryz.f176.name,by decide,Tryz.func176.trans (congrArg some (by kernel_rfl))⟩
 t0:=Tryz.underlying0
 a0:=Tryz.isAgg0
 z0:=Tryz.sizeOf0
 v0:=Tryz.zeroValue0
 t3:=Tryz.underlying3
 a3:=Tryz.isAgg3
 z3:=Tryz.sizeOf3
 v3:=Tryz.zeroValue3
 t4:=Tryz.underlying4
 a4:=Tryz.isAgg4
 z4:=Tryz.sizeOf4
 v4:=Tryz.zeroValue4
 t22:=Tryz.underlying23
 a22:=Tryz.isAgg23
 z22:=Tryz.sizeOf23
 v22:=Tryz.zeroValue23
}
def Tryz.ins177_ren:Go.Shelf.Ren:=⟨fun|22=>177|29=>238|30=>239|36=>283|17=>310|n=>n,fun|24=>23|9=>75|n=>n,λn=>n⟩
theorem Tryz.ins177:Ins3.InsLays Tryz.prog Tryz.ins177_ren:={
 mixed:=by kernel_rfl
 f22:=⟨Tryz.f177.name,by decide,Tryz.func177.trans (congrArg some (by kernel_rfl))⟩
 f29:=run_callFunc_extern Tryz.func238 (by kernel_rfl) (by kernel_rfl) (by kernel_rfl) (e:=Extern.SlicesOverlaps.overlaps #[23,23] #[4]) (by kernel_rfl)
 t0:=Tryz.underlying0
 a0:=Tryz.isAgg0
 z0:=Tryz.sizeOf0
 v0:=Tryz.zeroValue0
 t3:=Tryz.underlying3
 a3:=Tryz.isAgg3
 z3:=Tryz.sizeOf3
 v3:=Tryz.zeroValue3
 t4:=Tryz.underlying4
 a4:=Tryz.isAgg4
 z4:=Tryz.sizeOf4
 v4:=Tryz.zeroValue4
 t24:=Tryz.underlying23
 a24:=Tryz.isAgg23
 z24:=Tryz.sizeOf23
 v24:=Tryz.zeroValue23
 z9:=Tryz.sizeOf75
}
def Tryz.ren81:Go.Shelf.Ren:=⟨fun|41=>81|n=>n,fun|22=>23|23=>75|n=>n,λn=>n⟩
theorem Tryz.lays81:SlLaysE0.n41 Tryz.prog Tryz.ren81:={ mixed:=by kernel_rfl,f41:=⟨Tryz.f81.name,by decide,Tryz.func81.trans (congrArg some (by kernel_rfl))⟩,t4:=Tryz.underlying4,a4:=Tryz.isAgg4,z4:=Tryz.sizeOf4,v4:=Tryz.zeroValue4,t22:=Tryz.underlying23,a22:=Tryz.isAgg23,z22:=Tryz.sizeOf23,v22:=Tryz.zeroValue23 }
end Go.Proofs
namespace Pe.Tryz
open Go Go.Proofs Pe Go.RowKit
theorem zu1:ElOk Tryz.prog un 38 (.st 5):=by obtain ⟨T,u,h1,h2,h3⟩:=(row22 _ rfl).slice rfl;cases yAS (h2.symm.trans Tryz.underlying22);grind
theorem zt3:U.size un (.st 5)=10:=by kernel_rfl
theorem zuB:ElOk Tryz.prog un 75 (.st 7):=by obtain ⟨T,u,h1,h2,h3⟩:=(row23 _ rfl).slice rfl;cases yAS (h2.symm.trans Tryz.underlying23);grind
theorem ztI:U.size un (.st 7)=3:=by kernel_rfl
theorem ztH{cs vs:List Value}{off m:Nat}(h:off+vs.length=m)(hm:m<=cs.length):(zaV.spliceV cs off vs).take m=cs.take off++vs:=by
 apply yAW;intro k;rw[yAD,yB9,yAY];by_cases hk:k<m
 ·rw[if_pos hk,zaN (by omega)];by_cases hk2:k<off;·rw[if_neg (by omega),if_pos (by omega),yAt hk2]
  ·rw[if_pos (by omega),if_neg (by omega)];congr 1;omega
 ·rw[if_neg hk];by_cases hk2:k<min off cs.length;·omega
  ·rw[if_neg hk2];symm;rw[yAZ];omega
theorem ztR{cs vs:List Value}{off m:Nat}(h:m<=off)(hm:off+vs.length<=cs.length):(zaV.spliceV cs off vs).take m=cs.take m:=by
 apply yAW;intro k;rw[yAD,yAD];by_cases hk:k<m;·rw[if_pos hk,if_pos hk,zaN hm,if_neg (by omega)]
 simp_all[if_neg]
def eps:Value:= .string ⟨#[]⟩
def nsl:Value:= .slice none 0 0
def zsC:List Value:=[eps,eps,eps,eps,eps,nsl,eps,nsl,eps,nsl]
def zsE:List Value:=[eps,eps,.int .i64 0]
theorem zuJ{inf:TypeInfo}{z:Value}(e1:Tryz.prog.info? 38=some inf)(e2:inf.zero=some z)(w:World):z=Value.agg #[eps,eps,eps,eps,eps,nsl,eps,nsl,eps,nsl]:=by have:=Tryz.zeroValue38 w;simp[zeroValue,typeInfo,e1,e2] at this;exact this
theorem zuI{inf:TypeInfo}{z:Value}(e1:Tryz.prog.info? 75=some inf)(e2:inf.zero=some z)(w:World):z=Value.agg #[eps,eps,.int .i64 0]:=by have:=Tryz.zeroValue75 w;simp[zeroValue,typeInfo,e1,e2] at this;exact this
theorem zuy{α:Type}{L:List α}{x:α}{kn:Nat}(hk:kn<=L.length):(L.take kn++[x]++L.drop kn).length=L.length+1:=by simp only[yAI,yAY,yAL,List.length_singleton];omega
theorem zuW{α:Type}{L:List α}{x:α}{kn i:Nat}(hk:kn<=L.length)(hi:i<kn):(L.take kn++[x]++L.drop kn)[i]?=L[i]? :=by
 simp_all[yAk]
theorem zux{α:Type}{L:List α}{x:α}{kn:Nat}(hk:kn<=L.length):(L.take kn++[x]++L.drop kn)[kn]?=some x:=by
 simp_all
theorem zuX{α:Type}{L:List α}{x:α}{kn i:Nat}(hk:kn<=L.length)(hi:kn<i):(L.take kn++[x]++L.drop kn)[i]?=L[i - 1]? :=by
 have htk:(L.take kn).length=kn:=by rw[yAY];omega
 rw[yAF (by rw[yAI,htk];simp;omega),yAI,htk,yAu];grind
def cg173:Sg:=⟨[.one (.wr (.st 5) 38),.one (.fr (.int .i64)),.one (.fr (.int .i64))],[],[.one (.wr (.st 5) 38)],[],0⟩
def zt1(l:List Gt.Component)(k j:Int):Option ((List Gt.Component×Unit)⊕Unit):=bif (decide (0<=k)&&decide (j=k+1))&&Nat.blt (Int.toNat k) l.length then some (.inl (l.eraseIdx (Int.toNat k),())) else none
noncomputable def l173(_:Orc Sx):EntryL Sx:=⟨cg173,λt=>zt1 t.1 t.2.1 t.2.2.1⟩
set_option maxHeartbeats 2000000 in
theorem zt7{D:Dat}{w:World}{l:List Gt.Component}{v:Value}{xs:List Value}(hown:w.ownsRow 0 38 10 v l.length xs)(hel:∀(i:Nat)(x:Gt.Component),l[i]?=some x->DR (S:=Sx) un D w [.st 5] (sg (u:= .st 5) x) ((xs.drop (i*10)).take 10)){k:Nat}(hk:k<l.length) :
  Calls Tryz.prog 173 #[v,.int .i64 (k:Int),.int .i64 ((k+1:Nat):Int)] w λe w'=>∃v',e= .returned v'/\w'.ownsRow 0 38 10 v' (l.length - 1) (xs.take (k*10)++xs.drop ((k+1)*10))/\w.grownBy w' v.ownBlock/\v'.ownBlock=v.ownBlock:=by
 obtain ⟨hlen,hh⟩:=hown;rcases hh with ⟨_,hn⟩|⟨g,cap,cur,rfl,_,hgg,hnc,hcm,hcs,htk⟩;·omega
 obtain ⟨inf,z,e1,e2,e3,e4,e5,e6⟩:=zu1.info;rw[zt3] at e3 e4 e5;have hz:=zuJ e1 e2 w;subst hz;generalize hN:l.length=n at *
 obtain ⟨news,hnews⟩:∃news,news=xs.drop ((k+1)*10):=⟨_,rfl⟩;have hnl:news.length=(n - (k+1))*10:=by rw[hnews,yAL,hlen];omega
 have hcu:n*10<=cur.size:=by simp_all[yAs]
 have hxs:∀q,q<n*10->xs[q]?=cur[q]? :=λq hq=>by rw[<-htk,yAt hq];simp
 have hcell:∀q,w.drew.cell? ⟨g,q,none⟩=cur[q]? :=λq=>by show w.cell? ⟨g,q,none⟩=_;grind[World.cell?]
 have hone:∀u∈xs,u.oneCell'=true:=by
  intro u hu;obtain ⟨q,hq⟩:=yAl hu;have hql:q<n*10:=by have:=(yAc.1 hq).1;omega
  have hqn:q / 10<l.length:=by omega
  refine (hel (q / 10) l[q / 10] (yAe hqn)).one u (yAb (i:=q % 10) ?_);rw[yAt (by omega),yAu,Nat.div_add_mod',hq]
 obtain ⟨W1,hW1⟩:∃W1,W1=w.drew.setCells g (0+k*10) news:=⟨_,rfl⟩;have hg0:w.drew.heap[g]?=some (.cells cur.toList.toArray 38 (0,0)):=by show w.heap[g]?=_;simp_all
 obtain ⟨a1,a2⟩:=zbq g 38 (0,0) news cur.toList (0+k*10) w.drew hg0;rw[<-hW1] at a1 a2;obtain ⟨c1,hc1⟩:∃c1,c1=zaV.spliceV cur.toList (0+k*10) news:=⟨_,rfl⟩;rw[<-hc1] at a1;have hc1l:c1.length=cur.size:=by grind[zaF]
 obtain ⟨b1,b2⟩:=zbq g 38 (0,0) zsC c1 (0+(k+(n - (k+1)))*10) W1 a1;have hst:=run_storeCells_cells (P:=Tryz.prog) g (0+(k+(n - (k+1)))*10) zsC 0 W1 (λq hq=>by
  have hq:q<10:=hq;have:W1.cell? ⟨g,0+(k+(n - (k+1)))*10+0+q,none⟩=c1[0+(k+(n - (k+1)))*10+0+q]? :=by simp[World.cell?,a1]
  rw[this,yAe (by omega)];rfl) (λq hq=>by simp[World.frozen?,a1]) (λv hv=>yAM.1 (show (zsC).all (·.oneCell')=true by kernel_rfl) v hv)
 have hzc:(Builtin.zeroCells (Value.agg #[eps,eps,eps,eps,eps,nsl,eps,nsl,eps,nsl]).cells 1).toList=zsC:=by kernel_rfl
 have hcl:∀ty,(Builtin.clear_ #[Tryz.del173_ren.t 22] ty #[.slice (some ⟨g,0+(k+(n - (k+1)))*10,none⟩) (n - (k+(n - (k+1)))) (cap - (k+(n - (k+1))))]).run Tryz.prog W1= .ok (.tuple #[]) (W1.setCells g (0+(k+(n - (k+1)))*10) zsC):=by intro ty;rw[show n - (k+(n - (k+1)))=0+1 by omega];have hu:Tryz.prog.underlying 22=some (.slice 38):=Tryz.underlying22;show (Builtin.clear_ #[22] ty #[_]).run Tryz.prog W1=_;simp[Builtin.clear_,run_underlying hu,zeroValue,typeInfo,e1,e2,hzc];simp_all
 have hdel:=ztT Tryz.del173 inf _ 10 e1 e2 e3 e4 e5 (λw=>Tryz.sizeOf38 w) g 0 cap n k (k+1) w W1 news zsC hnc hcm (by omega) (by omega) hnl (λt u hu=>by
  rw[hcell,<-hu,hnews,yAu];have ht:t<(n - (k+1))*10:=by have:=(yAc.1 hu).1;omega
  rw[hxs _ (by omega),yAJ]) (λu hu=>hone u (by rw[hnews] at hu;exact List.mem_of_mem_drop hu)) (λt ht=>by
  rw[hcell,yCe (by omega)];exact ⟨rfl,by show w.frozen? _=false;simp[World.frozen?,hgg]⟩) hW1 hcl
 refine Calls.mono hdel ?_
 rintro x w' ⟨rfl,rfl⟩
 rw[show n - (k+1 - k)=n - 1 by omega];refine ⟨_,rfl,⟨?_,.inr ⟨g,cap,_,rfl,yAA _,b1,by omega,hcm,?_,?_⟩⟩,?_,rfl⟩;·rw[yAI,yAY,<-hnews,hnl];omega
 ·rw[List.size_toArray,zaF,hc1l,hcs]
 ·rw[List.toList_toArray,ztR (by omega) (by show _+10<=_;omega),hc1,ztH (by omega) (by simp;omega),hnews,yAJ,show List.take (k*10) cur.toList=List.take (k*10) xs from by rw[<-htk,List.take_take,yBV (by omega)]]
 ·refine World.grownBy.trans (World.grownBy.trans (b:=w.drew) ⟨rfl,rfl,rfl,yAi _,λ_ _ _=>rfl⟩ a2) b2
set_option maxHeartbeats 2000000 in
theorem zvb(o:Orc Sx)(_:SoundO Tryz.prog un o):EntryL.Ok Tryz.prog un 173 (l173 o):=by
 rintro ⟨l,k,j,⟨⟩⟩ r h D w vs H fx _ hin hbx ha
 obtain ⟨h1,h2⟩:=zae h;cases h2;simp only[yAd,decide_eq_true_eq,yAN] at h1;obtain ⟨⟨k0,kj⟩,kl⟩:=h1;obtain ⟨kn,rfl⟩:∃kn:Nat,k=(kn:Int):=⟨Int.toNat k,(Int.toNat_of_nonneg k0).symm⟩;have hj:j=((kn+1:Nat):Int):=kj;subst hj;have kl:kn<List.length (α:=Gt.Component) l:=kl
 match H,hbx with
 |[],hbx=>exact hbx.elim|_::_::_,hbx=>exact hbx.2.elim|[r],hbx =>
   have hr2:=hbx.1;cases r with
   |box=>simp[BoxRep] at hr2|own=>simp[BoxRep] at hr2|ref=>simp[BoxRep] at hr2|fix=>simp[BoxRep] at hr2|nst=>simp[BoxRep] at hr2|wr v0 T' size n xs =>
     simp only[BoxRep] at hr2;obtain ⟨rfl,hsz,hn,hel⟩:=hr2;rw[zt3] at hsz;subst hsz;have hn:n=List.length (α:=Gt.Component) l:=hn;subst hn;have hh:=hin.res _ (yBp.2 rfl)
     match vs,ha with
     |[a,b,c],ha =>
       have hv:Rep un _ D w (.row 0) a:=ha.1;have hb:Rep un _ D w (inj (S:=Sx) (.int .i64) ((kn:Nat):Int)) b:=ha.2.1;have hc:Rep un _ D w (inj (S:=Sx) (.int .i64) (((kn+1:Nat):Nat):Int)) c:=ha.2.2.1;simp only[Rep,inj] at hv hb hc;obtain ⟨hv,_⟩:=hv;have hv0:v0=a:=(by simp only[ids,yAn,List.map_nil,List.getElem?_cons_zero,zal,yAf,Prod.mk.injEq,true_and] at hv;exact hv);subst hv0;subst hb;subst hc;refine (zt7 hh.1 hel kl).mono ?_
       rintro x w' ⟨v',rfl,r1,r2,r4⟩
       obtain ⟨hin2,hge⟩:=ze3 hin (b:=0) rfl r1 r2 (.inl r4);have hlen:=hh.1.1;refine ⟨D,_,hin2,hge,λk o hk=>.inl hk,⟨?_,trivial⟩,v',rfl,?_⟩
       ·simp only[BoxRep];refine ⟨trivial,zt3.symm,?_,?_⟩;·show List.length (α:=Gt.Component) l - 1=List.length (α:=Gt.Component) (List.eraseIdx l kn);have q:=List.length_eraseIdx (α:=Gt.Component) (l:=l) (i:=kn);rw[if_pos kl] at q;exact q.symm
        ·intro i x hx;have hx: @Eq (Option Gt.Component) ((List.eraseIdx (α:=Gt.Component) l kn)[i]?) (some x):=hx;have hx:=(List.getElem?_eraseIdx (α:=Gt.Component) (l:=l) (i:=kn) (j:=i)).symm.trans hx;have htl:(xs.take (kn*10)).length=kn*10:=by rw[yAY];omega
         by_cases hi:i<kn;·rw[if_pos hi] at hx;have:=(hel i x hx).mono hge;rw[List.drop_append_of_le_length (by omega),List.take_append_of_le_length (by rw[yAL];omega),List.drop_take,List.take_take,yBV (by omega)];exact this
         ·rw[if_neg hi] at hx;have:=(hel (i+1) x hx).mono hge;have e9:(xs.take (kn*10)++xs.drop ((kn+1)*10)).drop (i*10)=xs.drop ((i+1)*10):=by
           rw[show i*10=(xs.take (kn*10)).length+(i - kn)*10 by omega,yCl,yBh];rw[yAG (by omega)];simp only[yBb];congr 1;omega
          rw[e9];exact this
       ·show Rep un _ D w' (.row 0) v';simp only[Rep];exact ⟨rfl,zfb r1⟩
     |[],ha=>exact ha.elim|[_],ha=>exact ha.2.elim|[_,_],ha=>exact ha.2.2.elim|_::_::_::_::_,ha=>exact ha.2.2.2.elim
def cg174:Sg:=⟨[.one (.wr (.st 5) 38),.one (.fr (.int .i64)),.one (.fr (.sl (.st 5)))],[],[.one (.wr (.st 5) 38)],[],0⟩
def ztY(l:List Gt.Component)(i:Int)(vs:List Gt.Component):Option ((List Gt.Component×Unit)⊕Unit) :=
 bif (decide (0<=i)&&Nat.ble (Int.toNat i) l.length)&&(Nat.beq vs.length 1&&Nat.ble l.length 1000000) then some (.inl (l.take (Int.toNat i)++vs++l.drop (Int.toNat i),())) else none
noncomputable def l174(_:Orc Sx):EntryL Sx:=⟨cg174,λt=>ztY t.1 t.2.1 t.2.2.1⟩
set_option maxHeartbeats 2000000 in
theorem zva(o:Orc Sx)(_:SoundO Tryz.prog un o):EntryL.Ok Tryz.prog un 174 (l174 o):=by
 rintro ⟨l,k,vs0,⟨⟩⟩ r h D w vs H fx _ hin hbx ha
 obtain ⟨h1,h2⟩:=zae h;cases h2;simp only[yAd,decide_eq_true_eq,yAK,Nat.beq_eq] at h1;obtain ⟨⟨k0,kl⟩,hv1,hl6⟩:=h1;obtain ⟨kn,rfl⟩:∃kn:Nat,k=(kn:Int):=⟨Int.toNat k,(Int.toNat_of_nonneg k0).symm⟩;have kl:kn<=List.length (α:=Gt.Component) l:=kl;obtain ⟨x,hx0⟩:∃x:Gt.Component,vs0=([x]:List Gt.Component):=by
  match vs0,hv1 with
  |[x],_=>exact ⟨x,rfl⟩
 subst hx0
 match H,hbx with
 |[],hbx=>exact hbx.elim|_::_::_,hbx=>exact hbx.2.elim|[r],hbx =>
   have hr2:=hbx.1;cases r with
   |box=>simp[BoxRep] at hr2|own=>simp[BoxRep] at hr2|ref=>simp[BoxRep] at hr2|fix=>simp[BoxRep] at hr2|nst=>simp[BoxRep] at hr2|wr v0 T' size n xs =>
     simp only[BoxRep] at hr2;obtain ⟨rfl,hsz,hn,hel⟩:=hr2;rw[zt3] at hsz;subst hsz;have hn:n=List.length (α:=Gt.Component) l:=hn;subst hn;have hh:=hin.res _ (yBp.2 rfl)
     match vs,ha with
     |[a,b,c],ha =>
       have hv:Rep un _ D w (.row 0) a:=ha.1;have hb:Rep un _ D w (inj (S:=Sx) (.int .i64) ((kn:Nat):Int)) b:=ha.2.1;have hc:Rep un _ D w (.sl (.st 5) ([x]:List Gt.Component)) c:=ha.2.2.1;simp only[Rep,inj] at hv hb;obtain ⟨hv,_⟩:=hv;have hv0:v0=a:=(by simp only[ids,yAn,List.map_nil,List.getElem?_cons_zero,zal,yAf,Prod.mk.injEq,true_and] at hv;exact hv);subst hv0;subst hb;obtain ⟨A,cc,news,rfl,g1,g2,g3,g4,g5⟩:=zkf zeM.flat hc;obtain ⟨ad,rfl⟩:∃ad,A=some ad:=by
        cases A with
        |none=>exact absurd (g2 rfl) (by simp)|some ad=>exact ⟨ad,rfl⟩
       rw[zt3] at g1 g4;have hnl:news.length=10:=g1;have hD:∃o,D ad.block o:=by
        simp only[Rep] at hc;cases hc with
        |sl b off c0 cs hc1 q1 q2 q3 =>
          have e1:=q1 0 x rfl;have e2:=(q2 0 x rfl).length zeM.flat
          have e3:(cs 0).length=10:=e2.trans (by simp only[zcF,zt3]);exact ⟨_,(e1 0 _ (yAe (by omega))).1⟩
       obtain ⟨od,hD⟩:=hD;have hva:∀g,v0.ownBlock=some g->ad.block≠g:=λg hg he=>by subst he;exact hin.apart _ (yBp.2 rfl) ad.block hg od trivial hD
       have hlen:=hh.1.1;obtain ⟨inf,z,e1,e2,e3,e4,e5,e6⟩:=zu1.info;rw[zt3] at e3 e4;have hone:∀u∈xs,u.oneCell'=true:=by
        intro u hu;obtain ⟨q,hq⟩:=yAl hu;have hql:q<List.length (α:=Gt.Component) l*10:=by have:=(yAc.1 hq).1;omega
        have hqn:q / 10<List.length (α:=Gt.Component) l:=(by omega);refine (hel (q / 10) _ (yAe (l:=(l:List Gt.Component)) hqn)).one u (yAb (i:=q % 10) ?_);rw[yAt (by omega),yAu,Nat.div_add_mod',hq]
       refine (Ins10.ins_own (vc:=cc) Tryz.ins174 e1 e2 e3 e4 e6 hh.1 hone (i:=kn) kl hl6 hnl (λj u hj=>g3 ad rfl j u hj) g5 hva).mono ?_
       rintro y w' ⟨v',rfl,r1,r2,r4⟩
       obtain ⟨hin2,hge⟩:=ze3 hin (b:=0) rfl r1 r2 r4;refine ⟨D,_,hin2,hge,λk o hk=>.inl hk,⟨?_,trivial⟩,v',rfl,?_⟩
       ·simp only[BoxRep];refine ⟨trivial,zt3.symm,(zuy (α:=Gt.Component) kl).symm,?_⟩;intro i y hi;have htl:(xs.take (kn*10)).length=kn*10:=by rw[yAY];omega
        by_cases h3:i<kn;·have:=(hel i y ((zuW (α:=Gt.Component) kl h3).symm.trans hi)).mono hge;rw[yA5,List.drop_append_of_le_length (by omega),List.take_append_of_le_length (by rw[yAL];omega),List.drop_take,List.take_take,yBV (by omega)];exact this
        ·by_cases h4:i=kn
         ·subst h4;have hxy:x=y:=yAS ((zux (α:=Gt.Component) kl).symm.trans hi);subst hxy;have:=(g4 0 x rfl).mono hge;have e8:(xs.take (i*10)++news++xs.drop (i*10)).drop (i*10)=news++xs.drop (i*10):=by
           rw[yA5,List.drop_append_of_le_length (by omega),yAG (by omega),yBb]
          rw[e8,List.take_append_of_le_length (by omega)];simpa using this
         ·have:=(hel (i - 1) y ((zuX (α:=Gt.Component) kl (by omega)).symm.trans hi)).mono hge;have e9:(xs.take (kn*10)++news++xs.drop (kn*10)).drop (i*10)=xs.drop ((i - 1)*10):=by
           rw[show i*10=(xs.take (kn*10)++news).length+(i - kn - 1)*10 by rw[yAI];omega,yCl,yBh];rw[yAG (by omega)];simp only[yBb];congr 1;omega
          rw[e9];exact this
       ·show Rep un _ D w' (.row 0) v';simp only[Rep];exact ⟨rfl,zfb r1⟩
     |[],ha=>exact ha.elim|[_],ha=>exact ha.2.elim|[_,_],ha=>exact ha.2.2.elim|_::_::_::_::_,ha=>exact ha.2.2.2.elim
def cg176:Sg:=⟨[.one (.wr (.st 7) 75),.one (.fr (.int .i64)),.one (.fr (.int .i64))],[],[.one (.wr (.st 7) 75)],[],0⟩
def zt0(l:List Gt.Edge)(k j:Int):Option ((List Gt.Edge×Unit)⊕Unit):=bif (decide (0<=k)&&decide (j=k+1))&&Nat.blt (Int.toNat k) l.length then some (.inl (l.eraseIdx (Int.toNat k),())) else none
noncomputable def l176(_:Orc Sx):EntryL Sx:=⟨cg176,λt=>zt0 t.1 t.2.1 t.2.2.1⟩
set_option maxHeartbeats 2000000 in
theorem zt6{D:Dat}{w:World}{l:List Gt.Edge}{v:Value}{xs:List Value}(hown:w.ownsRow 0 75 3 v l.length xs)(hel:∀(i:Nat)(x:Gt.Edge),l[i]?=some x->DR (S:=Sx) un D w [.st 7] (sg (u:= .st 7) x) ((xs.drop (i*3)).take 3)){k:Nat}(hk:k<l.length) :
  Calls Tryz.prog 176 #[v,.int .i64 (k:Int),.int .i64 ((k+1:Nat):Int)] w λe w'=>∃v',e= .returned v'/\w'.ownsRow 0 75 3 v' (l.length - 1) (xs.take (k*3)++xs.drop ((k+1)*3))/\w.grownBy w' v.ownBlock/\v'.ownBlock=v.ownBlock:=by
 obtain ⟨hlen,hh⟩:=hown;rcases hh with ⟨_,hn⟩|⟨g,cap,cur,rfl,_,hgg,hnc,hcm,hcs,htk⟩;·omega
 obtain ⟨inf,z,e1,e2,e3,e4,e5,e6⟩:=zuB.info;rw[ztI] at e3 e4 e5;have hz:=zuI e1 e2 w;subst hz;generalize hN:l.length=n at *
 obtain ⟨news,hnews⟩:∃news,news=xs.drop ((k+1)*3):=⟨_,rfl⟩;have hnl:news.length=(n - (k+1))*3:=by rw[hnews,yAL,hlen];omega
 have hcu:n*3<=cur.size:=by rw[hcs];exact yAs _ hnc
 have hxs:∀q,q<n*3->xs[q]?=cur[q]? :=λq hq=>by rw[<-htk,yAt hq];simp
 have hcell:∀q,w.drew.cell? ⟨g,q,none⟩=cur[q]? :=λq=>by show w.cell? ⟨g,q,none⟩=_;simp[World.cell?,hgg]
 have hone:∀u∈xs,u.oneCell'=true:=by
  intro u hu;obtain ⟨q,hq⟩:=yAl hu;have hql:q<n*3:=by have:=(yAc.1 hq).1;omega
  have hqn:q / 3<l.length:=by omega
  refine (hel (q / 3) l[q / 3] (yAe hqn)).one u (yAb (i:=q % 3) ?_);rw[yAt (by omega),yAu,Nat.div_add_mod',hq]
 obtain ⟨W1,hW1⟩:∃W1,W1=w.drew.setCells g (0+k*3) news:=⟨_,rfl⟩;have hg0:w.drew.heap[g]?=some (.cells cur.toList.toArray 75 (0,0)):=by show w.heap[g]?=_;simpa using hgg
 obtain ⟨a1,a2⟩:=zbq g 75 (0,0) news cur.toList (0+k*3) w.drew hg0;rw[<-hW1] at a1 a2;obtain ⟨c1,hc1⟩:∃c1,c1=zaV.spliceV cur.toList (0+k*3) news:=⟨_,rfl⟩;rw[<-hc1] at a1;have hc1l:c1.length=cur.size:=by rw[hc1,zaF];simp
 obtain ⟨b1,b2⟩:=zbq g 75 (0,0) zsE c1 (0+(k+(n - (k+1)))*3) W1 a1;have hst:=run_storeCells_cells (P:=Tryz.prog) g (0+(k+(n - (k+1)))*3) zsE 0 W1 (λq hq=>by
  have hq:q<3:=hq;have:W1.cell? ⟨g,0+(k+(n - (k+1)))*3+0+q,none⟩=c1[0+(k+(n - (k+1)))*3+0+q]? :=by simp[World.cell?,a1]
  rw[this,yAe (by omega)];rfl) (λq hq=>by simp[World.frozen?,a1]) (λv hv=>yAM.1 (show (zsE).all (·.oneCell')=true by kernel_rfl) v hv)
 have hzc:(Builtin.zeroCells (Value.agg #[eps,eps,.int .i64 0]).cells 1).toList=zsE:=by kernel_rfl
 have hcl:∀ty,(Builtin.clear_ #[Tryz.del176_ren.t 22] ty #[.slice (some ⟨g,0+(k+(n - (k+1)))*3,none⟩) (n - (k+(n - (k+1)))) (cap - (k+(n - (k+1))))]).run Tryz.prog W1= .ok (.tuple #[]) (W1.setCells g (0+(k+(n - (k+1)))*3) zsE):=by intro ty;rw[show n - (k+(n - (k+1)))=0+1 by omega];have hu:Tryz.prog.underlying 23=some (.slice 75):=Tryz.underlying23;show (Builtin.clear_ #[23] ty #[_]).run Tryz.prog W1=_;simp[Builtin.clear_,run_underlying hu,zeroValue,typeInfo,e1,e2,hzc];have hst':=hst;simp only[yBu] at hst';rw[show k+(n - (k+1))=n - 1 by omega] at hst' ⊢;simp at hst' ⊢;rw[hst'];rfl
 have hdel:=ztT Tryz.del176 inf _ 3 e1 e2 e3 e4 e5 (λw=>Tryz.sizeOf75 w) g 0 cap n k (k+1) w W1 news zsE hnc hcm (by omega) (by omega) hnl (λt u hu=>by
  rw[hcell,<-hu,hnews,yAu];have ht:t<(n - (k+1))*3:=by have:=(yAc.1 hu).1;omega
  rw[hxs _ (by omega),yAJ]) (λu hu=>hone u (by rw[hnews] at hu;exact List.mem_of_mem_drop hu)) (λt ht=>by
  rw[hcell,yCe (by omega)];exact ⟨rfl,by show w.frozen? _=false;simp[World.frozen?,hgg]⟩) hW1 hcl
 refine Calls.mono hdel ?_
 rintro x w' ⟨rfl,rfl⟩
 rw[show n - (k+1 - k)=n - 1 by omega];refine ⟨_,rfl,⟨?_,.inr ⟨g,cap,_,rfl,yAA _,b1,by omega,hcm,?_,?_⟩⟩,?_,rfl⟩;·rw[yAI,yAY,<-hnews,hnl];omega
 ·rw[List.size_toArray,zaF,hc1l,hcs]
 ·rw[List.toList_toArray,ztR (by omega) (by show _+3<=_;omega),hc1,ztH (by omega) (by simp;omega),hnews,yAJ,show List.take (k*3) cur.toList=List.take (k*3) xs from by rw[<-htk,List.take_take,yBV (by omega)]]
 ·refine World.grownBy.trans (World.grownBy.trans (b:=w.drew) ⟨rfl,rfl,rfl,yAi _,λ_ _ _=>rfl⟩ a2) b2
set_option maxHeartbeats 2000000 in
theorem zu9(o:Orc Sx)(_:SoundO Tryz.prog un o):EntryL.Ok Tryz.prog un 176 (l176 o):=by
 rintro ⟨l,k,j,⟨⟩⟩ r h D w vs H fx _ hin hbx ha
 obtain ⟨h1,h2⟩:=zae h;cases h2;simp only[yAd,decide_eq_true_eq,yAN] at h1;obtain ⟨⟨k0,kj⟩,kl⟩:=h1;obtain ⟨kn,rfl⟩:∃kn:Nat,k=(kn:Int):=⟨Int.toNat k,(Int.toNat_of_nonneg k0).symm⟩;have hj:j=((kn+1:Nat):Int):=kj;subst hj;have kl:kn<List.length (α:=Gt.Edge) l:=kl
 match H,hbx with
 |[],hbx=>exact hbx.elim|_::_::_,hbx=>exact hbx.2.elim|[r],hbx =>
   have hr2:=hbx.1;cases r with
   |box=>simp[BoxRep] at hr2|own=>simp[BoxRep] at hr2|ref=>simp[BoxRep] at hr2|fix=>simp[BoxRep] at hr2|nst=>simp[BoxRep] at hr2|wr v0 T' size n xs =>
     simp only[BoxRep] at hr2;obtain ⟨rfl,hsz,hn,hel⟩:=hr2;rw[ztI] at hsz;subst hsz;have hn:n=List.length (α:=Gt.Edge) l:=hn;subst hn;have hh:=hin.res _ (yBp.2 rfl)
     match vs,ha with
     |[a,b,c],ha =>
       have hv:Rep un _ D w (.row 0) a:=ha.1;have hb:Rep un _ D w (inj (S:=Sx) (.int .i64) ((kn:Nat):Int)) b:=ha.2.1;have hc:Rep un _ D w (inj (S:=Sx) (.int .i64) (((kn+1:Nat):Nat):Int)) c:=ha.2.2.1;simp only[Rep,inj] at hv hb hc;obtain ⟨hv,_⟩:=hv;have hv0:v0=a:=(by simp only[ids,yAn,List.map_nil,List.getElem?_cons_zero,zal,yAf,Prod.mk.injEq,true_and] at hv;exact hv);subst hv0;subst hb;subst hc;refine (zt6 hh.1 hel kl).mono ?_
       rintro x w' ⟨v',rfl,r1,r2,r4⟩
       obtain ⟨hin2,hge⟩:=ze3 hin (b:=0) rfl r1 r2 (.inl r4);have hlen:=hh.1.1;refine ⟨D,_,hin2,hge,λk o hk=>.inl hk,⟨?_,trivial⟩,v',rfl,?_⟩
       ·simp only[BoxRep];refine ⟨trivial,ztI.symm,?_,?_⟩;·show List.length (α:=Gt.Edge) l - 1=List.length (α:=Gt.Edge) (List.eraseIdx l kn);have q:=List.length_eraseIdx (α:=Gt.Edge) (l:=l) (i:=kn);rw[if_pos kl] at q;exact q.symm
        ·intro i x hx;have hx: @Eq (Option Gt.Edge) ((List.eraseIdx (α:=Gt.Edge) l kn)[i]?) (some x):=hx;have hx:=(List.getElem?_eraseIdx (α:=Gt.Edge) (l:=l) (i:=kn) (j:=i)).symm.trans hx;have htl:(xs.take (kn*3)).length=kn*3:=by rw[yAY];omega
         by_cases hi:i<kn;·rw[if_pos hi] at hx;have:=(hel i x hx).mono hge;rw[List.drop_append_of_le_length (by omega),List.take_append_of_le_length (by rw[yAL];omega),List.drop_take,List.take_take,yBV (by omega)];exact this
         ·rw[if_neg hi] at hx;have:=(hel (i+1) x hx).mono hge;have e9:(xs.take (kn*3)++xs.drop ((kn+1)*3)).drop (i*3)=xs.drop ((i+1)*3):=by
           rw[show i*3=(xs.take (kn*3)).length+(i - kn)*3 by omega,yCl,yBh];rw[yAG (by omega)];simp only[yBb];congr 1;omega
          rw[e9];exact this
       ·show Rep un _ D w' (.row 0) v';simp only[Rep];exact ⟨rfl,zfb r1⟩
     |[],ha=>exact ha.elim|[_],ha=>exact ha.2.elim|[_,_],ha=>exact ha.2.2.elim|_::_::_::_::_,ha=>exact ha.2.2.2.elim
def cg177:Sg:=⟨[.one (.wr (.st 7) 75),.one (.fr (.int .i64)),.one (.fr (.sl (.st 7)))],[],[.one (.wr (.st 7) 75)],[],0⟩
def ztX(l:List Gt.Edge)(i:Int)(vs:List Gt.Edge):Option ((List Gt.Edge×Unit)⊕Unit) :=
 bif (decide (0<=i)&&Nat.ble (Int.toNat i) l.length)&&(Nat.beq vs.length 1&&Nat.ble l.length 1000000) then some (.inl (l.take (Int.toNat i)++vs++l.drop (Int.toNat i),())) else none
noncomputable def l177(_:Orc Sx):EntryL Sx:=⟨cg177,λt=>ztX t.1 t.2.1 t.2.2.1⟩
set_option maxHeartbeats 2000000 in
theorem zu8(o:Orc Sx)(_:SoundO Tryz.prog un o):EntryL.Ok Tryz.prog un 177 (l177 o):=by
 rintro ⟨l,k,vs0,⟨⟩⟩ r h D w vs H fx _ hin hbx ha
 obtain ⟨h1,h2⟩:=zae h;cases h2;simp only[yAd,decide_eq_true_eq,yAK,Nat.beq_eq] at h1;obtain ⟨⟨k0,kl⟩,hv1,hl6⟩:=h1;obtain ⟨kn,rfl⟩:∃kn:Nat,k=(kn:Int):=⟨Int.toNat k,(Int.toNat_of_nonneg k0).symm⟩;have kl:kn<=List.length (α:=Gt.Edge) l:=kl;obtain ⟨x,hx0⟩:∃x:Gt.Edge,vs0=([x]:List Gt.Edge):=by
  match vs0,hv1 with
  |[x],_=>exact ⟨x,rfl⟩
 subst hx0
 match H,hbx with
 |[],hbx=>exact hbx.elim|_::_::_,hbx=>exact hbx.2.elim|[r],hbx =>
   have hr2:=hbx.1;cases r with
   |box=>simp[BoxRep] at hr2|own=>simp[BoxRep] at hr2|ref=>simp[BoxRep] at hr2|fix=>simp[BoxRep] at hr2|nst=>simp[BoxRep] at hr2|wr v0 T' size n xs =>
     simp only[BoxRep] at hr2;obtain ⟨rfl,hsz,hn,hel⟩:=hr2;rw[ztI] at hsz;subst hsz;have hn:n=List.length (α:=Gt.Edge) l:=hn;subst hn;have hh:=hin.res _ (yBp.2 rfl)
     match vs,ha with
     |[a,b,c],ha =>
       have hv:Rep un _ D w (.row 0) a:=ha.1;have hb:Rep un _ D w (inj (S:=Sx) (.int .i64) ((kn:Nat):Int)) b:=ha.2.1;have hc:Rep un _ D w (.sl (.st 7) ([x]:List Gt.Edge)) c:=ha.2.2.1;simp only[Rep,inj] at hv hb;obtain ⟨hv,_⟩:=hv;have hv0:v0=a:=(by simp only[ids,yAn,List.map_nil,List.getElem?_cons_zero,zal,yAf,Prod.mk.injEq,true_and] at hv;exact hv);subst hv0;subst hb;obtain ⟨A,cc,news,rfl,g1,g2,g3,g4,g5⟩:=zkf zeM.flat hc;obtain ⟨ad,rfl⟩:∃ad,A=some ad:=by
        cases A with
        |none=>exact absurd (g2 rfl) (by simp)|some ad=>exact ⟨ad,rfl⟩
       rw[ztI] at g1 g4;have hnl:news.length=3:=g1;have hD:∃o,D ad.block o:=by
        simp only[Rep] at hc;cases hc with
        |sl b off c0 cs hc1 q1 q2 q3 =>
          have e1:=q1 0 x rfl;have e2:=(q2 0 x rfl).length zeM.flat
          have e3:(cs 0).length=3:=e2.trans (by simp only[zcF,ztI]);exact ⟨_,(e1 0 _ (yAe (by omega))).1⟩
       obtain ⟨od,hD⟩:=hD;have hva:∀g,v0.ownBlock=some g->ad.block≠g:=λg hg he=>by subst he;exact hin.apart _ (yBp.2 rfl) ad.block hg od trivial hD
       have hlen:=hh.1.1;obtain ⟨inf,z,e1,e2,e3,e4,e5,e6⟩:=zuB.info;rw[ztI] at e3 e4;have hone:∀u∈xs,u.oneCell'=true:=by
        intro u hu;obtain ⟨q,hq⟩:=yAl hu;have hql:q<List.length (α:=Gt.Edge) l*3:=by have:=(yAc.1 hq).1;omega
        have hqn:q / 3<List.length (α:=Gt.Edge) l:=(by omega);refine (hel (q / 3) _ (yAe (l:=(l:List Gt.Edge)) hqn)).one u (yAb (i:=q % 3) ?_);rw[yAt (by omega),yAu,Nat.div_add_mod',hq]
       refine (Ins3.ins_own (vc:=cc) Tryz.ins177 e1 e2 e3 e4 e6 hh.1 hone (i:=kn) kl hl6 hnl (λj u hj=>g3 ad rfl j u hj) g5 hva).mono ?_
       rintro y w' ⟨v',rfl,r1,r2,r4⟩
       obtain ⟨hin2,hge⟩:=ze3 hin (b:=0) rfl r1 r2 r4;refine ⟨D,_,hin2,hge,λk o hk=>.inl hk,⟨?_,trivial⟩,v',rfl,?_⟩
       ·simp only[BoxRep];refine ⟨trivial,ztI.symm,(zuy (α:=Gt.Edge) kl).symm,?_⟩;intro i y hi;have htl:(xs.take (kn*3)).length=kn*3:=by rw[yAY];omega
        by_cases h3:i<kn;·have:=(hel i y ((zuW (α:=Gt.Edge) kl h3).symm.trans hi)).mono hge;rw[yA5,List.drop_append_of_le_length (by omega),List.take_append_of_le_length (by rw[yAL];omega),List.drop_take,List.take_take,yBV (by omega)];exact this
        ·by_cases h4:i=kn
         ·subst h4;have hxy:x=y:=yAS ((zux (α:=Gt.Edge) kl).symm.trans hi);subst hxy;have:=(g4 0 x rfl).mono hge;have e8:(xs.take (i*3)++news++xs.drop (i*3)).drop (i*3)=news++xs.drop (i*3):=by
           rw[yA5,List.drop_append_of_le_length (by omega),yAG (by omega),yBb]
          rw[e8,List.take_append_of_le_length (by omega)];simpa using this
         ·have:=(hel (i - 1) y ((zuX (α:=Gt.Edge) kl (by omega)).symm.trans hi)).mono hge;have e9:(xs.take (kn*3)++news++xs.drop (kn*3)).drop (i*3)=xs.drop ((i - 1)*3):=by
           rw[show i*3=(xs.take (kn*3)++news).length+(i - kn - 1)*3 by rw[yAI];omega,yCl,yBh];rw[yAG (by omega)];simp only[yBb];congr 1;omega
          rw[e9];exact this
       ·show Rep un _ D w' (.row 0) v';simp only[Rep];exact ⟨rfl,zfb r1⟩
     |[],ha=>exact ha.elim|[_],ha=>exact ha.2.elim|[_,_],ha=>exact ha.2.2.elim|_::_::_::_::_,ha=>exact ha.2.2.2.elim
def cg81:Sg:=⟨[.one (.fr (.sl (.st 7)))],[],[.one (.wr (.st 7) 75)],[],0⟩
noncomputable def l81(_:Orc Sx):EntryL Sx:=⟨cg81,λt=>bif Nat.ble (List.length (α:=Gt.Edge) t.1) 1000000 then some (.inl (t.1,())) else none⟩
theorem zt5{w:World}{base n size:Nat}{T:TypeId}{v:Value}{xs:List Value}(h:w.ownsRow base T size v n xs):w.ownsRow 0 T size v n xs:=by
 refine ⟨h.1,?_⟩;rcases h.2 with h|⟨g,cap,cur,a,_,b⟩;·exact .inl h
 ·exact .inr ⟨g,cap,cur,a,yAA _,b⟩
theorem zvl(o:Orc Sx)(_:SoundO Tryz.prog un o):EntryL.Ok Tryz.prog un 81 (l81 o):=by
 intro t r h D w vs H fx _ hin hbx ha;obtain ⟨h1,h2⟩:=zae h;cases h2;simp only[yAK] at h1;have hH:H=[]:=by
  cases H with
  |nil=>rfl|cons r rs=>exact hbx.elim
 subst hH;have hlt:∀k o,D k o->k<w.heap.size:=hin.lt
 match vs,ha with
 |[v],ha =>
   have hv:Rep un [] D w (.sl (.st 7) t.1) v:=ha.1;obtain ⟨A,c,news,rfl,g1,g2,g3,g4,g5⟩:=zkf zeM.flat hv;cases A with
   |none =>
     have hl:t.1=[]:=g2 rfl;refine (AnyE.slices_Clone_nil Tryz.lays81 _ c w).mono ?_
     rintro x w' ⟨rfl,rfl⟩
     refine ⟨D,[.wr (.slice none 0 0) 75 3 0 []],hin.wrNil 75 3,Ge.refl _ _,λk o hk=>.inl hk,⟨?_,trivial⟩,_,rfl,?_⟩
     ·simp only[BoxRep,CTy.code];refine ⟨trivial,ztI.symm,?_,?_⟩;·show 0=List.length (α:=Gt.Edge) t.1;rw[hl];rfl
      ·intro i x hx;have hx: @Eq (Option Gt.Edge) ((id t.1:List Gt.Edge)[i]?) (some x):=hx;rw[show (id t.1:List Gt.Edge)=[] from hl] at hx;simp at hx
     ·show Rep un _ D _ (.row 0) _;simp only[Rep];exact ⟨rfl,rfl,rfl⟩
   |some ad =>
     obtain ⟨inf,z,e1,e2,e3,e4,e5,e6⟩:=zuB.info;have hlen:List.length (α:=Gt.Edge) t.1<=1000000:=h1;have hb:List.length (α:=Gt.Edge) t.1*inf.bytes<=140737488355328:=by have:List.length (α:=Gt.Edge) t.1*inf.bytes<=1000000*32768:=yCi hlen e6;omega
     refine (zt9 Tryz.lays81 inf z (U.size un (.st 7)) inf.bytes e1 e2 e3 rfl e4 e5 (λw=>by rw[show U.size un (.st 7)=3 by kernel_rfl];exact Tryz.sizeOf75 w) ad _ c news w g1 (yAo hlen (by decide)) hb (g3 ad rfl) g5).mono ?_
     rintro x w' ⟨v',rfl,hown,hbl⟩
     rw[ztI] at hown g1 g4;have hge:Ge D w D w':=⟨λ_ _ h=>h,λk o h=>World.cell?_of_block (hbl.block k (hlt k o h))⟩;have hnew:∀g,v'.ownBlock=some g->w.heap.size<=g:=by
      intro g hg;rcases hown.2 with ⟨rfl,_⟩|⟨g',cap,cur,rfl,hb,_⟩;·simp[Value.ownBlock] at hg
      ·simp[Value.ownBlock] at hg;omega
     have hin2:In ⟨w,zaB [],fx⟩ D ([]++[.wr v' 75 3 (List.length (α:=Gt.Edge) t.1) news]) w' :=
      hin.push hbl ⟨zt5 hown,λg hg=>.inl (hnew g hg)⟩ (λg hg=>hnew g hg) (λk o hk=>.inl hk) (λk o hk=>yAq (hlt k o hk) hbl.size) (λg hg o _ hk=>by have:=hnew g hg;have:=hlt _ o hk;omega)
     refine ⟨D,[.wr v' 75 3 (List.length (α:=Gt.Edge) t.1) news],hin2,hge,λk o hk=>.inl hk,⟨?_,trivial⟩,_,rfl,?_⟩;·simp only[BoxRep,CTy.code];exact ⟨trivial,ztI.symm,rfl,λi x hx=>(g4 i x hx).mono hge⟩
     ·show Rep un _ D w' (.row 0) v';simp only[Rep];exact ⟨rfl,zfb hown⟩
 |[],ha=>exact ha.elim|_::_::_,ha=>exact ha.2.elim
end Pe.Tryz
end
section
set_option maxRecDepth 100000
namespace Pe.Tryz
open Go Go.Proofs Pe
noncomputable def tabN(o:Orc Sx):Tr (Entry Sx):=(.node (.node (.node (.node (.node (.node (.node .leaf 10 (e10 o) .leaf) 14 (e14 o) (.node .leaf 18 (e18 o) .leaf)) 19 (e19 o) (.node (.node .leaf 26 (e26 o) .leaf) 38 (e38 o) .leaf)) 40 (e40 o) (.node (.node (.node .leaf 41 (e41 o) .leaf) 43 (e43 o) .leaf) 44 (e44 o) (.node (.node .leaf 45 (e45 o) .leaf) 54 (e54 o) .leaf))) 55 (e55 o) (.node (.node (.node (.node .leaf 56 (e56 o) .leaf) 57 (e57 o) .leaf) 58 (e58 o) (.node (.node .leaf 59 (e59 o) .leaf) 66 (e66 o) .leaf)) 67 (e67 o) (.node (.node (.node .leaf 68 (e68 o) .leaf) 69 (e69 o) .leaf) 70 (e70 o) (.node (.node .leaf 79 (e79 o) .leaf) 85 (e85 o) .leaf)))) 86 (e86 o) (.node (.node (.node (.node (.node .leaf 87 (e87 o) .leaf) 88 (e88 o) (.node .leaf 90 (e90 o) .leaf)) 100 (e100 o) (.node (.node .leaf 102 (e102 o) .leaf) 109 (e109 o) .leaf)) 110 (e110 o) (.node (.node (.node .leaf 111 (e111 o) .leaf) 112 (e112 o) .leaf) 113 (e113 o) (.node (.node .leaf 117 (e117 o) .leaf) 120 (e120 o) .leaf))) 122 (e122 o) (.node (.node (.node (.node .leaf 123 (e123 o) .leaf) 126 (e126 o) .leaf) 133 (e133 o) (.node (.node .leaf 134 (e134 o) .leaf) 138 (e138 o) .leaf)) 142 (e142 o) (.node (.node (.node .leaf 143 (e143 o) .leaf) 144 (e144 o) .leaf) 147 (e147 o) (.node (.node .leaf 149 (e149 o) .leaf) 150 (e150 o) .leaf))))) 151 (e151 o) (.node (.node (.node (.node (.node (.node .leaf 152 (e152 o) .leaf) 153 (e153 o) (.node .leaf 154 (e154 o) .leaf)) 155 (e155 o) (.node (.node .leaf 160 (e160 o) .leaf) 161 (e161 o) .leaf)) 162 (e162 o) (.node (.node (.node .leaf 163 (e163 o) .leaf) 164 (e164 o) .leaf) 165 (e165 o) (.node (.node .leaf 169 (e169 o) .leaf) 170 (e170 o) .leaf))) 171 (e171 o) (.node (.node (.node (.node .leaf 178 (e178 o) .leaf) 179 (e179 o) .leaf) 191 (e191 o) (.node (.node .leaf 211 (e211 o) .leaf) 212 (e212 o) .leaf)) 213 (e213 o) (.node (.node (.node .leaf 214 (e214 o) .leaf) 215 (e215 o) .leaf) 216 (e216 o) (.node (.node .leaf 218 (e218 o) .leaf) 219 (e219 o) .leaf)))) 225 (e225 o) (.node (.node (.node (.node (.node .leaf 226 (e226 o) .leaf) 227 (e227 o) (.node .leaf 233 (e233 o) .leaf)) 234 (e234 o) (.node (.node .leaf 235 (e235 o) .leaf) 240 (e240 o) .leaf)) 262 (e262 o) (.node (.node (.node .leaf 266 (e266 o) .leaf) 269 (e269 o) .leaf) 272 (e272 o) (.node (.node .leaf 275 (e275 o) .leaf) 280 (e280 o) .leaf))) 281 (e281 o) (.node (.node (.node (.node .leaf 293 (e293 o) .leaf) 294 (e294 o) .leaf) 295 (e295 o) (.node (.node .leaf 303 (e303 o) .leaf) 304 (e304 o) .leaf)) 305 (e305 o) (.node (.node (.node .leaf 306 (e306 o) .leaf) 315 (e315 o) .leaf) 316 (e316 o) (.node (.node .leaf 326 (e326 o) .leaf) 327 (e327 o) .leaf))))))
noncomputable def tabE(o:Orc Sx):Tr (EntryE Sx):=(.node (.node (.node (.node .leaf 263 (e263 o) .leaf) 264 (e264 o) (.node .leaf 265 (e265 o) .leaf)) 277 (e277 o) (.node (.node .leaf 278 (e278 o) .leaf) 279 (e279 o) (.node .leaf 291 (e291 o) .leaf))) 292 (e292 o) (.node (.node (.node .leaf 308 (e308 o) .leaf) 312 (e312 o) (.node .leaf 313 (e313 o) .leaf)) 314 (e314 o) (.node (.node .leaf 324 (e324 o) .leaf) 325 (e325 o) (.node .leaf 333 (e333 o) .leaf))))
noncomputable def tabL(o:Orc Sx):Tr (EntryL Sx):=(.node (.node (.node (.node (.node .leaf 80 (e80 o) .leaf) 81 (l81 o) .leaf) 82 (e82 o) (.node .leaf 84 (e84 o) .leaf)) 124 (e124 o) (.node (.node .leaf 125 (e125 o) .leaf) 127 (e127 o) (.node .leaf 128 (e128 o) .leaf))) 129 (e129 o) (.node (.node (.node .leaf 132 (e132 o) .leaf) 168 (e168 o) (.node .leaf 172 (e172 o) .leaf)) 173 (l173 o) (.node (.node .leaf 174 (l174 o) .leaf) 176 (l176 o) (.node .leaf 177 (l177 o) .leaf))))
theorem zro(o:Orc Sx)(h:SoundO Tryz.prog un o):(tabN o).All (Entry.Ok Tryz.prog un):=⟨⟨⟨⟨⟨⟨⟨trivial,ok10 o h,trivial⟩,ok14 o h,⟨trivial,ok18 o h,trivial⟩⟩,ok19 o h,⟨⟨trivial,ok26 o h,trivial⟩,ok38 o h,trivial⟩⟩,ok40 o h,⟨⟨⟨trivial,ok41 o h,trivial⟩,ok43 o h,trivial⟩,ok44 o h,⟨⟨trivial,ok45 o h,trivial⟩,ok54 o h,trivial⟩⟩⟩,ok55 o h,⟨⟨⟨⟨trivial,ok56 o h,trivial⟩,ok57 o h,trivial⟩,ok58 o h,⟨⟨trivial,ok59 o h,trivial⟩,ok66 o h,trivial⟩⟩,ok67 o h,⟨⟨⟨trivial,ok68 o h,trivial⟩,ok69 o h,trivial⟩,ok70 o h,⟨⟨trivial,ok79 o h,trivial⟩,ok85 o h,trivial⟩⟩⟩⟩,ok86 o h,⟨⟨⟨⟨⟨trivial,ok87 o h,trivial⟩,ok88 o h,⟨trivial,ok90 o h,trivial⟩⟩,ok100 o h,⟨⟨trivial,ok102 o h,trivial⟩,ok109 o h,trivial⟩⟩,ok110 o h,⟨⟨⟨trivial,hok111 o h,trivial⟩,hok112 o h,trivial⟩,hok113 o h,⟨⟨trivial,ok117 o h,trivial⟩,ok120 o h,trivial⟩⟩⟩,ok122 o h,⟨⟨⟨⟨trivial,ok123 o h,trivial⟩,ok126 o h,trivial⟩,ok133 o h,⟨⟨trivial,ok134 o h,trivial⟩,ok138 o h,trivial⟩⟩,ok142 o h,⟨⟨⟨trivial,ok143 o h,trivial⟩,ok144 o h,trivial⟩,ok147 o h,⟨⟨trivial,ok149 o h,trivial⟩,ok150 o h,trivial⟩⟩⟩⟩⟩,ok151 o h,⟨⟨⟨⟨⟨⟨trivial,ok152 o h,trivial⟩,hok153 o h,⟨trivial,ok154 o h,trivial⟩⟩,ok155 o h,⟨⟨trivial,ok160 o h,trivial⟩,ok161 o h,trivial⟩⟩,ok162 o h,⟨⟨⟨trivial,hok163 o h,trivial⟩,ok164 o h,trivial⟩,ok165 o h,⟨⟨trivial,ok169 o h,trivial⟩,ok170 o h,trivial⟩⟩⟩,ok171 o h,⟨⟨⟨⟨trivial,ok178 o h,trivial⟩,ok179 o h,trivial⟩,ok191 o h,⟨⟨trivial,ok211 o h,trivial⟩,ok212 o h,trivial⟩⟩,ok213 o h,⟨⟨⟨trivial,ok214 o h,trivial⟩,ok215 o h,trivial⟩,hok216 o h,⟨⟨trivial,ok218 o h,trivial⟩,hok219 o h,trivial⟩⟩⟩⟩,ok225 o h,⟨⟨⟨⟨⟨trivial,ok226 o h,trivial⟩,ok227 o h,⟨trivial,ok233 o h,trivial⟩⟩,hok234 o h,⟨⟨trivial,ok235 o h,trivial⟩,ok240 o h,trivial⟩⟩,ok262 o h,⟨⟨⟨trivial,ok266 o h,trivial⟩,ok269 o h,trivial⟩,ok272 o h,⟨⟨trivial,ok275 o h,trivial⟩,ok280 o h,trivial⟩⟩⟩,ok281 o h,⟨⟨⟨⟨trivial,ok293 o h,trivial⟩,ok294 o h,trivial⟩,ok295 o h,⟨⟨trivial,ok303 o h,trivial⟩,ok304 o h,trivial⟩⟩,hok305 o h,⟨⟨⟨trivial,ok306 o h,trivial⟩,ok315 o h,trivial⟩,ok316 o h,⟨⟨trivial,ok326 o h,trivial⟩,ok327 o h,trivial⟩⟩⟩⟩⟩⟩
theorem zrq(o:Orc Sx)(h:SoundO Tryz.prog un o):(tabE o).All (EntryE.Ok Tryz.prog un):=⟨⟨⟨⟨trivial,ok263 o h,trivial⟩,ok264 o h,⟨trivial,ok265 o h,trivial⟩⟩,ok277 o h,⟨⟨trivial,ok278 o h,trivial⟩,ok279 o h,⟨trivial,ok291 o h,trivial⟩⟩⟩,ok292 o h,⟨⟨⟨trivial,ok308 o h,trivial⟩,ok312 o h,⟨trivial,ok313 o h,trivial⟩⟩,ok314 o h,⟨⟨trivial,ok324 o h,trivial⟩,ok325 o h,⟨trivial,ok333 o h,trivial⟩⟩⟩⟩
theorem zrp(o:Orc Sx)(h:SoundO Tryz.prog un o):(tabL o).All (EntryL.Ok Tryz.prog un):=⟨⟨⟨⟨⟨trivial,ok80 o h,trivial⟩,zvl o h,trivial⟩,ok82 o h,⟨trivial,ok84 o h,trivial⟩⟩,ok124 o h,⟨⟨trivial,ok125 o h,trivial⟩,ok127 o h,⟨trivial,ok128 o h,trivial⟩⟩⟩,ok129 o h,⟨⟨⟨trivial,ok132 o h,trivial⟩,ok168 o h,⟨trivial,ok172 o h,trivial⟩⟩,zvb o h,⟨⟨trivial,zva o h,trivial⟩,zu9 o h,⟨trivial,zu8 o h,trivial⟩⟩⟩⟩
noncomputable def zah:Nat->Orc Sx|0=>⟨λ_ _ _=>none,λ_ _ _ _ _ _ _ _=>none,λ_ _ _=>none⟩|n+1=>zsh (tabN (zah n)) (tabE (zah n)) (tabL (zah n))
theorem zdl:∀n,SoundO Tryz.prog un (zah n)|0=>⟨λ_ _ _ _ h=>(by cases h),λ_ _ _ _ _ _ _ _ _ h=>(by cases h),λ_ _ _ _ h=>(by cases h)⟩|n+1=>znP (zro _ (zdl n)) (zrq _ (zdl n)) (zrp _ (zdl n))
end Pe.Tryz
end
section
set_option maxRecDepth 100000
namespace Pe.Tryz
open Go Go.Proofs Pe
theorem q14(n:Nat)(b:Gt.Bill)(to:(List UInt8))(scope:Int): @Eq (Option (List (List UInt8)×Int×Unit)) ((zah (n+1)).d 14 [.st 3 b,.str to,.int .i64 scope] [(.sl .str),(.int .i64)]) (m14 (zah n) b to scope):=by kernel_rfl
theorem q18(n:Nat)(s1':(List (List UInt8)))(s2':(List (List UInt8))): @Eq (Option (Bool×Unit)) ((zah (n+1)).d 18 [.sl .str s1',.sl .str s2'] [.bool]) (m18 (zah n) s1' s2'):=by kernel_rfl
theorem q19(n:Nat)  : @Eq (Option (Bool×Unit)) ((zah (n+1)).d 19 [] [.bool]) (m19 (zah n) ):=by kernel_rfl
theorem q26(n:Nat)(a:Gt.Component)(b:Gt.Component): @Eq (Option (Bool×Unit)) ((zah (n+1)).d 26 [.st 5 a,.st 5 b] [.bool]) (m26 (zah n) a b):=by kernel_rfl
theorem q38(n:Nat)(a:Gt.Bill)(b:Gt.Bill): @Eq (Option (Bool×Unit)) ((zah (n+1)).d 38 [.st 3 a,.st 3 b] [.bool]) (m38 (zah n) a b):=by kernel_rfl
theorem q40(n:Nat)(b:Gt.Bill): @Eq (Option (Int×Unit)) ((zah (n+1)).d 40 [.st 3 b] [(.int .i64)]) (m40 (zah n) b):=by kernel_rfl
theorem q41(n:Nat)(b:Gt.Bill)(l:(List Gt.BillChange)): @Eq (Option (Gt.Bill×Int×Int×Unit)) ((zah (n+1)).d 41 [.st 3 b,.sl (.st 4) l] [(.st 3),(.int .i64),(.int .i64)]) (m41 (zah n) b l):=by kernel_rfl
theorem q43(n:Nat)(a:Gt.Bill)(b:Gt.Bill): @Eq (Option (List (Gt.BillChange)×Int×Unit)) ((zah (n+1)).d 43 [.st 3 a,.st 3 b] [(.sl (.st 4)),(.int .i64)]) (m43 (zah n) a b):=by kernel_rfl
theorem q44(n:Nat)(a:Gt.Bill)(b:Gt.Bill): @Eq (Option (List (Gt.BillChange)×Int×Unit)) ((zah (n+1)).d 44 [.st 3 a,.st 3 b] [(.sl (.st 4)),(.int .i64)]) (m44 (zah n) a b):=by kernel_rfl
theorem q45(n:Nat)(a:(List Gt.BillChange))(b:(List Gt.BillChange)): @Eq (Option (Bool×Unit)) ((zah (n+1)).d 45 [.sl (.st 4) a,.sl (.st 4) b] [.bool]) (m45 (zah n) a b):=by kernel_rfl
theorem q54(n:Nat)(b:Gt.Bill): @Eq (Option (Int×Unit)) ((zah (n+1)).d 54 [.st 3 b] [(.int .i64)]) (m54 (zah n) b):=by kernel_rfl
theorem q55(n:Nat)(s1':(List Gt.Edge))(s2':(List Gt.Edge)): @Eq (Option (Bool×Unit)) ((zah (n+1)).d 55 [.sl (.st 7) s1',.sl (.st 7) s2'] [.bool]) (m55 (zah n) s1' s2'):=by kernel_rfl
theorem q56(n:Nat)(b:Gt.Bill)(ref:(List UInt8))(scope:Int): @Eq (Option (Gt.Gf×Int×Int×Unit)) ((zah (n+1)).d 56 [.st 3 b,.str ref,.int .i64 scope] [(.st 14),(.int .i64),(.int .i64)]) (m56 (zah n) b ref scope):=by kernel_rfl
theorem q57(n:Nat)(g:Gt.Gf)(to:Int): @Eq (Option (List (Int)×Unit)) ((zah (n+1)).d 57 [.st 14 g,.int .i64 to] [(.sl (.int .i64))]) (m57 (zah n) g to):=by kernel_rfl
theorem q58(n:Nat)(next:(List (List Int)))(from':Int)(zaG:Int): @Eq (Option (List (Int)×Unit)) ((zah (n+1)).d 58 [.sl (.sl (.int .i64)) next,.int .i64 from',.int .i64 zaG] [(.sl (.int .i64))]) (m58 (zah n) next from' zaG):=by kernel_rfl
theorem q59(n:Nat)(g:Gt.Gf)(l:(List Int)): @Eq (Option (List (List UInt8)×Unit)) ((zah (n+1)).d 59 [.st 14 g,.sl (.int .i64) l] [(.sl .str)]) (m59 (zah n) g l):=by kernel_rfl
theorem q66(n:Nat)(s:(List UInt8)): @Eq (Option (Gt.Component×Unit)) ((zah (n+1)).d 66 [.str s] [(.st 5)]) (m66 (zah n) s):=by kernel_rfl
theorem q67(n:Nat)(b:Gt.Bill)(ref:(List UInt8)): @Eq (Option (Int×Bool×Unit)) ((zah (n+1)).d 67 [.st 3 b,.str ref] [(.int .i64),.bool]) (m67 (zah n) b ref):=by kernel_rfl
theorem q68(n:Nat)(c:Gt.Component): @Eq (Option (Gt.Component×Unit)) ((zah (n+1)).d 68 [.st 5 c] [(.st 5)]) (m68 (zah n) c):=by kernel_rfl
theorem q69(n:Nat)(a:(List (List UInt8)))(b:(List (List UInt8))): @Eq (Option (Bool×Unit)) ((zah (n+1)).d 69 [.sl .str a,.sl .str b] [.bool]) (m69 (zah n) a b):=by kernel_rfl
theorem q70(n:Nat)(a:Gt.Purl)(b:Gt.Purl): @Eq (Option (Bool×Unit)) ((zah (n+1)).d 70 [.st 11 a,.st 11 b] [.bool]) (m70 (zah n) a b):=by kernel_rfl
theorem q79(n:Nat)(b:Gt.Bill)(scope:Int): @Eq (Option (Gt.Gf×Int×Unit)) ((zah (n+1)).d 79 [.st 3 b,.int .i64 scope] [(.st 14),(.int .i64)]) (m79 (zah n) b scope):=by kernel_rfl
theorem q80(n:Nat)(b0_0:List ((List UInt8)×(Bool)))(k_0:Bool)(b:Gt.Bill): @Eq (Option ((List ((List UInt8)×(Bool))×Int×Unit)⊕(Unit))) ((zah (n+1)).l 80 sg80 ((b0_0,k_0,b,()):List ((List UInt8)×(Bool))×Bool×Gt.Bill×Unit)) (m80 (zah n) b0_0 k_0 b):=by kernel_rfl
theorem q82(n:Nat)(b0_0:List UInt8)(b0_1:List UInt8)(b0_2:List UInt8)(b0_3:List (Gt.Component))(b0_4:List (Gt.Edge))(c:Gt.BillChange): @Eq (Option ((List UInt8×List UInt8×List UInt8×List (Gt.Component)×List (Gt.Edge)×Int×Unit)⊕(Unit))) ((zah (n+1)).l 82 sg82 ((b0_0,b0_1,b0_2,b0_3,b0_4,c,()):List UInt8×List UInt8×List UInt8×List (Gt.Component)×List (Gt.Edge)×Gt.BillChange×Unit)) (m82 (zah n) b0_0 b0_1 b0_2 b0_3 b0_4 c):=by kernel_rfl
theorem q84(n:Nat)(slices:List (List (Gt.BillChange))): @Eq (Option ((List (Gt.BillChange)×Unit)⊕(Unit))) ((zah (n+1)).l 84 sg84 ((slices,()):List (List (Gt.BillChange))×Unit)) (m84 (zah n) slices):=by kernel_rfl
theorem q85(n:Nat)(ref:(List UInt8))(old:(List UInt8))(new:(List UInt8)): @Eq (Option (List (Gt.BillChange)×Unit)) ((zah (n+1)).d 85 [.str ref,.str old,.str new] [(.sl (.st 4))]) (m85 (zah n) ref old new):=by kernel_rfl
theorem q86(n:Nat)(a:Gt.Bill)(b:Gt.Bill): @Eq (Option (List (Gt.BillChange)×Unit)) ((zah (n+1)).d 86 [.st 3 a,.st 3 b] [(.sl (.st 4))]) (m86 (zah n) a b):=by kernel_rfl
theorem q87(n:Nat)(a:Gt.Bill)(b:Gt.Bill): @Eq (Option (List (Gt.BillChange)×Unit)) ((zah (n+1)).d 87 [.st 3 a,.st 3 b] [(.sl (.st 4))]) (m87 (zah n) a b):=by kernel_rfl
theorem q88(n:Nat)(a:Gt.Edge)(b:Gt.Edge): @Eq (Option (Int×Unit)) ((zah (n+1)).d 88 [.st 7 a,.st 7 b] [(.int .i64)]) (m88 (zah n) a b):=by kernel_rfl
theorem q90(n:Nat)(x:Gt.BillChange)(y:Gt.BillChange): @Eq (Option (Bool×Unit)) ((zah (n+1)).d 90 [.st 4 x,.st 4 y] [.bool]) (m90 (zah n) x y):=by kernel_rfl
theorem q100(n:Nat)(a:Gt.Edge)(b:Gt.Edge): @Eq (Option (Int×Unit)) ((zah (n+1)).d 100 [.st 7 a,.st 7 b] [(.int .i64)]) (m100 (zah n) a b):=by kernel_rfl
theorem q102(n:Nat)(b:Gt.Bill)(order:Bool): @Eq (Option (Int×Unit)) ((zah (n+1)).d 102 [.st 3 b,.bool order] [(.int .i64)]) (m102 (zah n) b order):=by kernel_rfl
theorem q109(n:Nat)(c:Gt.Component)(s:(List UInt8)): @Eq (Option (Int×Unit)) ((zah (n+1)).d 109 [.st 5 c,.str s] [(.int .i64)]) (m109 (zah n) c s):=by kernel_rfl
theorem q110(n:Nat)(x:(List UInt8))(y:(List UInt8)): @Eq (Option (Int×Unit)) ((zah (n+1)).d 110 [.str x,.str y] [(.int .i64)]) (m110 (zah n) x y):=by kernel_rfl
theorem q117(n:Nat)(p:Gt.Purl): @Eq (Option (Int×Unit)) ((zah (n+1)).d 117 [.st 11 p] [(.int .i64)]) (m117 (zah n) p):=by kernel_rfl
theorem q120(n:Nat)(p:Gt.Purl): @Eq (Option (Int×Unit)) ((zah (n+1)).d 120 [.st 11 p] [(.int .i64)]) (m120 (zah n) p):=by kernel_rfl
theorem q122(n:Nat)(b:Gt.Bill)(scope:Int): @Eq (Option (Gt.Gf×Unit)) ((zah (n+1)).d 122 [.st 3 b,.int .i64 scope] [(.st 14)]) (m122 (zah n) b scope):=by kernel_rfl
theorem q123(n:Nat)(s:(List UInt8)): @Eq (Option (Bool×Unit)) ((zah (n+1)).d 123 [.str s] [.bool]) (m123 (zah n) s):=by kernel_rfl
theorem q124(n:Nat)(b0_0:List ((List UInt8)×(Bool)))(k_0:Bool)(c:Gt.Component): @Eq (Option ((List ((List UInt8)×(Bool))×Int×Unit)⊕(Unit))) ((zah (n+1)).l 124 sg124 ((b0_0,k_0,c,()):List ((List UInt8)×(Bool))×Bool×Gt.Component×Unit)) (m124 (zah n) b0_0 k_0 c):=by kernel_rfl
theorem q125(n:Nat)(b0_0:List ((List UInt8)×(Bool)))(k_0:Bool)(l:List (Gt.Edge)): @Eq (Option ((List ((List UInt8)×(Bool))×Int×Unit)⊕(Unit))) ((zah (n+1)).l 125 sg125 ((b0_0,k_0,l,()):List ((List UInt8)×(Bool))×Bool×List (Gt.Edge)×Unit)) (m125 (zah n) b0_0 k_0 l):=by kernel_rfl
theorem q126(n:Nat)(c:Gt.BillChange): @Eq (Option (Bool×Unit)) ((zah (n+1)).d 126 [.st 4 c] [.bool]) (m126 (zah n) c):=by kernel_rfl
theorem q127(n:Nat)(b0_0:List UInt8)(b0_1:List UInt8)(b0_2:List UInt8)(b0_3:List (Gt.Component))(b0_4:List (Gt.Edge))(c:Gt.BillChange): @Eq (Option ((List UInt8×List UInt8×List UInt8×List (Gt.Component)×List (Gt.Edge)×Unit)⊕(Unit))) ((zah (n+1)).l 127 sg127 ((b0_0,b0_1,b0_2,b0_3,b0_4,c,()):List UInt8×List UInt8×List UInt8×List (Gt.Component)×List (Gt.Edge)×Gt.BillChange×Unit)) (m127 (zah n) b0_0 b0_1 b0_2 b0_3 b0_4 c):=by kernel_rfl
theorem q128(n:Nat)(b0_0:List UInt8)(b0_1:List UInt8)(b0_2:List UInt8)(b0_3:List (Gt.Component))(b0_4:List (Gt.Edge))(c:Gt.BillChange): @Eq (Option ((List UInt8×List UInt8×List UInt8×List (Gt.Component)×List (Gt.Edge)×Int×Unit)⊕(Unit))) ((zah (n+1)).l 128 sg128 ((b0_0,b0_1,b0_2,b0_3,b0_4,c,()):List UInt8×List UInt8×List UInt8×List (Gt.Component)×List (Gt.Edge)×Gt.BillChange×Unit)) (m128 (zah n) b0_0 b0_1 b0_2 b0_3 b0_4 c):=by kernel_rfl
theorem q129(n:Nat)(b0_0:List UInt8)(b0_1:List UInt8)(b0_2:List UInt8)(b0_3:List (Gt.Component))(b0_4:List (Gt.Edge))(c:Gt.BillChange): @Eq (Option ((List UInt8×List UInt8×List UInt8×List (Gt.Component)×List (Gt.Edge)×Int×Unit)⊕(Unit))) ((zah (n+1)).l 129 sg129 ((b0_0,b0_1,b0_2,b0_3,b0_4,c,()):List UInt8×List UInt8×List UInt8×List (Gt.Component)×List (Gt.Edge)×Gt.BillChange×Unit)) (m129 (zah n) b0_0 b0_1 b0_2 b0_3 b0_4 c):=by kernel_rfl
theorem q132(nD:Nat)(n:Int): @Eq (Option ((List (Gt.BillChange)×Unit)⊕(Unit))) ((zah (nD+1)).l 132 sg132 ((n,()):Int×Unit)) (m132 (zah nD) n):=by kernel_rfl
theorem q133(n:Nat)(a:Gt.Component)(b:Gt.Component): @Eq (Option (Bool×Unit)) ((zah (n+1)).d 133 [.st 5 a,.st 5 b] [.bool]) (m133 (zah n) a b):=by kernel_rfl
theorem q134(n:Nat)(a:(List UInt8))(b:(List UInt8)): @Eq (Option (Int×Unit)) ((zah (n+1)).d 134 [.str a,.str b] [(.int .i64)]) (m134 (zah n) a b):=by kernel_rfl
theorem q138(n:Nat)(x:Int)(y:Int): @Eq (Option (Int×Unit)) ((zah (n+1)).d 138 [.int .i64 x,.int .i64 y] [(.int .i64)]) (m138 (zah n) x y):=by kernel_rfl
theorem q142(n:Nat)(vals:(List Int)): @Eq (Option (Int×Unit)) ((zah (n+1)).d 142 [.sl (.int .i64) vals] [(.int .i64)]) (m142 (zah n) vals):=by kernel_rfl
theorem q143(n:Nat)(s:(List UInt8)): @Eq (Option (Bool×Unit)) ((zah (n+1)).d 143 [.str s] [.bool]) (m143 (zah n) s):=by kernel_rfl
theorem q144(n:Nat)(c:Gt.Component)(order:Bool): @Eq (Option (Int×Unit)) ((zah (n+1)).d 144 [.st 5 c,.bool order] [(.int .i64)]) (m144 (zah n) c order):=by kernel_rfl
theorem q147(n:Nat)(x:(List UInt8)): @Eq (Option (Bool×Unit)) ((zah (n+1)).d 147 [.str x] [.bool]) (m147 (zah n) x):=by kernel_rfl
theorem q149(n:Nat)(kind:(List UInt8)): @Eq (Option (Gt.KindRule×Int×Unit)) ((zah (n+1)).d 149 [.str kind] [(.st 8),(.int .i64)]) (m149 (zah n) kind):=by kernel_rfl
theorem q150(n:Nat)(p:Gt.Purl): @Eq (Option (Bool×Unit)) ((zah (n+1)).d 150 [.st 11 p] [.bool]) (m150 (zah n) p):=by kernel_rfl
theorem q151(n:Nat)(l:(List (List UInt8)))(dots:Bool): @Eq (Option (Bool×Unit)) ((zah (n+1)).d 151 [.sl .str l,.bool dots] [.bool]) (m151 (zah n) l dots):=by kernel_rfl
theorem q152(n:Nat)(s:(List UInt8)): @Eq (Option (List (List UInt8)×Unit)) ((zah (n+1)).d 152 [.str s] [(.sl .str)]) (m152 (zah n) s):=by kernel_rfl
theorem q154(n:Nat)(l:(List Gt.Pair)): @Eq (Option (Int×Unit)) ((zah (n+1)).d 154 [.sl (.st 10) l] [(.int .i64)]) (m154 (zah n) l):=by kernel_rfl
theorem q155(n:Nat)(s:(List UInt8)): @Eq (Option (Bool×Unit)) ((zah (n+1)).d 155 [.str s] [.bool]) (m155 (zah n) s):=by kernel_rfl
theorem q160(n:Nat)(kind:(List UInt8)): @Eq (Option (Gt.KindRule×Int×Unit)) ((zah (n+1)).d 160 [.str kind] [(.st 8),(.int .i64)]) (m160 (zah n) kind):=by kernel_rfl
theorem q161(n:Nat)(l:(List (List UInt8))): @Eq (Option (Bool×Unit)) ((zah (n+1)).d 161 [.sl .str l] [.bool]) (m161 (zah n) l):=by kernel_rfl
theorem q162(n:Nat)(s:(List UInt8))(dots:Bool): @Eq (Option (Bool×Unit)) ((zah (n+1)).d 162 [.str s,.bool dots] [.bool]) (m162 (zah n) s dots):=by kernel_rfl
theorem q164(n:Nat)(s:(List UInt8)): @Eq (Option (Bool×Unit)) ((zah (n+1)).d 164 [.str s] [.bool]) (m164 (zah n) s):=by kernel_rfl
theorem q165(n:Nat)(s:(List UInt8)): @Eq (Option (Bool×Unit)) ((zah (n+1)).d 165 [.str s] [.bool]) (m165 (zah n) s):=by kernel_rfl
theorem q168(n:Nat)(s:List (Int)): @Eq (Option ((List (Int)×Unit)⊕(Unit))) ((zah (n+1)).l 168 sg168 ((s,()):List (Int)×Unit)) (m168 (zah n) s):=by kernel_rfl
theorem q169(n:Nat)(s:(List UInt8))(most:Int): @Eq (Option (Bool×Unit)) ((zah (n+1)).d 169 [.str s,.int .i64 most] [.bool]) (m169 (zah n) s most):=by kernel_rfl
theorem q170(n:Nat)(l:(List Gt.Digest)): @Eq (Option (Int×Unit)) ((zah (n+1)).d 170 [.sl (.st 6) l] [(.int .i64)]) (m170 (zah n) l):=by kernel_rfl
theorem q171(n:Nat)(s:(List UInt8)): @Eq (Option (LicSpec.Ex×Int×Int×Unit)) ((zah (n+1)).d 171 [.str s] [(.st 9),(.int .i64),(.int .i64)]) (m171 (zah n) s):=by kernel_rfl
theorem q172(n:Nat)(b0_0:List ((List UInt8)×(Bool)))(k_0:Bool)(l:List (List UInt8)): @Eq (Option ((List ((List UInt8)×(Bool))×Int×Unit)⊕(Unit))) ((zah (n+1)).l 172 sg172 ((b0_0,k_0,l,()):List ((List UInt8)×(Bool))×Bool×List (List UInt8)×Unit)) (m172 (zah n) b0_0 k_0 l):=by kernel_rfl
theorem q178(n:Nat)(a:Gt.Purl)(b:Gt.Purl): @Eq (Option (Bool×Unit)) ((zah (n+1)).d 178 [.st 11 a,.st 11 b] [.bool]) (m178 (zah n) a b):=by kernel_rfl
theorem q179(n:Nat)(s1':(List Gt.Digest))(s2':(List Gt.Digest)): @Eq (Option (Bool×Unit)) ((zah (n+1)).d 179 [.sl (.st 6) s1',.sl (.st 6) s2'] [.bool]) (m179 (zah n) s1' s2'):=by kernel_rfl
theorem q191(n:Nat)(x:Int): @Eq (Option (Bool×Unit)) ((zah (n+1)).d 191 [.int .i64 x] [.bool]) (m191 (zah n) x):=by kernel_rfl
theorem q211(n:Nat)(s:(List UInt8))(low:Int)(most:Int): @Eq (Option (Bool×Unit)) ((zah (n+1)).d 211 [.str s,.int .i64 low,.int .i64 most] [.bool]) (m211 (zah n) s low most):=by kernel_rfl
theorem q212(n:Nat)(l:(List Gt.Digest)): @Eq (Option (Int×Unit)) ((zah (n+1)).d 212 [.sl (.st 6) l] [(.int .i64)]) (m212 (zah n) l):=by kernel_rfl
theorem q213(n:Nat)(s:(List UInt8)): @Eq (Option (LicSpec.Ex×Int×Int×Unit)) ((zah (n+1)).d 213 [.str s] [(.st 9),(.int .i64),(.int .i64)]) (m213 (zah n) s):=by kernel_rfl
theorem q214(n:Nat)(kind:(List UInt8)): @Eq (Option (Int×Unit)) ((zah (n+1)).d 214 [.str kind] [(.int .i64)]) (m214 (zah n) kind):=by kernel_rfl
theorem q215(n:Nat)  : @Eq (Option (Gt.A5_api_KindRule×Unit)) ((zah (n+1)).d 215 [] [(.st 2)]) (m215 (zah n) ):=by kernel_rfl
theorem q218(n:Nat)(s:(List UInt8)): @Eq (Option (Bool×Unit)) ((zah (n+1)).d 218 [.str s] [.bool]) (m218 (zah n) s):=by kernel_rfl
theorem q225(n:Nat)(kind:(List UInt8)): @Eq (Option (Int×Unit)) ((zah (n+1)).d 225 [.str kind] [(.int .i64)]) (m225 (zah n) kind):=by kernel_rfl
theorem q226(n:Nat)  : @Eq (Option (List (Gt.KindRule)×Unit)) ((zah (n+1)).d 226 [] [(.sl (.st 8))]) (m226 (zah n) ):=by kernel_rfl
theorem q227(n:Nat)(s:(List UInt8)): @Eq (Option (List (List UInt8)×Unit)) ((zah (n+1)).d 227 [.str s] [(.sl .str)]) (m227 (zah n) s):=by kernel_rfl
theorem q233(nD:Nat)(s:(List UInt8))(n:Int): @Eq (Option (Bool×Unit)) ((zah (nD+1)).d 233 [.str s,.int .i64 n] [.bool]) (m233 (zah nD) s n):=by kernel_rfl
theorem q235(n:Nat)(e:LicSpec.Ex): @Eq (Option (Int×Unit)) ((zah (n+1)).d 235 [.st 9 e] [(.int .i64)]) (m235 (zah n) e):=by kernel_rfl
theorem q240(n:Nat)(s1':(List Gt.Pair))(s2':(List Gt.Pair)): @Eq (Option (Bool×Unit)) ((zah (n+1)).d 240 [.sl (.st 10) s1',.sl (.st 10) s2'] [.bool]) (m240 (zah n) s1' s2'):=by kernel_rfl
theorem q262(nD:Nat)(s:(List UInt8))(n:Int): @Eq (Option (Bool×Unit)) ((zah (nD+1)).d 262 [.str s,.int .i64 n] [.bool]) (m262 (zah nD) s n):=by kernel_rfl
theorem q263(n:Nat)(rc:Gt.R3×Unit)(kind:Int)(deep:Int): @Eq (Option (((Gt.R3×Unit)×(LicSpec.Ex×Unit))⊕(Unit))) ((zah (n+1)).e 263 [.ptr 0 0,.int .i64 kind,.int .i64 deep] [280] [(.st 18)] rc [(.st 9)] [] 0) (m263 (zah n) rc kind deep):=by kernel_rfl
theorem q264(n:Nat)(rc:Gt.R3×Unit): @Eq (Option (((Gt.R3×Unit)×(Unit))⊕(Unit))) ((zah (n+1)).e 264 [.ptr 0 0] [280] [(.st 18)] rc [] [] 0) (m264 (zah n) rc):=by kernel_rfl
theorem q265(n:Nat)(rc:Gt.R3×Unit)(at':Int)(no:Int): @Eq (Option (((Gt.R3×Unit)×(Unit))⊕(Unit))) ((zah (n+1)).e 265 [.ptr 0 0,.int .i64 at',.int .i64 no] [280] [(.st 18)] rc [] [] 0) (m265 (zah n) rc at' no):=by kernel_rfl
theorem q266(n:Nat)(e:LicSpec.Ex): @Eq (Option (Int×Unit)) ((zah (n+1)).d 266 [.st 9 e] [(.int .i64)]) (m266 (zah n) e):=by kernel_rfl
theorem q269(n:Nat)(c:Int)(first:Bool): @Eq (Option (Bool×Unit)) ((zah (n+1)).d 269 [.int .u8 c,.bool first] [.bool]) (m269 (zah n) c first):=by kernel_rfl
theorem q272(n:Nat)  : @Eq (Option (List (List UInt8)×Unit)) ((zah (n+1)).d 272 [] [(.sl .str)]) (m272 (zah n) ):=by kernel_rfl
theorem q275(n:Nat)(c:Int): @Eq (Option (Int×Unit)) ((zah (n+1)).d 275 [.int .u8 c] [(.int .i64)]) (m275 (zah n) c):=by kernel_rfl
theorem q277(n:Nat)(rc:Gt.Rd×Unit): @Eq (Option (((Gt.Rd×Unit)×(Unit))⊕(Int×Int×Unit))) ((zah (n+1)).e 277 [.ptr 0 0] [293] [(.st 16)] rc [] [(.int .i64),(.int .i64)] 254) (m277 (zah n) rc):=by kernel_rfl
theorem q278(n:Nat)(rc:Gt.Rd×Unit): @Eq (Option (((Gt.Rd×Unit)×(LicSpec.Ex×Unit))⊕(Int×Int×Unit))) ((zah (n+1)).e 278 [.ptr 0 0] [293] [(.st 16)] rc [(.st 9)] [(.int .i64),(.int .i64)] 254) (m278 (zah n) rc):=by kernel_rfl
theorem q279(n:Nat)(rc:Unit)(at':Int)(code:Int): @Eq (Option (((Unit)×(Unit))⊕(Int×Int×Unit))) ((zah (n+1)).e 279 [.int .i64 at',.int .i64 code] [] [] rc [] [(.int .i64),(.int .i64)] 254) (m279 (zah n) rc at' code):=by kernel_rfl
theorem q280(n:Nat)(e:LicSpec.Ex)(level:Int): @Eq (Option (Int×Int×Unit)) ((zah (n+1)).d 280 [.st 9 e,.int .i64 level] [(.int .i64),(.int .i64)]) (m280 (zah n) e level):=by kernel_rfl
theorem q281(n:Nat)(e:LicSpec.Ex): @Eq (Option (Int×Unit)) ((zah (n+1)).d 281 [.st 9 e] [(.int .i64)]) (m281 (zah n) e):=by kernel_rfl
theorem q291(n:Nat)(rc:Gt.R3×Unit)(deep:Int): @Eq (Option (((Gt.R3×Unit)×(LicSpec.Ex×Unit))⊕(Unit))) ((zah (n+1)).e 291 [.ptr 0 0,.int .i64 deep] [280] [(.st 18)] rc [(.st 9)] [] 0) (m291 (zah n) rc deep):=by kernel_rfl
theorem q292(n:Nat)(rc:Gt.R3×Unit)(w:(List UInt8)): @Eq (Option (((Gt.R3×Unit)×(Bool×Unit))⊕(Unit))) ((zah (n+1)).e 292 [.ptr 0 0,.str w] [280] [(.st 18)] rc [.bool] [] 0) (m292 (zah n) rc w):=by kernel_rfl
theorem q293(n:Nat)(e:LicSpec.Ex)(most:Int): @Eq (Option (Int×Unit)) ((zah (n+1)).d 293 [.st 9 e,.int .i64 most] [(.int .i64)]) (m293 (zah n) e most):=by kernel_rfl
theorem q294(n:Nat)(e:LicSpec.Ex): @Eq (Option (Int×Unit)) ((zah (n+1)).d 294 [.st 9 e] [(.int .i64)]) (m294 (zah n) e):=by kernel_rfl
theorem q295(n:Nat)(e:LicSpec.Ex): @Eq (Option (Int×Unit)) ((zah (n+1)).d 295 [.st 9 e] [(.int .i64)]) (m295 (zah n) e):=by kernel_rfl
theorem q303(n:Nat)(c:Int): @Eq (Option (Bool×Unit)) ((zah (n+1)).d 303 [.int .u8 c] [.bool]) (m303 (zah n) c):=by kernel_rfl
theorem q304(n:Nat)(s:(List UInt8)): @Eq (Option (Bool×Unit)) ((zah (n+1)).d 304 [.str s] [.bool]) (m304 (zah n) s):=by kernel_rfl
theorem q306(n:Nat)(s:(List UInt8)): @Eq (Option (Bool×Unit)) ((zah (n+1)).d 306 [.str s] [.bool]) (m306 (zah n) s):=by kernel_rfl
theorem q308(n:Nat)(rc:Gt.Rd×Unit): @Eq (Option (((Gt.Rd×Unit)×(LicSpec.Ex×Unit))⊕(Int×Int×Unit))) ((zah (n+1)).e 308 [.ptr 0 0] [293] [(.st 16)] rc [(.st 9)] [(.int .i64),(.int .i64)] 254) (m308 (zah n) rc):=by kernel_rfl
theorem q312(n:Nat)(rc:Gt.R3×Unit)(b:Int): @Eq (Option (((Gt.R3×Unit)×(Bool×Unit))⊕(Unit))) ((zah (n+1)).e 312 [.ptr 0 0,.int .u8 b] [280] [(.st 18)] rc [.bool] [] 0) (m312 (zah n) rc b):=by kernel_rfl
theorem q313(n:Nat)(rc:Gt.R3×Unit): @Eq (Option (((Gt.R3×Unit)×(List UInt8×Unit))⊕(Unit))) ((zah (n+1)).e 313 [.ptr 0 0] [280] [(.st 18)] rc [.str] [] 0) (m313 (zah n) rc):=by kernel_rfl
theorem q314(n:Nat)(rc:Gt.R3×Unit): @Eq (Option (((Gt.R3×Unit)×(List UInt8×Unit))⊕(Unit))) ((zah (n+1)).e 314 [.ptr 0 0] [280] [(.st 18)] rc [.str] [] 0) (m314 (zah n) rc):=by kernel_rfl
theorem q315(n:Nat)(s:(List UInt8)): @Eq (Option (List UInt8×Unit)) ((zah (n+1)).d 315 [.str s] [.str]) (m315 (zah n) s):=by kernel_rfl
theorem q316(n:Nat)(e:LicSpec.Ex): @Eq (Option (Int×Unit)) ((zah (n+1)).d 316 [.st 9 e] [(.int .i64)]) (m316 (zah n) e):=by kernel_rfl
theorem q324(n:Nat)(rc:Gt.Rd×Unit)(word:(List UInt8)): @Eq (Option (((Gt.Rd×Unit)×(Bool×Unit))⊕(Int×Int×Unit))) ((zah (n+1)).e 324 [.ptr 0 0,.str word] [293] [(.st 16)] rc [.bool] [(.int .i64),(.int .i64)] 254) (m324 (zah n) rc word):=by kernel_rfl
theorem q325(n:Nat)(rc:Gt.Rd×Unit): @Eq (Option (((Gt.Rd×Unit)×(LicSpec.Ex×Unit))⊕(Int×Int×Unit))) ((zah (n+1)).e 325 [.ptr 0 0] [293] [(.st 16)] rc [(.st 9)] [(.int .i64),(.int .i64)] 254) (m325 (zah n) rc):=by kernel_rfl
theorem q326(n:Nat)(s:(List UInt8)): @Eq (Option (Bool×Unit)) ((zah (n+1)).d 326 [.str s] [.bool]) (m326 (zah n) s):=by kernel_rfl
theorem q327(n:Nat)(b:Int): @Eq (Option (Bool×Unit)) ((zah (n+1)).d 327 [.int .u8 b] [.bool]) (m327 (zah n) b):=by kernel_rfl
theorem q333(n:Nat)(rc:Gt.Rd×Unit): @Eq (Option (((Gt.Rd×Unit)×(List UInt8×Unit))⊕(Int×Int×Unit))) ((zah (n+1)).e 333 [.ptr 0 0] [293] [(.st 16)] rc [.str] [(.int .i64),(.int .i64)] 254) (m333 (zah n) rc):=by kernel_rfl
end Pe.Tryz
end
