/- PROVED HERE: a part of the seat's proofs; see the text that holds the claim's theorem. -/
import Derived.Test.YtojfjgjdheiffaaGreatDoorNm
import Derived.Test.YtojfjgjdheiffaaGreatDoorBoD
import Derived.Test.YtojfjgjdheiffaaGreatDoorBoA
import Derived.Test.YtojfjgjdheiffaaGreatDoorBoQ
section
/- What is known of functions that are not read: strings.Join, IndexByte, Contains and Split at one byte, SortStableFunc at no element. -/
set_option maxRecDepth 100000
namespace Pe.Tryz
open Go Go.Proofs Pe Go.RowKit
theorem zq8{nu:Nu}{D:Dat}{w:World}{s:By}{v:Value}(h:Rep (S:=Sx) un nu D w (.str s) v):v= .string ⟨s.toArray⟩:=by grind[Rep]
noncomputable def e153(_:Orc Sx):Entry Sx:=⟨[.str,.int .u8],[.int .i64],λt=>some (Lib.indexByte t.1 (UInt8.ofNat (Int.toNat t.2.1)),())⟩
theorem hok153(o:Orc Sx)(_:SoundO Tryz.prog un o):Entry.Ok Tryz.prog un 153 (e153 o):=by
 intro t r h D w vs hD ha;cases h
 match vs,ha with
 |[v,u],ha =>
   simp only[e153,zbQ,RepL,inj,Rep] at ha;obtain ⟨rfl,rfl,_⟩:=ha;refine (Tryz.strings_IndexByte ⟨List.toArray t.1⟩ t.2.1 w).mono ?_
   simp_all[Below.refl,e153,zbQ,zfI,inj,Rep]
 |[],ha=>grind[e153,zbQ,RepL]|[_],ha=>grind[e153,zbQ,RepL]|_::_::_::_,ha=>grind[e153,zbQ,RepL]
def has1(s:By):By->Option (Bool×Unit)|[c]=>some (decide (0<=Lib.indexByte s c),())|_=>none
theorem zpc{s sub:By}{r:Bool×Unit}(h:has1 s sub=some r):∃c,sub=[c]/\r=(decide (0<=Lib.indexByte s c),()):=by
 match sub,h with
 |[c],h=>exact ⟨c,rfl,(yAS h).symm⟩
noncomputable def e163(_:Orc Sx):Entry Sx:=⟨[.str,.str],[.bool],λt=>has1 t.1 t.2.1⟩
theorem hok163(o:Orc Sx)(_:SoundO Tryz.prog un o):Entry.Ok Tryz.prog un 163 (e163 o):=by
 intro t r h D w vs hD ha;obtain ⟨s,sub,t2⟩:=t;obtain ⟨c,h1,h2⟩:=zpc (show has1 s sub=some r from h)
 ·subst h1;subst h2
  match vs,ha with
  |[v,u],ha =>
    simp only[e163,zbQ,RepL,inj,Rep] at ha;obtain ⟨rfl,rfl,_⟩:=ha;refine (Tryz.strings_Contains_one ⟨List.toArray s⟩ c w).mono ?_
    simp_all[Below.refl,e163,zbQ,zfI,inj,Rep]
  |[],ha=>grind[e163,zbQ,RepL]|[_],ha=>grind[e163,zbQ,RepL]|_::_::_::_,ha=>grind[e163,zbQ,RepL]
def zbW(c:UInt8)(s:By):List By:=(Lib.splitB ⟨#[c]⟩ 0 (Lib.countB ⟨s.toArray⟩ ⟨#[c]⟩) ⟨s.toArray⟩).map (·.data.toList)
def split1(s:By):By->Option (List By×Unit)|[c]=>bif Nat.ble s.length 4000000000 then some (zbW c s,()) else none|_=>none
theorem zlP{s sub:By}{r:List By×Unit}(h:split1 s sub=some r):∃c,sub=[c]/\(bif Nat.ble s.length 4000000000 then some (zbW c s,()) else none)=some r:=by
 match sub,h with
 |[c],h=>exact ⟨c,rfl,h⟩
noncomputable def e216(_:Orc Sx):Entry Sx:=⟨[.str,.str],[.sl .str],λt=>split1 t.1 t.2.1⟩
theorem hok216(o:Orc Sx)(_:SoundO Tryz.prog un o):Entry.Ok Tryz.prog un 216 (e216 o):=by
 intro t r h D w vs hD ha;obtain ⟨s,sub,t2⟩:=t;obtain ⟨c,h0,h⟩:=zlP (show split1 s sub=some r from h)
 ·subst h0;obtain ⟨h1,h2⟩:=zae h;cases h2;simp only[yAK] at h1
  match vs,ha with
  |[v,u],ha =>
    simp only[e216,zbQ,RepL,inj,Rep] at ha;obtain ⟨rfl,rfl,_⟩:=ha;have hsz:(ByteArray.mk (List.toArray s)).size=List.length (α:=UInt8) s:=rfl;refine (Any.split_one Tryz.lays146 (by kernel_rfl) ⟨List.toArray s⟩ c w (by rw[hsz];omega)).mono ?_
    rintro x w' ⟨rfl,hw⟩
    have hb:Below w.heap.size w w':=(by simp_all[Below.alloc,Below.refl]);refine ⟨_,rfl,hb,?_⟩;simp only[e216,zbQ,zfI,inj,Rep];have hlen:=Lib.splitB_all ⟨#[c]⟩ (yAi 1) 0 _ ⟨List.toArray s⟩ rfl;have hl2:(zbW c s).length=Lib.countB ⟨List.toArray s⟩ ⟨#[c]⟩+1:=by simp_all[zbW]
    have hcell:∀(i:Nat)(x:By),(zbW c s)[i]?=some x->w'.cell? ⟨w.heap.size,i,none⟩=some (.string ⟨x.toArray⟩):=(by intro i x hi;unfold zbW at hi;rw[yAh,yA9] at hi;obtain ⟨y,hy,rfl⟩:=hi;rw[hw];have:(w.alloc (.cells ((Lib.splitB ⟨#[c]⟩ 0 (Lib.countB ⟨List.toArray s⟩ ⟨#[c]⟩) ⟨List.toArray s⟩).map Value.string).toArray (Tryz.lays146_ren.t 9))).heap[w.heap.size]?=_:=heap_alloc_new w _;simp_all);have key:DR (S:=Sx) un (zkU D w w') w' [.sl .str] (sg (u:= .sl .str) (zbW c s)) [.slice (some ⟨w.heap.size,0,none⟩) (zbW c s).length (zbW c s).length]:=by
     refine .sl (t:=sg (u:= .sl .str) (zbW c s)) w.heap.size 0 (zbW c s).length (λi=>[match (zbW c s)[i]? with|some x=>.string ⟨x.toArray⟩|none=>undef]) (yAi _) (λi x hi=>?_) (λi x hi=>?_) .nil
     ·intro j v hj;have hx:(zbW c s)[i]?=some x:=hi;cases j with
      |zero =>
        simp[hx] at hj;subst hj;refine ⟨.inr ⟨by simp,?_⟩,?_⟩;·rw[hw];simp
        grind[U.size]
      |succ j=>simp at hj
     ·have hx:(zbW c s)[i]?=some x:=hi;simp only[hx];exact .str .nil
    grind
  |[],ha=>grind[e216,zbQ,RepL]|[_],ha=>grind[e216,zbQ,RepL]|_::_::_::_,ha=>grind[e216,zbQ,RepL]
theorem zrz{D:Dat}{w:World}{x:By}{cc:List Value}(h:DR (S:=Sx) un D w [.str] (sg (u:= .str) x) cc):cc=[.string ⟨x.toArray⟩]:=by
 cases h with
 |str h'=>cases h';rfl
theorem znz{D:Dat}{w:World}{xs:List By}{v:Value}(hv:DR (S:=Sx) un D w [.sl .str] (sg (u:= .sl .str) xs) [v]) :
  (xs=[]/\∃A c,v= .slice A 0 c)\/(xs≠[]/\∃b off c,v= .slice (some ⟨b,off,none⟩) xs.length c/\xs.length<=c/\∀(j:Nat)(x:By),xs[j]?=some x->D b (off+j)/\w.cell? ⟨b,off+j,none⟩=some (.string ⟨x.toArray⟩)):=by
 cases hv with
 |sl0 A c h0 h=>exact .inl ⟨h0,A,c,rfl⟩|sl b off c cs hc k1 k2 h =>
   by_cases hx:xs=[];·subst hx;exact .inl ⟨rfl,some ⟨b,off,none⟩,c,rfl⟩
   ·refine .inr ⟨hx,b,off,c,rfl,hc,λj x hj=>?_⟩;have e1:=k1 j x hj;have e2:=zrz (k2 j x hj);rw[e2] at e1;simpa[U.size] using e1 0 _ rfl
theorem zo7{D:Dat}{w:World}(hD:∀k o,D k o->k<w.heap.size){xs:List By}{sep:By}{v:Value}(hv:DR (S:=Sx) un D w [.sl .str] (sg (u:= .sl .str) xs) [v])(h1:xs.length<=1000000)(h2:(Lib.join xs sep).length<=100000000) :
  Calls Tryz.prog 219 #[v,.string ⟨sep.toArray⟩] w λx w'=>x= .returned (.string ⟨(Lib.join xs sep).toArray⟩)/\Below w.heap.size w w':=by
 rcases znz hv with ⟨rfl,A,c,rfl⟩|⟨hx,b,off,c,rfl,hc,hcell⟩
 ·refine (Tryz.strings_Join_none A c ⟨sep.toArray⟩ w).mono ?_
  rintro x w' ⟨rfl,rfl⟩
  exact ⟨rfl,Below.refl _ _⟩
 ·have hb:b<w.heap.size:=by
   obtain ⟨y,ys,rfl⟩:=List.exists_cons_of_ne_nil hx;exact hD _ _ (hcell 0 y rfl).1
  have hmap:(xs.map λx=>ByteArray.mk x.toArray).map (·.data.toList)=xs:=by simp_all[Function.comp_def]
  have hlen:(xs.map λx=>ByteArray.mk x.toArray).length=xs.length:=by simp
  have:=Tryz.strings_Join b off c (xs.map λx=>ByteArray.mk x.toArray) ⟨sep.toArray⟩ w (λj x hj=>by
   rw[yAh] at hj;cases hxj:xs[j]? with
   |none=>grind|some y=>simp_all) hb (by grind) (by grind) (by rw[hmap];exact yAo h2 (by decide))
  simp_all
noncomputable def e219(_:Orc Sx):Entry Sx:=⟨[.sl .str,.str],[.str],λt=>bif Nat.ble (List.length (α:=By) t.1) 1000000&&Nat.ble (Lib.join t.1 t.2.1).length 100000000 then some (Lib.join t.1 t.2.1,()) else none⟩
theorem hok219(o:Orc Sx)(_:SoundO Tryz.prog un o):Entry.Ok Tryz.prog un 219 (e219 o):=by
 intro t r h D w vs hD ha;obtain ⟨h1,h2⟩:=zae h;cases h2;simp only[yAd,yAK] at h1
 match vs,ha with
 |[v,u],ha =>
   simp only[e219,zbQ,RepL,inj] at ha;have hu:=zq8 ha.2.1;subst hu;have hv:=ha.1;simp only[Rep] at hv;refine (zo7 hD hv h1.1 h1.2).mono ?_
   simp_all[e219,zbQ,zfI,inj,Rep]
 |[],ha=>grind[e219,zbQ,RepL]|[_],ha=>grind[e219,zbQ,RepL]|_::_::_::_,ha=>grind[e219,zbQ,RepL]
noncomputable def e305(_:Orc Sx):Entry Sx:=⟨[.str],[.str],λt=>bif Nat.ble (List.length (α:=UInt8) t.1) 1000000&&List.all (α:=UInt8) t.1 (λb=>Nat.blt b.toNat 128) then some (Lib.toUpperA t.1,()) else none⟩
theorem znv{w:World}{s:By}(h1:s.length<=1000000)(h2:s.all (λb=>Nat.blt b.toNat 128)=true) :
  Calls Tryz.prog 305 #[.string ⟨s.toArray⟩] w λx w'=>x= .returned (.string ⟨(Lib.toUpperA s).toArray⟩)/\Below w.heap.size w w':=by
 have hsz:(ByteArray.mk s.toArray).size=s.length:=by simp[ByteArray.size]
 refine Tryz.strings_ToUpper_ascii ⟨s.toArray⟩ w (by rw[hsz];omega) (λj b hb=>?_);have:=yAM.1 h2 b (yAb hb);simp_all
theorem hok305(o:Orc Sx)(_:SoundO Tryz.prog un o):Entry.Ok Tryz.prog un 305 (e305 o):=by
 intro t r h D w vs hD ha;obtain ⟨h1,h2⟩:=zae h;cases h2;simp only[yAd,yAK] at h1
 match vs,ha with
 |[v],ha =>
   simp only[e305,zbQ,RepL,inj] at ha;have:=zq8 ha.1;subst this;refine (znv h1.1 h1.2).mono ?_
   simp_all[e305,zbQ,zfI,inj,Rep]
 |[],ha=>grind[e305,zbQ,RepL]|_::_::_,ha=>grind[e305,zbQ,RepL]
end Pe.Tryz
end
section
/- licence.read: its deferred call takes the panic back. -/
set_option maxRecDepth 100000
namespace Pe
open Go Go.Proofs Go.RowKit
section
variable{S:Nat->Type}{P:Program}{un:Uni S}
theorem zlO{D:Dat}{w:World}{args:List (PV S)}{vs:List Value}{n:Nat}(hD:∀k o,D k o->k<w.heap.size)(ha:RepL un [] D w args vs)(hn:args.length<=n) :
  Holds un ⟨w,[],[]⟩ D ⟨n,[]⟩ (ze2 0 args) [] { tmps:=vs.toArray++Array.replicate (n - vs.toArray.size) undef,defers:=[] } w:=by
 have hlen:=ha.len;refine ⟨D,[],⟨⟨Wl.Grow.refl _ _,hD,λr hr=>(by cases hr),λr hr=>(by cases hr),List.Pairwise.nil,λi g h=>by simp at h⟩,by simp;omega,rfl,by simp[BxRep],λi p hi=>?_⟩,λk o hk=>.inl hk,Ge.refl _ _⟩;obtain ⟨_,h1⟩:=zcM args 0 i p hi;obtain ⟨v,h2,h3⟩:=ha.get i p (by grind);have hlt:i<vs.length:=(yAc.1 h2).1;simp_all[yBK]
theorem zng{E:Wl.Ctx}{D:Dat}{H:List Wl.Res}{w:World}(hin:In E D H w){i g:Nat}(h:E.fix[i]?=some (.pointer (some ⟨g,0,none⟩))):∃T cs,H[i]?=some (.box g T cs):=by
 obtain ⟨r0,h1,h2,h3,_⟩:=hin.lent i _ h;cases r0 with
 |box g' T cs=>grind[zal]|fix v g' size ob =>simp[zal] at h3;subst h3;exact absurd (hin.res _ (yAb h1)).1 (zcQ _)|_=>grind[zax]
theorem zol{nu:Nu}{D:Dat}{w:World}{E:Wl.Ctx}{T:TypeId}{cs:List (PV S)}{r:Wl.Res}(h:BoxRep un nu D w E false (.var T cs) r)(hl:cs.length≠1):∃g vs,r= .box g T vs/\RepL un nu D w cs vs:=by
 cases r with
 |box g T' vs=>simp only[BoxRep] at h;obtain ⟨rfl,h⟩:=h;exact ⟨g,vs,rfl,h⟩
 |fix v g size ob=>simp only[BoxRep] at h;have:=h.length;grind
 |_=>grind[BoxRep]
variable{Q:Exit->Act->List Frame->World->Prop}{ops:Array Oper}{a:Act}{cs:List Frame}{w w':World}{o:Oper}{i:Nat}{rest:List Nat}{v:Value}
theorem zcx(ho:ops[i]?=some o)(hg:o.guard=none)(hr:(execOp a.eval o).run P w= .ok (.value v) w')(h:wpOpsS P ops Q rest (a.put o.dst v) cs w'):wpOpsS P ops Q (i::rest) a cs w:=by simp_all[wpOpsS,Region.wanted,Oper.upon]
theorem zlK(ho:ops[i]?=some o)(hg:o.guard=none)(hr:(execOp a.eval o).run P w= .ok .skip w')(h:wpOpsS P ops Q rest (a.put o.dst undef) cs w'):wpOpsS P ops Q (i::rest) a cs w:=by simp_all[wpOpsS,Region.wanted,Oper.upon]
theorem znt(ho:ops[i]?=some o)(hg:o.guard=none)(hr:(execOp a.eval o).run P w= .ok .recover w')(h:match recoverD cs with
  |some (v,cs')=>wpOpsS P ops Q rest (a.put o.dst v) cs' w'|none=>wpOpsS P ops Q rest (a.put o.dst .nilIface) cs w'):wpOpsS P ops Q (i::rest) a cs w:=by
 unfold wpOpsS;rw[ho];simp only[Region.wanted,hg,if_true,hr];exact h
end
end Pe
namespace Pe.Tryz
open Go Go.Proofs Pe Go.RowKit
noncomputable def r0C:Code:=match Tryz.f234.body with|some (.seq a _)=>a|_=>.skip
noncomputable def r1C:Code:=match Tryz.f234.body with|some (.seq _ (.seq a _))=>a|_=>.skip
noncomputable def zlQ:Code:=match Tryz.f234.body with|some (.seq _ (.seq _ c))=>c|_=>.skip
theorem zr6:Tryz.f234.body=some (.seq r0C (.seq r1C zlQ)):=by kernel_rfl
noncomputable def q0C:Array Oper:=match Tryz.f276.body with|some (.seq (.region _ ops _) _)=>ops|_=> #[]
noncomputable def qC:Code:=match Tryz.f276.body with|some (.seq _ c)=>c|_=>.skip
theorem zpA:Tryz.f276.body=some (.seq (.region 0 q0C false) qC):=by kernel_rfl
noncomputable def qop(i:Nat):Oper:=q0C[i]?.getD default
theorem q0C_range:List.range q0C.size=[0,1,2,3,4,5,6,7]:=by kernel_rfl
def an136:Ann:=⟨.leaf,.leaf,[],[],[],[(2,[⟨[],[],[],[]⟩,⟨[],[2],[],[]⟩,⟨[0],[],[],[]⟩,⟨[1],[],[],[]⟩])]⟩
def zEx:List (PV Sx):=[.int .i64 0,.str [],.bool false,.str [],.nils]
def zF:List (PV Sx):=[.int .i64 0,.int .i64 0]
def junk(n:Nat):List (PV Sx):=List.replicate n .junk
def zrX(x:Exit)(bx:Bxs Sx):Option (Bxs Sx):=match x with | .normal=>some bx|_=>none
theorem zpi(o:Orc Sx):zhm un tb o (zoh un tb o 6) an136 qC (Bxs Sx) [(3,.bool false)] [] (λx _ bx=>zrX x bx)=some []:=by kernel_rfl
theorem zcs{a:Act}{d:Nat}{v:Value}(h:d<a.tmps.size):(a.put (some d) v).eval (.tmp d)=v:=by simp_all[Act.put,Act.eval]
theorem zee{a:Act}{d t:Nat}{v:Value}(h:d≠t):(a.put (some d) v).eval (.tmp t)=a.eval (.tmp t):=by simp[Act.put,Act.eval,h]
theorem zeU{a:Act}{d:Option Nat}{v:Value}:(a.put d v).tmps.size=a.tmps.size:=zmC a d v
theorem g0:(qop 0).guard=none/\(qop 1).guard=none/\(qop 2).guard=none/\(qop 3).guard=none/\(qop 4).guard=none/\(qop 5).guard=none/\(qop 6).guard=none/\(qop 7).guard=none:=⟨by kernel_rfl,by kernel_rfl,by kernel_rfl,by kernel_rfl,by kernel_rfl,by kernel_rfl,by kernel_rfl,by kernel_rfl⟩
theorem d0:(qop 0).dst=some 5/\(qop 1).dst=some 6/\(qop 2).dst=some 4/\(qop 3).dst=some 7/\(qop 4).dst=some 8/\(qop 5).dst=some 2/\(qop 6).dst=none/\(qop 7).dst=some 3:=⟨by kernel_rfl,by kernel_rfl,by kernel_rfl,by kernel_rfl,by kernel_rfl,by kernel_rfl,by kernel_rfl,by kernel_rfl⟩
theorem qg0:q0C[0]?=some (qop 0):=by kernel_rfl
theorem qg1:q0C[1]?=some (qop 1):=by kernel_rfl
theorem qg2:q0C[2]?=some (qop 2):=by kernel_rfl
theorem qg3:q0C[3]?=some (qop 3):=by kernel_rfl
theorem qg4:q0C[4]?=some (qop 4):=by kernel_rfl
theorem qg5:q0C[5]?=some (qop 5):=by kernel_rfl
theorem qg6:q0C[6]?=some (qop 6):=by kernel_rfl
theorem qg7:q0C[7]?=some (qop 7):=by kernel_rfl
theorem o1:(qop 1).op= .typeAssert (.tmp 5) 20 254 true:=by kernel_rfl
theorem o2:(qop 2).op= .move (.tmp 6):=by kernel_rfl
theorem o3:(qop 3).op= .extract (.tmp 4) 0:=by kernel_rfl
theorem o4:(qop 4).op= .extract (.tmp 4) 1:=by kernel_rfl
theorem o5:(qop 5).op= .alloc 254:=by kernel_rfl
theorem o6:(qop 6).op= .store 254 (.tmp 2) (.tmp 7):=by kernel_rfl
theorem o7:(qop 7).op= .assign (.tmp 8):=by kernel_rfl
theorem rec0(ρ:Operand->Value)(w:World):(execOp ρ (qop 0)).run Tryz.prog w= .ok .recover w:=by kernel_rfl
theorem ta_no(w:World):(Instr.typeAssert .nilIface 20 254 true).run Tryz.prog w= .ok (.tuple #[.agg #[.int .i64 0,.int .i64 0],.bool false]) w:=by kernel_rfl
theorem zsr(v:Value)(w:World):(Instr.typeAssert (.iface 254 v) 20 254 true).run Tryz.prog w= .ok (.tuple #[v,.bool true]) w:=by kernel_rfl
theorem al49(w:World):(Instr.alloc 254 true (.tuple #[])).run Tryz.prog w= .ok (.pointer (some ⟨w.heap.size,0,none⟩)) (w.alloc (.cells #[.int .i64 0,.int .i64 0] 254)):=by kernel_rfl
theorem zst:(Tryz.prog.info? 254).map (·.size)=some 2:=by kernel_rfl
theorem zjg{Q:Exit->Act->List Frame->World->Prop}{a:Act}{cs cs':List Frame}{w:World}{x y:Int}{v0:Value}{b:Bool}(hs:a.tmps.size=12)
  (hrec:(match recoverD cs with|some (v,cs')=>(v,cs')|none=>(.nilIface,cs))=(v0,cs')) (hta:(Instr.typeAssert v0 20 254 true).run Tryz.prog w= .ok (.tuple #[.agg #[.int .i64 x,.int .i64 y],.bool b]) w)
  (h:∀a' w',a'.tmps.size=12->a'.defers=a.defers->a'.eval (.tmp 0)=a.eval (.tmp 0)->a'.eval (.tmp 1)=a.eval (.tmp 1)->a'.eval (.tmp 2)= .pointer (some ⟨w.heap.size,0,none⟩)->a'.eval (.tmp 3)= .bool b ->
   Below w.heap.size w w'->w'.heap[w.heap.size]?=some (.cells #[.int .i64 x,.int .i64 y] 254 (0,0))->Q .normal a' cs' w') :
  wpOpsS Tryz.prog q0C Q [0,1,2,3,4,5,6,7] a cs w:=by
 obtain ⟨k0,k1,k2,k3,k4,k5,k6,k7⟩:=g0;obtain ⟨e0,e1,e2,e3,e4,e5,e6,e7⟩:=d0;have go:∀a0:Act,a0.tmps.size=12->a0.defers=a.defers->a0.eval (.tmp 0)=a.eval (.tmp 0)->a0.eval (.tmp 1)=a.eval (.tmp 1)->a0.eval (.tmp 5)=v0->wpOpsS Tryz.prog q0C Q [1,2,3,4,5,6,7] a0 cs' w:=by
  intro a0 hs0 hd0 hp0 hp1 hv0;refine zcx qg1 k1 (v:= .tuple #[.agg #[.int .i64 x,.int .i64 y],.bool b]) (w':=w) (by simp[execOp,o1,hv0,hta]) ?_;rw[e1];generalize ha1:a0.put (some 6) _=a1;have hs1:a1.tmps.size=12:=by rw[<-ha1,zeU,hs0]
  have hv1:a1.eval (.tmp 6)= .tuple #[.agg #[.int .i64 x,.int .i64 y],.bool b]:=by rw[<-ha1];exact zcs (by omega)
  have hk1:∀t,6≠t->a1.eval (.tmp t)=a0.eval (.tmp t):=λt ht=>by rw[<-ha1];exact zee ht
  have hd1:a1.defers=a0.defers:=by rw[<-ha1];rfl
  refine zcx qg2 k2 (v:= .tuple #[.agg #[.int .i64 x,.int .i64 y],.bool b]) (w':=w) (by simp[execOp,o2,hv1]) ?_;rw[e2];generalize ha2:a1.put (some 4) _=a2;have hs2:a2.tmps.size=12:=by rw[<-ha2,zeU,hs1]
  have hv2:a2.eval (.tmp 4)= .tuple #[.agg #[.int .i64 x,.int .i64 y],.bool b]:=by rw[<-ha2];exact zcs (by omega)
  have hk2:∀t,4≠t->a2.eval (.tmp t)=a1.eval (.tmp t):=λt ht=>by rw[<-ha2];exact zee ht
  have hd2:a2.defers=a1.defers:=by rw[<-ha2];rfl
  refine zcx qg3 k3 (v:= .agg #[.int .i64 x,.int .i64 y]) (w':=w) (by simp[execOp,o3,hv2,Instr.extract]) ?_;rw[e3];generalize ha3:a2.put (some 7) _=a3;have hs3:a3.tmps.size=12:=by rw[<-ha3,zeU,hs2]
  have hv3:a3.eval (.tmp 7)= .agg #[.int .i64 x,.int .i64 y]:=by rw[<-ha3];exact zcs (by omega)
  have hk3:∀t,7≠t->a3.eval (.tmp t)=a2.eval (.tmp t):=λt ht=>by rw[<-ha3];exact zee ht
  have hd3:a3.defers=a2.defers:=by rw[<-ha3];rfl
  refine zcx qg4 k4 (v:= .bool b) (w':=w) (by simp[execOp,o4,hk3 4 (by decide),hv2,Instr.extract]) ?_;rw[e4];generalize ha4:a3.put (some 8) _=a4;have hs4:a4.tmps.size=12:=by rw[<-ha4,zeU,hs3]
  have hv4:a4.eval (.tmp 8)= .bool b:=by rw[<-ha4];exact zcs (by omega)
  have hk4:∀t,8≠t->a4.eval (.tmp t)=a3.eval (.tmp t):=λt ht=>by rw[<-ha4];exact zee ht
  have hd4:a4.defers=a3.defers:=by rw[<-ha4];rfl
  refine zcx qg5 k5 (v:= .pointer (some ⟨w.heap.size,0,none⟩)) (w':=w.alloc (.cells #[.int .i64 0,.int .i64 0] 254)) (by simp[execOp,o5,al49]) ?_;rw[e5];generalize ha5:a4.put (some 2) _=a5;have hs5:a5.tmps.size=12:=by rw[<-ha5,zeU,hs4]
  have hv5:a5.eval (.tmp 2)= .pointer (some ⟨w.heap.size,0,none⟩):=by rw[<-ha5];exact zcs (by omega)
  have hk5:∀t,2≠t->a5.eval (.tmp t)=a4.eval (.tmp t):=λt ht=>by rw[<-ha5];exact zee ht
  have hd5:a5.defers=a4.defers:=by rw[<-ha5];rfl
  have hnew:=heap_alloc_new w (.cells #[.int .i64 0,.int .i64 0] 254 (0,0));obtain ⟨s1,s2⟩:=zd8 w.heap.size 254 [.int .i64 x,.int .i64 y] [.int .i64 0,.int .i64 0] 0 (w.alloc (.cells #[.int .i64 0,.int .i64 0] 254)) hnew;have hst:(Instr.storeAt 254 (.pointer (some ⟨w.heap.size,0,none⟩)) (.agg #[.int .i64 x,.int .i64 y])).run Tryz.prog (w.alloc (.cells #[.int .i64 0,.int .i64 0] 254))= .ok () ((w.alloc (.cells #[.int .i64 0,.int .i64 0] 254)).setCells w.heap.size 0 [.int .i64 x,.int .i64 y]):=by
   have:=run_storeAt_mid (P:=Tryz.prog) (w.alloc (.cells #[.int .i64 0,.int .i64 0] 254)) w.heap.size 0 254 #[.int .i64 x,.int .i64 y] (λj hj=>⟨by
    rw[cell_of_row _ _ _ _ _ _ hnew];have:j<2:=hj;rcases j with _|_|j;·rfl
    ·rfl
    ·omega,by unfold World.frozen?;simp only[];rw[hnew];rfl⟩) (by rw[zst];rfl) (by rw[Array.all_eq_true];intro i hi;rcases i with _|_|i<;>first|rfl|(simp at hi;omega))
   exact this
  have hb:Below w.heap.size w ((w.alloc (.cells #[.int .i64 0,.int .i64 0] 254)).setCells w.heap.size 0 [.int .i64 x,.int .i64 y]):=by have h1:Below w.heap.size w (w.alloc (.cells #[.int .i64 0,.int .i64 0] 254)):=(Below.refl _ _).alloc (yAi _) _;refine ⟨s2.os.trans h1.os,s2.tape.trans h1.tape,s2.output.trans h1.output,yAo h1.size s2.size,λk hk=>?_⟩;rw[s2.block k (yAq hk h1.size) (by simp;omega),h1.block k hk]
  refine zlK qg6 k6 (w':=(w.alloc (.cells #[.int .i64 0,.int .i64 0] 254)).setCells w.heap.size 0 [.int .i64 x,.int .i64 y]) (by simp[execOp,o6,hv5,hk5 7 (by decide),hk4 7 (by decide),hv3,hst]) ?_;rw[e6];refine zcx qg7 k7 (v:= .bool b) (w':=(w.alloc (.cells #[.int .i64 0,.int .i64 0] 254)).setCells w.heap.size 0 [.int .i64 x,.int .i64 y]) (by simp[execOp,o7,Act.put,hk5 8 (by decide),hv4]) ?_;rw[e7];unfold wpOpsS;have old:∀t,t≠3->t≠2->t≠8->t≠7->t≠4->t≠6->((a5.put none undef).put (some 3) (.bool b)).eval (.tmp t)=a0.eval (.tmp t):=λt h3 h2 h8 h7 h4 h6=>by rw[zee (Ne.symm h3)];show a5.eval (.tmp t)=_;rw[hk5 t (Ne.symm h2),hk4 t (Ne.symm h8),hk3 t (Ne.symm h7),hk2 t (Ne.symm h4),hk1 t (Ne.symm h6)]
  refine h _ _ (by rw[zeU,zeU,hs5]) ?_ ?_ ?_ ?_ (zcs (by rw[zeU];omega)) hb (by simpa[zaV.spliceV] using s1);·show a5.defers=_;rw[hd5,hd4,hd3,hd2,hd1,hd0]
  ·rw[old 0 (by decide) (by decide) (by decide) (by decide) (by decide) (by decide),hp0]
  ·rw[old 1 (by decide) (by decide) (by decide) (by decide) (by decide) (by decide),hp1]
  ·rw[zee (by decide)];exact hv5
 refine znt qg0 k0 (w':=w) (rec0 _ w) ?_;rw[e0];cases hc:recoverD cs with
 |none =>rw[hc] at hrec;simp only[Prod.mk.injEq] at hrec ⊢;obtain ⟨rfl,rfl⟩:=hrec;exact go _ (by rw[zeU,hs]) rfl (zee (by decide)) (zee (by decide)) (zcs (by omega))
 |some z =>rw[hc] at hrec;obtain ⟨z1,z2⟩:=z;simp only[Prod.mk.injEq] at hrec ⊢;obtain ⟨rfl,rfl⟩:=hrec;exact go _ (by rw[zeU,hs]) rfl (zee (by decide)) (zee (by decide)) (zcs (by omega))
theorem f276_res:Tryz.f276.results.toList=[]:=by kernel_rfl
theorem f276_n:Tryz.f276.ntmps=12:=by kernel_rfl
theorem qC_w:(zaW qC).all (Nat.blt · 12)=true:=by kernel_rfl
theorem zr4{o:Orc Sx}(hor:SoundO Tryz.prog un o)(p0 p1:Value)(w:World):CallsD Tryz.prog 276 #[p0,p1] .returning w λe u' w'=>(∃v,e= .returned v)/\u'= .returning/\Below w.heap.size w w':=by
 refine callsD_of_wpS Tryz.func276 zpA λc₀ cs hu=>wpS_seq (wpS_region ?_);rw[q0C_range];refine zjg (by rw[f276_n];rfl) (v0:= .nilIface) (cs':=c₀::cs) (by simp[recoverD,hu]) (ta_no w) λa' w' hs hd _ _ _ h3 hb _=>?_;show qC.wpS Tryz.prog _ a' (c₀::cs) w'
 refine wpS_of_wp (zfm (E:=⟨w',[],[]⟩) (D0:=λ_ _=>False) (N:=⟨12,[]⟩) mixed zeM zmo hor (zbC mixed zeM zmo hor 6) _ _ _ _ _ _ (zpi o) (λd hdd=>by have:=yAM.1 qC_w d hdd;simp_all)
  ⟨λ_ _=>False,[],⟨⟨Wl.Grow.refl _ _,λ_ _ h=>h.elim,λr hr=>(by cases hr),λr hr=>(by cases hr),List.Pairwise.nil,λi g h=>by simp at h⟩,hs,by rw[hd],by simp[BxRep],λi p hi=>?_⟩,λ_ _ h=>h.elim,Ge.refl _ _⟩ λx e' bx' hk _ _ a2 w2 hH=>?_)
 ·simp only[zvo] at hi;cases hb3:Nat.beq 3 i with
  |true =>rw[hb3] at hi;have:=yAa hb3;subst this;simp at hi;subst hi;simp only[Rep];exact h3
  |false=>grind
 ·cases x with
  |normal =>
    obtain ⟨D',H',hs',_⟩:=hH;obtain ⟨v,_,_,g1,_⟩:=zbY (fn:=Tryz.f276) (ps:=[]) zeM zmo hs' (by rw[f276_res];rfl) (rs:=[]) (t:=()) rfl;refine ⟨hs'.defers,.returning,?_,v,g1,⟨v,rfl⟩,rfl,?_⟩;·rw[<-hu]
    ·have hg:=hs'.inn.out;exact ⟨hg.os.trans hb.os,hg.tape.trans hb.tape,hg.output.trans hb.output,yAo hb.size hg.size,λk hk=>(hg.block k (yAq hk hb.size) (by simp)).trans (hb.block k hk)⟩
  |_=>cases hk
def zs6(a c:Int):Bxs Sx:=[.var 200 (junk 5),.var 254 (junk 2),.var 254 [.int .i64 a,.int .i64 c]]
def bxs41(a c:Int):Bxs Sx:=[.var 200 zEx,.var 254 [.int .i64 a,.int .i64 c],.var 254 [.int .i64 a,.int .i64 c]]
theorem zn2(o:Orc Sx)(a c:Int):zhm un tb o (zoh un tb o 6) an136 qC (Bxs Sx) [(0,.ptr 0 0),(1,.ptr 1 0),(2,.ptr 2 0),(3,.bool true)] (zs6 a c) (λx _ bx=>zrX x bx)=some (bxs41 a c):=by kernel_rfl
def zExV:Array Value:= #[.int .i64 0,.string ⟨#[]⟩,.bool false,.string ⟨#[]⟩,.slice none 0 0]
theorem zpY{nu:Nu}{D:Dat}{w:World}{vs:List Value}(h:RepL (S:=Sx) un nu D w zEx vs):vs=zExV.toList:=by
 match vs,h with
 |[a,b,c,d,e],h =>simp only[zEx,RepL,Rep] at h;obtain ⟨rfl,rfl,rfl,rfl,rfl,_⟩:=h;rfl
 |[],h=>grind[zEx,RepL]|[_],h=>grind[zEx,RepL]|[_,_],h=>grind[zEx,RepL]|[_,_,_],h=>grind[zEx,RepL]|[_,_,_,_],h=>simp[zEx,RepL] at h|_::_::_::_::_::_::_,h=>simp[zEx,RepL] at h
theorem zpZ{nu:Nu}{D:Dat}{w:World}{x y:Int}{vs:List Value}(h:RepL (S:=Sx) un nu D w [.int .i64 x,.int .i64 y] vs):vs=[.int .i64 x,.int .i64 y]:=by
 match vs,h with
 |[a,b],h =>grind[RepL,Rep]
 |[],h=>grind[RepL]|[_],h=>grind[RepL]|_::_::_::_,h=>grind[RepL]
theorem zqS{o:Orc Sx}(hor:SoundO Tryz.prog un o)(g0 g1:Nat)(x y:Int)(w:World)(c0 c1:List Value)(hg0:w.heap[g0]?=some (.cells c0.toArray 200 (0,0)))(hg1:w.heap[g1]?=some (.cells c1.toArray 254 (0,0)))(hl0:c0.length=5)(hl1:c1.length=2)(hne:g0≠g1) :
  CallsD Tryz.prog 276 #[.pointer (some ⟨g0,0,none⟩),.pointer (some ⟨g1,0,none⟩)] (.panicking [⟨.iface 254 (.agg #[.int .i64 x,.int .i64 y]),false,false⟩]) w λe u' w'=>(∃v,e= .returned v)/\settle u'= .returning/\Wl.Grow [g0,g1] w w' /\
   w'.heap[g0]?=some (.cells zExV 200 (0,0))/\w'.heap[g1]?=some (.cells #[.int .i64 x,.int .i64 y] 254 (0,0)):=by
 refine callsD_of_wpS Tryz.func276 zpA λc₀ cs hu=>wpS_seq (wpS_region ?_);rw[q0C_range];refine zjg (by rw[f276_n];rfl) (v0:= .iface 254 (.agg #[.int .i64 x,.int .i64 y])) (cs':={ c₀ with mode:= .panicking [⟨.iface 254 (.agg #[.int .i64 x,.int .i64 y]),true,false⟩] }::cs) (by simp[recoverD,hu]) (zsr _ w) λa' w' hs hd h0 h1 h2 h3 hb hnew=>?_;show qC.wpS Tryz.prog _ a' _ w';have hlt0:g0<w.heap.size:=(yAE.1 hg0).1;have hlt1:g1<w.heap.size:=(yAE.1 hg1).1;have hg0':w'.heap[g0]?=some (.cells c0.toArray 200 (0,0)):=(hb.block g0 hlt0).trans hg0;have hg1':w'.heap[g1]?=some (.cells c1.toArray 254 (0,0)):=(hb.block g1 hlt1).trans hg1
 refine wpS_of_wp (zfm (E:=⟨w,[g0,g1],[.pointer (some ⟨g0,0,none⟩),.pointer (some ⟨g1,0,none⟩)]⟩) (D0:=λ_ _=>False) (N:=⟨12,[]⟩) mixed zeM zmo hor (zbC mixed zeM zmo hor 6) _ _ _ _ _ _ (zn2 o x y) (λd hdd=>by have:=yAM.1 qC_w d hdd;simp_all)
  ⟨λ_ _=>False,[.box g0 200 c0,.box g1 254 c1,.box w.heap.size 254 [.int .i64 x,.int .i64 y]],⟨⟨Wl.Grow.of_below hb,λ_ _ h=>h.elim,λr hr=>?_,λr hr g hg o' _ h=>h.elim,?_,λi g h=>?_⟩,hs,by rw[hd],?_,λi p hi=>?_⟩,λ_ _ h=>h.elim,⟨λ_ _ h=>h,λ_ _ h=>h.elim⟩⟩ λxx e' bx' hk _ _ a2 w2 hH=>?_)
 ·simp only[yAm,yAX,or_false] at hr;rcases hr with rfl|rfl|rfl;·exact ⟨.inr (by simp),hg0'⟩
  ·exact ⟨.inr (by simp),hg1'⟩
  ·exact ⟨.inl (yAi _),hnew⟩
 ·refine yBU.2 ⟨λr hr g h1' h2'=>?_,yBU.2 ⟨λr hr g h1' h2'=>?_,yBs _ _⟩⟩;·simp only[yAm,yAX,or_false] at hr;grind[Wl.Res.has]
  simp_all[Wl.Res.has]
 ·rcases i with _|_|i;·simp at h;subst h;exact ⟨_,rfl,rfl,rfl,keptR.box⟩
  ·simp at h;subst h;exact ⟨_,rfl,rfl,rfl,keptR.box⟩
  ·simp at h
 ·simp only[zs6,BxRep,BoxRep];have j5:∀{nu:Nu}{cs:List Value}{n:Nat},cs.length=n->RepL (S:=Sx) un nu (λ_ _=>False) w' (junk n) cs:=by
   intro nu cs n hn;subst hn;induction cs with
   |nil=>simp[junk,RepL]|cons v cs ih=>simp_all[junk,yCb,RepL,Rep]
  refine ⟨⟨trivial,j5 hl0⟩,⟨trivial,j5 hl1⟩,⟨trivial,?_⟩,trivial⟩;simp_all[RepL,Rep]
 ·have hget:∀j,a'.tmps.getD j undef=a'.eval (.tmp j):=λj=>rfl;simp only[zvo] at hi;rw[hget];cases hb0:Nat.beq 0 i with
  |true =>rw[hb0] at hi;have:=yAa hb0;subst this;simp at hi;subst hi;rw[h0];simp only[Rep,ids];exact ⟨g0,rfl,rfl⟩
  |false =>
    rw[hb0] at hi;simp only[cond_false] at hi;cases hb1:Nat.beq 1 i with
    |true =>rw[hb1] at hi;have:=yAa hb1;subst this;simp at hi;subst hi;rw[h1];simp only[Rep,ids];exact ⟨g1,rfl,rfl⟩
    |false =>
      rw[hb1] at hi;simp only[cond_false] at hi;cases hb2:Nat.beq 2 i with
      |true =>rw[hb2] at hi;have:=yAa hb2;subst this;simp at hi;subst hi;rw[h2];simp only[Rep,ids];exact ⟨w.heap.size,rfl,rfl⟩
      |false =>
        rw[hb2] at hi;simp only[cond_false] at hi;cases hb3:Nat.beq 3 i with
        |true =>rw[hb3] at hi;have:=yAa hb3;grind[Rep]
        |false=>grind
 ·cases xx with
  |normal =>
    simp only[zrX,yAf] at hk;subst hk;obtain ⟨D',H',hs',_⟩:=hH;obtain ⟨v,_,_,g1',_⟩:=zbY (fn:=Tryz.f276) (ps:=[]) zeM zmo hs' (by rw[f276_res];rfl) (rs:=[]) (t:=()) rfl;refine ⟨hs'.defers,_,rfl,v,g1',⟨v,rfl⟩,rfl,hs'.inn.out,?_,?_⟩;·obtain ⟨T,cs',hH0⟩:=zng hs'.inn (i:=0) (g:=g0) rfl;obtain ⟨r,hr1,hr2⟩:=hs'.boxes.get (i:=0) (b:= .var 200 zEx) rfl;rw[hH0] at hr1;cases hr1;simp only[BoxRep] at hr2;obtain ⟨rfl,hl⟩:=hr2;have:=(hs'.inn.res _ (yAb hH0)).2;rw[zpY hl] at this;exact this
    ·obtain ⟨T,cs',hH0⟩:=zng hs'.inn (i:=1) (g:=g1) rfl;obtain ⟨r,hr1,hr2⟩:=hs'.boxes.get (i:=1) (b:= .var 254 [.int .i64 x,.int .i64 y]) rfl;rw[hH0] at hr1;cases hr1;simp only[BoxRep] at hr2;obtain ⟨rfl,hl⟩:=hr2;have:=(hs'.inn.res _ (yAb hH0)).2;rw[zpZ hl] at this;exact this
  |_=>cases hk
def znq:Ann:=⟨.lf 7 ⟨[],[],[]⟩,.leaf,[],[],[],[]⟩
abbrev zpM:=ElL Sx [.st 9,.st 15]⊕ElL Sx [.int .i64,.int .i64]
noncomputable def zl4(orc:Orc Sx)(s:By):Option zpM:=oc (α:=(Gt.Rd×Unit)×(Unit)) (β:=Int×Int×Unit) (orc.e 277 [.ptr 0 0] [293] [.st 16] ((Gt.Rd.mk s 0 (Gt.Tk.mk 0 [] 0 false) 0,()):Gt.Rd×Unit) [] [I6,I6] 254) (λ(r1:((Gt.Rd×Unit)×(Unit)))=>oc (α:=(Gt.Rd×Unit)×(LicSpec.Ex×Unit)) (β:=Int×Int×Unit) (orc.e 278 [.ptr 0 0] [293] [.st 16] ((r1.1.1,()):Gt.Rd×Unit) [.st 9] [I6,I6] 254) (λ(r2:((Gt.Rd×Unit)×(LicSpec.Ex×Unit)))=>zaE (σ:=Unit) (R:=_) (br ((Gt.Tk.kind (Gt.Rd.now r2.1.1)) != 0) (oc (α:=(Unit)×(Unit)) (β:=Int×Int×Unit) (orc.e 279 [.int .i64 (Gt.Tk.at_ (Gt.Rd.now r2.1.1)),.int .i64 6] [] [] ((()):Unit) [] [I6,I6] 254) (λ(_:((Unit)×(Unit)))=>some (.inl (()))) λ(p4:Int×Int×Unit)=>some (.inr (.inr (p4.1,p4.2.1,())))) (some (.inl (())))) λ(_:Unit)=>some (.inl (LicSpec.Ex.mk (LicSpec.Ex.kind r2.2.1) (LicSpec.Ex.name r2.2.1) (LicSpec.Ex.later r2.2.1) (LicSpec.Ex.wth r2.2.1) (LicSpec.Ex.kids r2.2.1),Gt.Licence_fault.mk 0 0,()))) λ(p6:Int×Int×Unit)=>some (.inr (p6.1,p6.2.1,()))) λ(p7:Int×Int×Unit)=>some (.inr (p7.1,p7.2.1,()))
noncomputable def zn0(e:Env Sx)(bx:Bxs Sx):Option zpM:=match ze6 un tb e bx Tryz.f234.results.toList with
 |some l=>(match zf4 un (zaq (zdi l) bx) [.st 9,.st 15] l with|some c=>some (.inl c)|none=>none)|none=>none
noncomputable def finR(x:Exit)(e:Env Sx)(bx:Bxs Sx):Option zpM:=match x with
 | .normal=>zn0 e bx| .ret=>zn0 e bx| .panic ch=>(match zom 254 [.int .i64,.int .i64] ch with|some p=>some (.inr p)|none=>none)|_=>none
theorem zqv(o:Orc Sx)(s:By):zhm un tb o (zoh un tb o 6) znq zlQ zpM [(3,.ptr 1 0),(2,.ptr 0 0),(0,.str s)] [.var 200 zEx,.var 254 zF] finR=zl4 o s:=by kernel_rfl
noncomputable def e234(o:Orc Sx):Entry Sx:=⟨[.str],[.st 9,.st 15],λt=>match zl4 o t.1 with
 |some (.inl c)=>some c|some (.inr p)=>some (LicSpec.Ex.zero,⟨p.1,p.2.1⟩,())|none=>none⟩
def fin0(x:Exit)(e:Env Sx)(bx:Bxs Sx):Option (Env Sx×Bxs Sx):=match x with | .normal=>some (e,bx)|_=>none
theorem zrZ(o:Orc Sx)(s:By):zhm un tb o (zoh un tb o 6) znq r0C (Env Sx×Bxs Sx) [(0,.str s)] [] fin0=some ([(3,.ptr 1 0),(2,.ptr 0 0),(0,.str s)],[.var 200 zEx,.var 254 zF]):=by kernel_rfl
theorem f234_n:Tryz.f234.ntmps=27:=by kernel_rfl
theorem r0_w:(zaW r0C).all (Nat.blt · 27)=true:=by kernel_rfl
theorem zsv:(zaW zlQ).all (Nat.blt · 27)=true:=by kernel_rfl
theorem ziE:(za7 znq zlQ).contains 2=false/\(za7 znq zlQ).contains 3=false:=⟨by kernel_rfl,by kernel_rfl⟩
noncomputable def zpR(i:Nat):Oper:=match r1C with | .region _ ops _=>ops[i]?.getD default|_=>default
theorem zsx:r1C= .region 1 [zpR 0,zpR 1].toArray false:=by kernel_rfl
theorem r1_0:(zpR 0).op= .makeFunc (.func 276) #[] #[.tmp 2,.tmp 3]:=by kernel_rfl
theorem r1_1:∃c:Call,(zpR 1).op= .defer c/\c.callee= .value (.tmp 5)/\c.args= #[]:=⟨⟨.value (.tmp 5),#[],#[]⟩,by kernel_rfl,by kernel_rfl,by kernel_rfl⟩
theorem r1_g:(zpR 0).guard=none/\(zpR 1).guard=none:=⟨by kernel_rfl,by kernel_rfl⟩
theorem r1_d:(zpR 0).dst=some 5/\(zpR 1).dst=none:=⟨by kernel_rfl,by kernel_rfl⟩
theorem zsO(p0 p1:Value)(w:World):(invoke (.fn (.func 276) #[p0,p1]) #[]).run Tryz.prog w= .ok (.enter 276 #[p0,p1]) w:=by kernel_rfl
theorem resR(x y:Int):zn0 [(2,.ptr 0 0),(3,.ptr 1 0)] [.var 200 zEx,.var 254 [.int .i64 x,.int .i64 y]]=some (.inl (LicSpec.Ex.zero,⟨x,y⟩,())):=by kernel_rfl
theorem zgR{l:List Nat}{i:Nat}(h:l.contains i=false):i∉l:=by simpa using h
theorem zi7{e:Env Sx}{bx:Bxs Sx}{r:zpM}(h:zn0 e bx=some r):∃l c,ze6 un tb e bx Tryz.f234.results.toList=some l/\zf4 un (zaq (zdi l) bx) [.st 9,.st 15] l=some c/\r= .inl c:=by
 unfold zn0 at h;split at h
 ·rename_i l hl;split at h;·simp_all
  ·cases h
 ·cases h
theorem hok234(o:Orc Sx)(h:SoundO Tryz.prog un o):Entry.Ok Tryz.prog un 234 (e234 o):=by
 intro t r hr D w vs hD ha;obtain ⟨s,_⟩:=t
 match vs,ha with
 |[],ha=>grind[e234,zbQ,RepL]|_::_::_,ha=>grind[e234,zbQ,RepL]|[v],ha =>
 have ha':RepL (S:=Sx) un [] D w [.str s] [v]:=ha;have hin:=zbC mixed zeM zmo h 6;refine calls_of_wp_defers Tryz.func234 zr6 ?_;rw[f234_n];have hst:=zlO (n:=27) hD ha' (by simp);refine wp_seq (zfm (E:=⟨w,[],[]⟩) (D0:=D) (N:=⟨27,[]⟩) mixed zeM zmo h hin _ _ _ _ _ _ (zrZ o s) (λd hdd=>by have:=yAM.1 r0_w d hdd;simp_all) hst λx e bx hk _ _ a1 w1 hH=>?_);have hx:x= .normal:=by cases x<;>first|rfl|cases hk
 subst hx;simp only[fin0,yAf,Prod.mk.injEq] at hk;obtain ⟨rfl,rfl⟩:=hk;show (Code.seq r1C zlQ).wp _ _ a1 w1;obtain ⟨D1,H1,st1,hD1,_⟩:=hH;obtain ⟨b0,hb0,hb0'⟩:=st1.boxes.get (i:=0) (b:= .var 200 zEx) rfl;obtain ⟨b1,hb1,hb1'⟩:=st1.boxes.get (i:=1) (b:= .var 254 zF) rfl;have hres0:=st1.inn.res _ (yAb hb0);have hres1:=st1.inn.res _ (yAb hb1);obtain ⟨g0,cs0,rfl,hl0⟩:=zol hb0' (by decide);obtain ⟨g1,cs1,rfl,hl1⟩:=zol hb1' (by decide);have hge0:w.heap.size<=g0:=by rcases hres0.1 with h1|h1;exact h1;simp at h1
 have hge1:w.heap.size<=g1:=by rcases hres1.1 with h1|h1;exact h1;simp at h1
 have hne:g0≠g1:=λhe=>by have:=zaK st1.inn.disj hb0 hb1 (g:=g0) rfl (by rw[he];rfl);omega
 have hHl:H1=[.box g0 200 cs0,.box g1 254 cs1]:=by
  have hlen:=st1.boxes.length
  match H1,hb0,hb1,hlen with
  |[x,y],hb0,hb1,_=>grind|[],hb0,_,_=>simp at hb0|[_],_,hb1,_=>simp at hb1|_::_::_::_,_,_,hlen=>simp at hlen
 have hv2:a1.tmps.getD 2 undef= .pointer (some ⟨g0,0,none⟩):=by have:=st1.slots 2 (.ptr 0 0) rfl;simp_all[Rep,zal]
 have hv3:a1.tmps.getD 3 undef= .pointer (some ⟨g1,0,none⟩):=by have:=st1.slots 3 (.ptr 1 0) rfl;simp_all[Rep,zal]
 refine wp_seq ?_;rw[zsx];refine wp_region_lit (wpList_plain r1_g.1 λK hK=>?_);have hrun0:(execOp a1.eval (zpR 0)).run Tryz.prog w1= .ok (.value (.func (.func 276) #[] #[.pointer (some ⟨g0,0,none⟩),.pointer (some ⟨g1,0,none⟩)])) w1:=by have e2:a1.eval (.tmp 2)= .pointer (some ⟨g0,0,none⟩):=hv2;have e3:a1.eval (.tmp 3)= .pointer (some ⟨g1,0,none⟩):=hv3;simp only[execOp,r1_0];simp[e2,e3];rfl
 unfold Oper.wp;rw[hrun0];refine hK _ _ (wpList_plain r1_g.2 λK' hK'=>?_);rw[r1_d.1];obtain ⟨c,hc1,hc2,hc3⟩:=r1_1;have hrun1:(execOp (a1.put (some 5) (.func (.func 276) #[] #[.pointer (some ⟨g0,0,none⟩),.pointer (some ⟨g1,0,none⟩)])).eval (zpR 1)).run Tryz.prog w1= .ok (.defer ⟨.fn (.func 276) #[.pointer (some ⟨g0,0,none⟩),.pointer (some ⟨g1,0,none⟩)],#[]⟩) w1:=by have e5:(a1.put (some 5) (.func (.func 276) #[] #[.pointer (some ⟨g0,0,none⟩),.pointer (some ⟨g1,0,none⟩)])).eval (.tmp 5)= .func (.func 276) #[] #[.pointer (some ⟨g0,0,none⟩),.pointer (some ⟨g1,0,none⟩)]:=zcs (by have:a1.tmps.size=27:=st1.size;omega);simp[execOp,hc1,resolve,hc2,hc3,e5,Deferred.ofValue]
 unfold Oper.wp;rw[hrun1];refine hK' _ _ (wpList_nil ?_);rw[r1_d.2];show zlQ.wp _ _ _ w1
 -- the rest,the two blocks as if they were lent
 have hst2:Holds un ⟨w1,[g0,g1],[.pointer (some ⟨g0,0,none⟩),.pointer (some ⟨g1,0,none⟩)]⟩ D1 ⟨27,[⟨.fn (.func 276) #[.pointer (some ⟨g0,0,none⟩),.pointer (some ⟨g1,0,none⟩)],#[]⟩]⟩ [(3,.ptr 1 0),(2,.ptr 0 0),(0,.str s)] [.var 200 zEx,.var 254 zF]
   ({ a1.put (some 5) (.func (.func 276) #[] #[.pointer (some ⟨g0,0,none⟩),.pointer (some ⟨g1,0,none⟩)]) with defers:=⟨.fn (.func 276) #[.pointer (some ⟨g0,0,none⟩),.pointer (some ⟨g1,0,none⟩)],#[]⟩::(a1.put (some 5) (.func (.func 276) #[] #[.pointer (some ⟨g0,0,none⟩),.pointer (some ⟨g1,0,none⟩)])).defers }.put none undef) w1:=by
  refine ⟨D1,H1,⟨⟨Wl.Grow.refl _ _,st1.inn.lt,λr hr=>?_,st1.inn.apart,st1.inn.disj,λi g hi=>?_⟩,?_,?_,?_,λi p hi=>?_⟩,λk o hk=>.inl hk,Ge.refl _ _⟩
  ·rw[hHl] at hr;simp only[yAm,yAX,or_false] at hr;rcases hr with rfl|rfl;·exact ⟨.inr (by simp),hres0.2⟩
   ·exact ⟨.inr (by simp),hres1.2⟩
  ·rw[hHl];rcases i with _|_|i;·simp at hi;subst hi;exact ⟨_,rfl,rfl,rfl,keptR.box⟩
   ·simp at hi;subst hi;exact ⟨_,rfl,rfl,rfl,keptR.box⟩
   ·simp at hi
  ·simp[Act.put,st1.size]
  ·simp[Act.put,st1.defers]
  ·rw[hHl];simp only[BxRep,BoxRep];have:ids H1=ids [.box g0 200 cs0,.box g1 254 cs1]:=by rw[hHl]
   rw[this] at hl0 hl1;exact ⟨⟨trivial,hl0⟩,⟨trivial,hl1⟩,trivial⟩
  ·have hi5:5≠i:=λh5=>(by subst h5;cases hi);have:=st1.slots i p hi;simpa[Act.put,yAv,hi5] using this
 have hsp:(match zl4 o s with
  |some (.inl c)=>some c|some (.inr p)=>some (LicSpec.Ex.zero,⟨p.1,p.2.1⟩,())|none=>none)=some r:=hr
 cases hm:zl4 o s with
 |none=>rw[hm] at hsp;cases hsp|some res =>
 rw[hm] at hsp;refine zfm (N:=⟨27,_⟩) mixed zeM zmo h hin _ _ _ _ _ _ ((zqv o s).trans hm) (λd hdd=>by have:=yAM.1 zsv d hdd;simpa[yAN] using this) hst2 λx e' bx' hk hp hpb a3 w3 hH3=>?_;obtain ⟨D3,H3,st3,hD3,_⟩:=hH3;have hg1:=st1.inn.out;have hg3:=st3.inn.out;have below:∀w4,Wl.Grow [g0,g1] w3 w4->Below w.heap.size w w4:=λw4 hg4=>by
  refine ⟨hg4.os.trans (hg3.os.trans hg1.os),hg4.tape.trans (hg3.tape.trans hg1.tape),hg4.output.trans (hg3.output.trans hg1.output),yAo hg1.size (yAo hg3.size hg4.size),λk hk=>?_⟩;have hk0:k∉[g0,g1]:=by simp;omega
  have s1:k<w1.heap.size:=yAq hk hg1.size;rw[hg4.block k (yAq s1 hg3.size) hk0,hg3.block k s1 hk0,hg1.block k hk (by simp)]
 have normal:zn0 e' bx'=some res->Leaves Tryz.prog Tryz.f234 a3.tmps (λx w'=>∃v,x= .returned v/\Below w.heap.size w w'/\Rep un [] (zkU D w w') w' (zfI (zbQ (e234 o).rs r)) v) a3.defers .returning w3:=by
  intro hf;obtain ⟨l,c,hl,hc,rfl⟩:=zi7 hf;cases hsp;rw[st3.defers];refine leaves_cons (by simp) (zsO _ _ w3) ((zr4 h _ _ w3).mono ?_)
  rintro e4 u' w4 ⟨⟨v4,rfl⟩,rfl,hb4⟩
  show ∃v,(results Tryz.f234 a3.tmps).run Tryz.prog w4= .ok v w4/\_;have hin4:=st3.inn.below hb4;have hge4:=Ge.below st3.inn hb4;have st4:St un ⟨w1,[g0,g1],[.pointer (some ⟨g0,0,none⟩),.pointer (some ⟨g1,0,none⟩)]⟩ ⟨27,_⟩ (zkU D3 w3 w4) H3 e' bx' a3 w4:=⟨hin4,st3.size,st3.defers,st3.boxes.mono hge4 (zas st3.inn.out hin4.out) λ_ _ h=>h,λi q hi=>(st3.slots i q hi).ge hge4 λ_ _ h=>h⟩;obtain ⟨v,D5,H5,k1,k2,st5,_,_,hup⟩:=zbY (fn:=Tryz.f234) zeM zmo st4 hl hc;refine ⟨v,k1,v,rfl,below w4 (Wl.Grow.of_below hb4),k2.ge ⟨λk o hk5=>?_,λ_ _ _=>rfl⟩ λ_ _ h=>h⟩;rcases hup k o hk5 with hk|hk
  rotate_left
  ·exact .inr ⟨hk.elim (λh=>yAo hg1.size h) (λh=>by simp at h;rcases h with rfl|rfl<;>omega),st5.inn.lt k o hk5⟩
  rcases hk with hk|hk
  ·rcases hD3 k o hk with h1|h1
   ·rcases hD1 k o h1 with h2|h2;·exact .inl h2
    ·exact .inr ⟨h2.elim id (λh=>by simp at h),yAq (st3.inn.lt k o hk) hb4.size⟩
   ·exact .inr ⟨h1.elim (λh=>yAo hg1.size h) (λh=>by simp at h;rcases h with rfl|rfl<;>omega),yAq (st3.inn.lt k o hk) hb4.size⟩
  ·exact .inr ⟨yAo hg1.size (yAo hg3.size hk.1),hk.2⟩
 cases x with
 |normal=>exact normal hk|ret=>exact normal hk|panic ch =>
   simp only[finR] at hk;split at hk
   ·rename_i p hp49;cases hk;cases hsp;have hch:=zjq hp49;subst hch;show Leaves Tryz.prog Tryz.f234 a3.tmps _ a3.defers (.panicking _) w3;rw[st3.defers];have hl2:zvo e' 2=some (.ptr 0 0):=hp 2 _ (zgR ziE.1) rfl rfl;have hl3:zvo e' 3=some (.ptr 1 0):=hp 3 _ (zgR ziE.2) rfl rfl;obtain ⟨T3,cs3,hH30⟩:=zng st3.inn (i:=0) (g:=g0) rfl;obtain ⟨T4,cs4,hH31⟩:=zng st3.inn (i:=1) (g:=g1) rfl;obtain ⟨c0',hbx0,hlen0⟩:=hpb.var 0 200 zEx rfl;obtain ⟨c1',hbx1,hlen1⟩:=hpb.var 1 254 zF rfl;obtain ⟨r0,hr0,hr0'⟩:=st3.boxes.get hbx0;obtain ⟨r1,hr1,hr1'⟩:=st3.boxes.get hbx1;rw[hH30] at hr0;cases hr0;rw[hH31] at hr1;cases hr1;simp only[BoxRep] at hr0' hr1';obtain ⟨rfl,hq0⟩:=hr0';obtain ⟨rfl,hq1⟩:=hr1';have hp0:=(st3.inn.res _ (yAb hH30)).2;have hp1:=(st3.inn.res _ (yAb hH31)).2;refine leaves_cons (by simp) (zsO _ _ w3) ((zqS h g0 g1 p.1 p.2.1 w3 cs3 cs4 hp0 hp1 (by rw[<-hq0.length,hlen0];rfl) (by rw[<-hq1.length,hlen1];rfl) hne).mono ?_)
    rintro e4 u' w4 ⟨⟨v4,rfl⟩,hu',hg4,hh0,hh1⟩
    show Leaves Tryz.prog Tryz.f234 a3.tmps _ [] (settle u') w4;rw[hu'];obtain ⟨l,c,hl,hc,hcr⟩:=zi7 (resR p.1 p.2.1);cases hcr;have st4:St un ⟨w4,[g0,g1],[.pointer (some ⟨g0,0,none⟩),.pointer (some ⟨g1,0,none⟩)]⟩ ⟨27,a3.defers⟩ (λ_ _=>False) [.box g0 200 zExV.toList,.box g1 254 [.int .i64 p.1,.int .i64 p.2.1]] [(2,.ptr 0 0),(3,.ptr 1 0)] [.var 200 zEx,.var 254 [.int .i64 p.1,.int .i64 p.2.1]] a3 w4:=by
     refine ⟨⟨Wl.Grow.refl _ _,λ_ _ h=>h.elim,λr hr=>?_,λr hr g hg o' _ h=>h.elim,?_,λi g hi=>?_⟩,st3.size,rfl,?_,λi q hi=>?_⟩
     ·simp only[yAm,yAX,or_false] at hr;rcases hr with rfl|rfl;·exact ⟨.inr (by simp),by simpa using hh0⟩
      ·exact ⟨.inr (by simp),hh1⟩
     ·refine yBU.2 ⟨λr hr g h1' h2'=>?_,yBs _ _⟩;simp only[yAm,yAX,or_false] at hr;subst hr;simp[Wl.Res.has] at h1' h2';omega
     ·rcases i with _|_|i;·simp at hi;subst hi;exact ⟨_,rfl,rfl,rfl,keptR.box⟩
      ·simp at hi;subst hi;exact ⟨_,rfl,rfl,rfl,keptR.box⟩
      ·simp at hi
     ·simp only[BxRep,BoxRep,zEx,zExV,RepL,Rep,List.toArray];exact ⟨⟨trivial,trivial,trivial,trivial,trivial,trivial,trivial⟩,⟨trivial,trivial,trivial,trivial⟩,trivial⟩
     ·have q2:=st3.slots 2 _ hl2;have q3:=st3.slots 3 _ hl3;simp only[Rep,ids,yAh,hH30,hH31,yAg,zal,yAf,Prod.mk.injEq,true_and] at q2 q3;obtain ⟨x0,y0,z0⟩:=q2;obtain ⟨x1,y1,z1⟩:=q3;simp at y0 y1;subst y0;subst y1;simp only[zvo] at hi;cases hb2:Nat.beq 2 i with
      |true =>rw[hb2] at hi;have:=yAa hb2;subst this;simp at hi;subst hi;simp only[Rep,ids];exact ⟨g0,rfl,z0⟩
      |false =>
        rw[hb2] at hi;simp only[cond_false] at hi;cases hb3:Nat.beq 3 i with
        |true =>rw[hb3] at hi;have:=yAa hb3;subst this;simp at hi;subst hi;simp only[Rep,ids];exact ⟨g1,rfl,z1⟩
        |false=>rw[hb3] at hi;simp at hi
    obtain ⟨v,D5,H5,k1,k2,st5,_,_,hup⟩:=zbY (fn:=Tryz.f234) zeM zmo st4 hl hc;refine ⟨v,k1,v,rfl,below w4 hg4,k2.ge ⟨λk o hk5=>?_,λ_ _ _=>rfl⟩ λ_ _ h=>h⟩;rcases hup k o hk5 with hk|hk;·exact hk.elim
    ·exact .inr ⟨hk.elim (λh=>yAo hg1.size (yAo hg3.size (yAo hg4.size h))) (λh=>by simp at h;rcases h with rfl|rfl<;>omega),st5.inn.lt k o hk5⟩
   ·cases hk
 |exit i=>cases hk|goto l=>cases hk|outgrown=>cases hk
end Pe.Tryz
end
section
/- What is known of Paths: told out of its walk. -/
set_option maxRecDepth 100000
namespace Pe.Tryz
open Go Go.Proofs Pe Go.RowKit Go.Proofs.YtojfjgjdheiffaaGreatDoor
theorem zyO{D:Dat}{w:World}{us:List U}{t:ElL Sx (.str::us)}{vs:List Value}(h:DR un D w (.str::us) t vs):∃vs',vs= .string ⟨(eS (hd t)).toArray⟩::vs'/\DR un D w us (tl t) vs':=by
 cases h with
 |str h=>exact ⟨_,rfl,h⟩
theorem zzA{D:Dat}{w:World}{k:IntKind}{us:List U}{t:ElL Sx (.int k::us)}{vs:List Value}(h:DR un D w (.int k::us) t vs):∃vs',vs= .int k (eI (hd t))::vs'/\DR un D w us (tl t) vs':=by
 cases h with
 |int h=>exact ⟨_,rfl,h⟩
theorem zyX{D:Dat}{w:World}{u:U}{us:List U}{t:ElL Sx (.sl u::us)}{vs:List Value}(h:DR un D w (.sl u::us) t vs):∃A n k vs',vs= .slice A n k::vs'/\DR un D w [.sl u] (sg (u:= .sl u) (hd t)) [.slice A n k]/\DR un D w us (tl t) vs':=by
 cases h with
 |sl0 A c h0 h=>exact ⟨_,_,_,_,rfl,.sl0 A c h0 .nil,h⟩|sl b off c cs hc h1 h2 h=>exact ⟨_,_,_,_,rfl,.sl b off c cs hc h1 h2 .nil,h⟩
theorem zzn{D:Dat}{w:World}{t:ElL Sx []}{vs:List Value}(h:DR un D w [] t vs):vs=[]:=by
 cases h with
 |nil=>rfl
theorem zzz{D:Dat}{w:World}{n:Nat}{x:Sx n}{vs:List Value}(h:DR un D w [.st n] (sg (u:= .st n) x) vs):DR un D w (unCo n) (zzt n x) vs:=by
 cases h with
 |st h1 h=>cases h;rw[yAR];exact h1
theorem zyZ{D:Dat}{w:World}{b:Gt.Bill}{cs:List Value}(h:DR un D w [.st 3] (sg (u:= .st 3) b) cs):∃(p0 p1 p2:ByteArray) (a3 a4:Option Addr) (m3 m4 j3 j4:Nat),cs=[.string p0,.string p1,.string p2,.slice a3 m3 j3,.slice a4 m4 j4]:=by obtain ⟨_,rfl,h10⟩:=zyO (us:=[.str,.str,.sl (.st 5),.sl (.st 7)]) (zzz h);obtain ⟨_,rfl,h11⟩:=zyO h10;obtain ⟨_,rfl,h12⟩:=zyO h11;obtain ⟨_,_,_,_,rfl,_,h13⟩:=zyX h12;obtain ⟨_,_,_,_,rfl,_,h14⟩:=zyX h13;obtain rfl:=zzn h14;exact ⟨_,_,_,_,_,_,_,_,_,rfl⟩
theorem zyW{D:Dat}{w:World}{g:Gt.Gf}{cs:List Value}(h:DR un D w [.st 14] (sg (u:= .st 14) g) cs):∃A6 n6 k6,gcA cs.toArray g.root A6 n6 k6/\DR un D w [.sl LI] (sg (u:= .sl LI) g.out) [.slice A6 n6 k6]:=by obtain ⟨_,rfl,h10⟩:=zyO (us:=[.str,.str,.sl (.st 5),.sl (.st 7),.int .i64,.sl LI,.sl LI]) (zzz h);obtain ⟨_,rfl,h11⟩:=zyO h10;obtain ⟨_,rfl,h12⟩:=zyO h11;obtain ⟨_,_,_,_,rfl,_,h13⟩:=zyX h12;obtain ⟨_,_,_,_,rfl,_,h14⟩:=zyX h13;obtain ⟨_,rfl,h15⟩:=zzA h14;obtain ⟨_,_,_,_,rfl,h6,h16⟩:=zyX h15;obtain ⟨_,_,_,_,rfl,_,h17⟩:=zyX h16;obtain rfl:=zzn h17;exact ⟨_,_,_,⟨_,_,_,_,_,_,_,_,_,_,_,_,rfl⟩,h6⟩
def toB(L:List (Int×Int)):List Gt.Bom_beginning:=L.map λx=>⟨x.1,x.2⟩
noncomputable def zzm(o:Orc Sx)(L:List (Int×Int))(k j:Int):Option Bool:=(o.d 116 [.sl (.st 12) (toB L),.int .i64 k,.int .i64 j] [.bool]).map λr=>r.1
def zyA:Nat:=200002
noncomputable def zyT(o:Orc Sx)(g:Gt.Gf)(L:List (Int×Int))(k:Int):Option (List By):=(zyF L zyA k).bind λp=>(o.d 59 [.st 14 g,.sl I6 p.reverse] [.sl .str]).map λr=>r.1
noncomputable def m29(o:Orc Sx)(b:Gt.Bill)(to:By)(scope most:Int):Option (List (List By)×Int×Unit) :=
 ob (α:=Gt.Gf×Int×Int×Unit) (o.d 56 [.st 3 b,.str to,.int .i64 scope] [.st 14,.int .i64,.int .i64]) λ(r:Gt.Gf×Int×Int×Unit)=>(zyL (zzm o) (zyT o r.1) r.1.out r.1.root r.2.1 r.2.2.1 most zyA).map λp=>(p.1,p.2,())
noncomputable def e29(o:Orc Sx):Entry Sx:=⟨[.st 3,.str,.int .i64,.int .i64],[.sl LS,.int .i64],λt=>m29 o t.1 t.2.1 t.2.2.1 t.2.2.2.1⟩
theorem zgm{s:Nat}{lv:Value}{L:List (Int×Int)}{X:World}(h:X.ownsRow s 157 2 lv L.length (zyv L)):DR un (λb _=>lv.ownBlock=some b) X [.sl (.st 12)] (sg (u:= .sl (.st 12)) (toB L)) [lv]:=by
 rcases h.2 with ⟨rfl,h0⟩|⟨g,cap,cur,rfl,hgs,hgb,hc1,hc2,hc3,hc4⟩;·have:L=[]:=yBG h0;subst this;exact .sl0 none 0 rfl .nil
 ·have hlen:(toB L).length=L.length:=yBi _;rw[<-hlen];refine .sl g 0 cap (λi=>[.int .i64 (L.getD i (0,0)).1,.int .i64 (L.getD i (0,0)).2]) (show (toB L).length<=cap by omega) ?_ ?_ .nil
  ·intro j x hx;have hx:(toB L)[j]?=some x:=hx;have hj:j<L.length:=by have:=(yAc.1 hx).1;omega
   have hLj:L[j]?=some (L.getD j (0,0)):=(by rw[yAj,yAe hj];rfl);have e0:0+j*U.size un (.st 12)=j*2:=yAJ _;rw[e0];intro jj v hv
   match jj,hv with
   |0,hv=>simp at hv;subst hv;exact ⟨rfl,by rw[World.ownsRow.cellAt h _ (by omega)];exact zy8 hLj⟩|1,hv=>simp at hv;subst hv;exact ⟨rfl,by rw[World.ownsRow.cellAt h _ (by omega)];exact zy7 hLj⟩
  ·intro j x hx;have hx:(toB L)[j]?=some x:=hx;have hj:j<L.length:=by have:=(yAc.1 hx).1;omega
   have hxx:x=⟨(L.getD j (0,0)).1,(L.getD j (0,0)).2⟩:=(by unfold toB at hx;rw[yAh,yAe hj] at hx;rw[yAj,yAe hj];exact (yAS hx).symm);subst hxx;exact .st (us:=[]) (cs:=[_,_]) (.int (.int .nil)) .nil
theorem zzi{B:Nat}{X:World}{D:Dat}{pv:Value}{l:List Int}{n:Nat}(h:X.ownsRow B 3 1 pv n (l.map (Value.int .i64)))(hD:∀b o,B<=b->b<X.heap.size->D b o):DR (S:=Sx) un D X [.sl I6] (sg (u:= .sl I6) l) [pv]:=by
 have hn:l.length=n:=by simpa using h.1
 rcases h.2 with ⟨rfl,h0⟩|⟨g,cap,cur,rfl,hgs,hgb,hc1,hc2,hc3,hc4⟩;·have:l=[]:=yBG (by omega);subst this;exact .sl0 none 0 rfl .nil
 ·subst hn;refine .sl g 0 cap (λi=>[.int .i64 (l.getD i 0)]) hc1 ?_ ?_ .nil
  ·intro j x hx;have hx:l[j]?=some x:=hx;have hj:=(yAc.1 hx).1;have e0:0+j*U.size un I6=j:=by simp[U.size]
   rw[e0];intro jj v hv;cases jj with
   |succ jj=>simp at hv|zero =>simp at hv;subst hv;refine ⟨hD g _ hgs (yAE.1 hgb).1,?_⟩;rw[yBu,World.ownsRow.cellAt h _ (by omega),yAh,hx];rfl
  ·intro j x hx;have hx:l[j]?=some x:=hx;have:l.getD j 0=x:=by rw[yAj,hx];rfl
   rw[this];exact .int .nil
theorem hok29(o:Orc Sx)(ho:SoundO Tryz.prog un o):Entry.Ok Tryz.prog un 29 (e29 o):=by
 intro t r h D w vs hD ha;obtain ⟨b,to,scope,most,⟨⟩⟩:=t;have h:m29 o b to scope most=some r:=h;unfold m29 at h;cases ho56:o.d 56 [.st 3 b,.str to,.int .i64 scope] [.st 14,.int .i64,.int .i64] with
 |none=>rw[ho56] at h;cases h|some r56 =>
 rw[ho56] at h;obtain ⟨g,i,er,⟨⟩⟩:=r56;have h:(zyL (zzm o) (zyT o g) g.out g.root i er most zyA).map (λp=>(p.1,p.2,()))=some r:=h;cases hps:zyL (zzm o) (zyT o g) g.out g.root i er most zyA with
 |none=>rw[hps] at h;cases h|some p =>
 rw[hps] at h;obtain ⟨ps,c⟩:=p;obtain rfl:(ps,c,())=r:=yAS h
 match vs,ha with
 |[v0,v1,v2,v3],ha =>
   simp only[e29,zbQ,RepL,inj,Rep] at ha;obtain ⟨⟨cs,rfl,hb⟩,rfl,rfl,rfl,_⟩:=ha;obtain ⟨p0,p1,p2,a3,a4,m3,m4,j3,j4,rfl⟩:=zyZ hb;refine (callsIn_wide.1 (pa29 (un:=un) 0 p0 p1 p2 a3 a4 m3 m4 j3 j4 ⟨to.toArray⟩ scope most w D hD [.st 14] (sg (u:= .st 14) g) g.out i er g.root ?_ (zzm o) (zyT o g) ?_ ?_ zyA ps c hps)).mono ?_
   ·intro W hW;have hg:Ge D w D W:=⟨λ_ _ h=>h,λk q hk=>zyu (hW.block k (hD k q hk))⟩;refine (ho.d 56 _ _ _ ho56 D W [.agg #[.string p0,.string p1,.string p2,.slice a3 m3 j3,.slice a4 m4 j4],.string ⟨to.toArray⟩,.int .i64 scope] (λk q hk=>yAq (hD k q hk) hW.size) ?_).mono ?_;·simp only[RepL,Rep];exact ⟨⟨_,rfl,hb.mono hg⟩,trivial,trivial,trivial⟩
    ·rintro e W' ⟨v,rfl,hb',hr⟩
     simp only[zbQ,zfI,inj,Rep] at hr;obtain ⟨cs,rfl,hr⟩:=hr
     match cs,hr with
     |[x0,x1,x2],hr =>simp only[RepL,Rep] at hr;obtain ⟨⟨cs,rfl,hgr⟩,rfl,rfl,_⟩:=hr;obtain ⟨A6,n6,k6,hgc,h6⟩:=zyW hgr;exact ⟨_,A6,n6,k6,hgc,rfl,hb',hgr,h6⟩
     |[],hr=>simp[RepL] at hr|[_],hr=>simp[RepL] at hr|[_,_],hr=>simp[RepL] at hr|_::_::_::_::_,hr=>simp[RepL] at hr
   ·intro s X lv L k j bb hs hrow hh;unfold zzm at hh;cases h116:o.d 116 [.sl (.st 12) (toB L),.int .i64 k,.int .i64 j] [.bool] with
    |none=>rw[h116] at hh;cases hh|some r =>
    rw[h116] at hh;obtain ⟨rb,⟨⟩⟩:=r;obtain rfl:rb=bb:=yAS hh;refine (ho.d 116 _ _ _ h116 (λb _=>lv.ownBlock=some b) X [lv,.int .i64 k,.int .i64 j] (λb _ hb=>zyJ hrow b hb) ?_).mono ?_;·simp only[RepL,Rep];exact ⟨zgm hrow,trivial,trivial,trivial⟩
    ·rintro e W' ⟨v,rfl,hb',hr⟩
     simp only[zbQ,zfI,inj,Rep] at hr;subst hr;exact ⟨rfl,hb'⟩
   ·intro gc s D X lv L k r hD gD hrow hp;unfold zyT at hp;cases hw:zyF L zyA k with
    |none=>rw[hw] at hp;cases hp|some p =>
    rw[hw] at hp;simp only[yAB] at hp;cases h59:o.d 59 [.st 14 g,.sl I6 p.reverse] [.sl .str] with
    |none=>rw[h59] at hp;cases hp|some r59 =>
    rw[h59] at hp;obtain ⟨rr,⟨⟩⟩:=r59;obtain rfl:rr=r:=yAS hp;refine (pa115 hrow hw (by decide)).mono ?_
    rintro e X' ⟨pv,rfl,hbX,hpv⟩
    refine ⟨pv,rfl,hbX,?_⟩;have hg:Ge D X (zkU D X X') X':=⟨λ_ _ h=>.inl h,λb q hk=>zyu (hbX.block b (hD b q hk))⟩;refine (ho.d 59 _ _ _ h59 (zkU D X X') X' [.agg gc,pv] (λb q hk=>hk.elim (λh=>yAq (hD b q h) hbX.size) λh=>h.2) ?_).mono ?_;·simp only[RepL,Rep];exact ⟨⟨_,rfl,gD.mono hg⟩,zzi hpv (λb q h1 h2=>.inr ⟨h1,h2⟩),trivial⟩
    ·rintro e Y ⟨v,rfl,hbY,hr⟩
     simp only[zbQ,zfI,inj,Rep] at hr;obtain ⟨A,rn,rc,_,he,hr',_⟩:=zyX hr;cases he;have hsX:=hbX.size;have hsY:=hbY.size;exact ⟨A,rn,rc,rfl,hbY,DR.mono ⟨λb q hk=>by
      rcases hk with (hk|⟨h1,h2⟩)|⟨h1,h2⟩;·exact .inl hk
      ·exact .inr ⟨h1,by omega⟩
      ·exact .inr ⟨by omega,h2⟩,λ_ _ _=>rfl⟩ hr'⟩
   ·rintro e W' ⟨v,rfl,hb',hr⟩
    refine ⟨_,rfl,hb',?_⟩;simp only[e29,zbQ,zfI,inj,Rep];exact ⟨[v,.int .i64 c],rfl,by simp only[RepL,Rep];exact ⟨hr,trivial,trivial⟩⟩
 |[],ha=>simp[e29,zbQ,RepL] at ha|[_],ha=>simp[e29,zbQ,RepL] at ha|[_,_],ha=>simp[e29,zbQ,RepL] at ha|[_,_,_],ha=>simp[e29,zbQ,RepL] at ha|_::_::_::_::_::_,ha=>simp[e29,zbQ,RepL] at ha
end Pe.Tryz
end
section
set_option maxRecDepth 100000
namespace Pe.Tryz
open Go Go.Proofs Pe
noncomputable def tabN(o:Orc Sx):Tr (Entry Sx):=.node (.node (.node (.node (.node (.node (.lf 7 (e7 o)) 14 (e14 o) .leaf) 15 (e15 o) (.node (.lf 16 (e16 o)) 17 (e17 o) .leaf)) 18 ⟨[LS,LS],[.bool],λt=>m18 o t.1 t.2.1⟩ (.node (.node (.lf 19 (e19 o)) 28 ⟨[.st 3,.str,I6],[LS,.bool,I6],λt=>m28 o t.1 t.2.1 t.2.2.1⟩ .leaf) 29 (e29 o) (.node (.lf 32 (e32 o)) 33 (e33 o) .leaf))) 40 ⟨[.st 3],[I6],λt=>m40 o t.1⟩ (.node (.node (.node (.lf 54 ⟨[.st 3],[I6],λt=>m54 o t.1⟩) 56 ⟨[.st 3,.str,I6],[.st 14,I6,I6],λt=>m56 o t.1 t.2.1 t.2.2.1⟩ .leaf) 57 ⟨[.st 14,I6],[LI],λt=>m57 o t.1 t.2.1⟩ (.node (.lf 58 ⟨[.sl LI,I6,I6],[LI],λt=>m58 o t.1 t.2.1 t.2.2.1⟩) 59 ⟨[.st 14,LI],[LS],λt=>m59 o t.1 t.2.1⟩ .leaf)) 60 (e60 o) (.node (.node (.lf 61 ⟨[.st 19,I6,I6],[.sl .bool],λt=>m61 o t.1 t.2.1 t.2.2.1⟩) 62 ⟨[.st 3,.str],[I6],λt=>m62 o t.1 t.2.1⟩ .leaf) 63 ⟨[.st 3,I6,LS],[I6],λt=>m63 o t.1 t.2.1 t.2.2.1⟩ (.node (.lf 64 ⟨[.st 19,LI],[LS],λt=>m64 o t.1 t.2.1⟩) 65 ⟨[.sl .bool],[LI],λt=>m65 o t.1⟩ .leaf)))) 66 ⟨[.str],[.st 5],λt=>m66 o t.1⟩ (.node (.node (.node (.node (.lf 67 (e67 o)) 71 ⟨[.sl LI,I6],[LI],λt=>m71 o t.1 t.2.1⟩ .leaf) 79 ⟨[.st 3,I6],[.st 14,I6],λt=>m79 o t.1 t.2.1⟩ (.node (.lf 88 ⟨[.st 7,.st 7],[I6],λt=>m88 o t.1 t.2.1⟩) 100 ⟨[.st 7,.st 7],[I6],λt=>m100 o t.1 t.2.1⟩ .leaf)) 102 ⟨[.st 3,.bool],[I6],λt=>m102 o t.1 t.2.1⟩ (.node (.node (.lf 109 ⟨[.st 5,.str],[I6],λt=>m109 o t.1 t.2.1⟩) 110 ⟨[.str,.str],[I6],λt=>m110 o t.1 t.2.1⟩ .leaf) 116 ⟨[.sl (.st 12),I6,I6],[.bool],λt=>m116 o t.1 t.2.1 t.2.2.1⟩ (.node (.lf 117 ⟨[.st 11],[I6],λt=>m117 o t.1⟩) 120 ⟨[.st 11],[I6],λt=>m120 o t.1⟩ .leaf))) 122 ⟨[.st 3,I6],[.st 14],λt=>m122 o t.1 t.2.1⟩ (.node (.node (.node (.lf 123 ⟨[.str],[.bool],λt=>m123 o t.1⟩) 134 ⟨[.str,.str],[I6],λt=>m134 o t.1 t.2.1⟩ .leaf) 138 ⟨[I6,I6],[I6],λt=>m138 o t.1 t.2.1⟩ (.node (.lf 142 ⟨[LI],[I6],λt=>m142 o t.1⟩) 143 ⟨[.str],[.bool],λt=>m143 o t.1⟩ .leaf)) 144 ⟨[.st 5,.bool],[I6],λt=>m144 o t.1 t.2.1⟩ (.node (.node (.lf 147 ⟨[.str],[.bool],λt=>m147 o t.1⟩) 149 ⟨[.str],[.st 8,I6],λt=>m149 o t.1⟩ .leaf) 150 ⟨[.st 11],[.bool],λt=>m150 o t.1⟩ (.lf 151 ⟨[LS,.bool],[.bool],λt=>m151 o t.1 t.2.1⟩))))) 152 ⟨[.str],[LS],λt=>m152 o t.1⟩ (.node (.node (.node (.node (.node (.lf 153 (e153 o)) 154 ⟨[.sl (.st 10)],[I6],λt=>m154 o t.1⟩ .leaf) 155 ⟨[.str],[.bool],λt=>m155 o t.1⟩ (.node (.lf 160 ⟨[.str],[.st 8,I6],λt=>m160 o t.1⟩) 161 ⟨[LS],[.bool],λt=>m161 o t.1⟩ .leaf)) 162 ⟨[.str,.bool],[.bool],λt=>m162 o t.1 t.2.1⟩ (.node (.node (.lf 163 (e163 o)) 164 ⟨[.str],[.bool],λt=>m164 o t.1⟩ .leaf) 165 ⟨[.str],[.bool],λt=>m165 o t.1⟩ (.node (.lf 169 ⟨[.str,I6],[.bool],λt=>m169 o t.1 t.2.1⟩) 170 ⟨[.sl (.st 6)],[I6],λt=>m170 o t.1⟩ .leaf))) 171 ⟨[.str],[.st 9,I6,I6],λt=>m171 o t.1⟩ (.node (.node (.node (.lf 191 ⟨[I6],[.bool],λt=>m191 o t.1⟩) 211 ⟨[.str,I6,I6],[.bool],λt=>m211 o t.1 t.2.1 t.2.2.1⟩ .leaf) 212 ⟨[.sl (.st 6)],[I6],λt=>m212 o t.1⟩ (.node (.lf 213 ⟨[.str],[.st 9,I6,I6],λt=>m213 o t.1⟩) 214 ⟨[.str],[I6],λt=>m214 o t.1⟩ .leaf)) 215 ⟨[],[.st 2],λ_=>m215 o ⟩ (.node (.node (.lf 216 (e216 o)) 218 ⟨[.str],[.bool],λt=>m218 o t.1⟩ .leaf) 219 (e219 o) (.lf 225 ⟨[.str],[I6],λt=>m225 o t.1⟩)))) 226 ⟨[],[.sl (.st 8)],λ_=>m226 o ⟩ (.node (.node (.node (.node (.lf 227 ⟨[.str],[LS],λt=>m227 o t.1⟩) 233 ⟨[.str,I6],[.bool],λt=>m233 o t.1 t.2.1⟩ .leaf) 234 (e234 o) (.node (.lf 235 ⟨[.st 9],[I6],λt=>m235 o t.1⟩) 262 ⟨[.str,I6],[.bool],λt=>m262 o t.1 t.2.1⟩ .leaf)) 266 ⟨[.st 9],[I6],λt=>m266 o t.1⟩ (.node (.node (.lf 269 ⟨[.int .u8,.bool],[.bool],λt=>m269 o t.1 t.2.1⟩) 272 ⟨[],[LS],λ_=>m272 o ⟩ .leaf) 275 ⟨[.int .u8],[I6],λt=>m275 o t.1⟩ (.node (.lf 280 ⟨[.st 9,I6],[I6,I6],λt=>m280 o t.1 t.2.1⟩) 281 ⟨[.st 9],[I6],λt=>m281 o t.1⟩ .leaf))) 293 ⟨[.st 9,I6],[I6],λt=>m293 o t.1 t.2.1⟩ (.node (.node (.node (.lf 294 ⟨[.st 9],[I6],λt=>m294 o t.1⟩) 295 ⟨[.st 9],[I6],λt=>m295 o t.1⟩ .leaf) 303 ⟨[.int .u8],[.bool],λt=>m303 o t.1⟩ (.node (.lf 304 ⟨[.str],[.bool],λt=>m304 o t.1⟩) 305 (e305 o) .leaf)) 306 ⟨[.str],[.bool],λt=>m306 o t.1⟩ (.node (.node (.lf 315 ⟨[.str],[.str],λt=>m315 o t.1⟩) 316 ⟨[.st 9],[I6],λt=>m316 o t.1⟩ .leaf) 326 ⟨[.str],[.bool],λt=>m326 o t.1⟩ (.lf 327 ⟨[.int .u8],[.bool],λt=>m327 o t.1⟩)))))
noncomputable def tabE(o:Orc Sx):Tr (EntryE Sx):=.node (.node (.node (.lf 263 ⟨1,[I6,I6],[280],[.st 18],[.st 9],[],0,λc t=>m263 o c t.1 t.2.1⟩) 264 ⟨1,[],[280],[.st 18],[],[],0,λc _=>m264 o c ⟩ (.lf 265 ⟨1,[I6,I6],[280],[.st 18],[],[],0,λc t=>m265 o c t.1 t.2.1⟩)) 277 ⟨1,[],[293],[.st 16],[],[I6,I6],254,λc _=>m277 o c ⟩ (.node (.lf 278 ⟨1,[],[293],[.st 16],[.st 9],[I6,I6],254,λc _=>m278 o c ⟩) 279 ⟨0,[I6,I6],[],[],[],[I6,I6],254,λc t=>m279 o c t.1 t.2.1⟩ (.lf 291 ⟨1,[I6],[280],[.st 18],[.st 9],[],0,λc t=>m291 o c t.1⟩))) 292 ⟨1,[.str],[280],[.st 18],[.bool],[],0,λc t=>m292 o c t.1⟩ (.node (.node (.lf 308 ⟨1,[],[293],[.st 16],[.st 9],[I6,I6],254,λc _=>m308 o c ⟩) 312 ⟨1,[.int .u8],[280],[.st 18],[.bool],[],0,λc t=>m312 o c t.1⟩ (.lf 313 ⟨1,[],[280],[.st 18],[.str],[],0,λc _=>m313 o c ⟩)) 314 ⟨1,[],[280],[.st 18],[.str],[],0,λc _=>m314 o c ⟩ (.node (.lf 324 ⟨1,[.str],[293],[.st 16],[.bool],[I6,I6],254,λc t=>m324 o c t.1⟩) 325 ⟨1,[],[293],[.st 16],[.st 9],[I6,I6],254,λc _=>m325 o c ⟩ (.lf 333 ⟨1,[],[293],[.st 16],[.str],[I6,I6],254,λc _=>m333 o c ⟩)))
noncomputable def tabL(o:Orc Sx):Tr (EntryL Sx):=.node (.node (.lf 80 ⟨sg80,λt=>m80 o t.1 t.2.1 t.2.2.1⟩) 124 ⟨sg124,λt=>m124 o t.1 t.2.1 t.2.2.1⟩ .leaf) 125 ⟨sg125,λt=>m125 o t.1 t.2.1 t.2.2.1⟩ (.node (.lf 168 ⟨sg168,λt=>m168 o t.1⟩) 172 ⟨sg172,λt=>m172 o t.1 t.2.1 t.2.2.1⟩ .leaf)
theorem zro(o:Orc Sx)(h:SoundO Tryz.prog un o):(tabN o).All (Entry.Ok Tryz.prog un):=⟨⟨⟨⟨⟨⟨⟨trivial,ok7 o h,trivial⟩,ok14 o h,trivial⟩,ok15 o h,⟨⟨trivial,ok16 o h,trivial⟩,ok17 o h,trivial⟩⟩,oD ⟨.lf 9 ⟨[],[],[]⟩,.lf 4 ⟨[(13,.fr I6)],[],[]⟩,[],[],[],[]⟩ Tryz.func18 h λ_=>by kernel_rfl,⟨⟨⟨trivial,ok19 o h,trivial⟩,oD ⟨.node (.lf 17 ⟨[(12,.fr I6),(13,.own I6 3)],[],[]⟩) 18 ⟨[(13,.own I6 3)],[],[]⟩ .leaf,.node (.lf 10 ⟨[(12,.fr I6),(13,.own I6 3)],[],[]⟩) 12 ⟨[(12,.fr I6),(13,.own I6 3),(53,.fr I6)],[],[]⟩ .leaf,[],[],[],[]⟩ Tryz.func28 h λ_=>by kernel_rfl,trivial⟩,hok29 o h,⟨⟨trivial,ok32 o h,trivial⟩,ok33 o h,trivial⟩⟩⟩,oD a0 Tryz.func40 h λ_=>by kernel_rfl,⟨⟨⟨⟨trivial,oD a0 Tryz.func54 h λ_=>by kernel_rfl,trivial⟩,oD a0 Tryz.func56 h λ_=>by kernel_rfl,trivial⟩,oD ⟨.lf 12 ⟨[(6,.own I6 3)],[],[]⟩,.lf 6 ⟨[(6,.own I6 3),(7,.pt I6 3)],[],[]⟩,[],[],[7],[]⟩ Tryz.func57 h λ_=>by kernel_rfl,⟨⟨trivial,oD ⟨.node (.lf 7 ⟨[(7,.wr I6 3)],[],[]⟩) 21 ⟨[(7,.wr I6 3)],[],[]⟩ .leaf,.node (.lf 3 ⟨[(7,.wr I6 3),(18,.fr I6)],[],[]⟩) 11 ⟨[(7,.wr I6 3),(9,.own I6 3)],[],[]⟩ (.lf 15 ⟨[(7,.wr I6 3),(9,.own I6 3),(47,.fr I6)],[],[]⟩),[],[],[41],[]⟩ Tryz.func58 h λ_=>by kernel_rfl,trivial⟩,oD ⟨.lf 7 ⟨[(5,.own .str 9)],[],[]⟩,.lf 3 ⟨[(5,.own .str 9),(10,.fr I6)],[],[]⟩,[],[],[],[]⟩ Tryz.func59 h λ_=>by kernel_rfl,trivial⟩⟩,ok60 o h,⟨⟨⟨trivial,oD ⟨.node (.lf 8 ⟨[(7,.wr .bool 4),(8,.own I6 3)],[],[]⟩) 16 ⟨[(7,.wr .bool 4)],[],[]⟩ .leaf,.node (.lf 7 ⟨[(7,.wr .bool 4),(8,.own I6 3),(9,.fr I6)],[],[]⟩) 10 ⟨[(7,.wr .bool 4),(8,.own I6 3),(40,.fr I6)],[],[]⟩ .leaf,[],[],[],[]⟩ Tryz.func61 h λ_=>by kernel_rfl,trivial⟩,oD ⟨.lf 7 ⟨[],[],[]⟩,.lf 2 ⟨[(10,.fr I6)],[],[]⟩,[],[],[],[]⟩ Tryz.func62 h λ_=>by kernel_rfl,trivial⟩,oD ⟨.lf 12 ⟨[],[],[]⟩,.lf 7 ⟨[(23,.fr I6)],[],[]⟩,[],[],[],[]⟩ Tryz.func63 h λ_=>by kernel_rfl,⟨⟨trivial,oD ⟨.lf 7 ⟨[(5,.own .str 9)],[],[]⟩,.lf 3 ⟨[(5,.own .str 9),(10,.fr I6)],[],[]⟩,[],[],[],[]⟩ Tryz.func64 h λ_=>by kernel_rfl,trivial⟩,oD ⟨.lf 8 ⟨[(3,.own I6 3)],[],[]⟩,.lf 3 ⟨[(3,.own I6 3),(8,.fr I6)],[],[]⟩,[],[],[],[]⟩ Tryz.func65 h λ_=>by kernel_rfl,trivial⟩⟩⟩⟩,oD a0 Tryz.func66 h λ_=>by kernel_rfl,⟨⟨⟨⟨⟨trivial,ok67 o h,trivial⟩,oD ⟨.node (.lf 7 ⟨[(5,.wr I6 3)],[],[]⟩) 11 ⟨[(5,.wr I6 3),(7,.own I6 3)],[],[]⟩ (.lf 19 ⟨[(5,.wr I6 3)],[],[]⟩),.node (.lf 3 ⟨[(5,.wr I6 3),(16,.fr I6)],[],[]⟩) 10 ⟨[(5,.wr I6 3),(7,.own I6 3),(8,.fr I6)],[],[]⟩ (.lf 13 ⟨[(5,.wr I6 3),(7,.own I6 3),(42,.fr I6)],[],[]⟩),[],[],[],[]⟩ Tryz.func71 h λ_=>by kernel_rfl,trivial⟩,oD a0 Tryz.func79 h λ_=>by kernel_rfl,⟨⟨trivial,oD a0 Tryz.func88 h λ_=>by kernel_rfl,trivial⟩,oD ⟨.leaf,.leaf,[],[],[],[(1,[⟨[],[],[],[]⟩,⟨[],[0],[],[]⟩,⟨[],[],[],[]⟩,⟨[],[1],[],[]⟩,⟨[],[],[],[]⟩,⟨[],[],[],[]⟩,⟨[],[0],[],[]⟩,⟨[],[],[],[]⟩,⟨[],[1],[],[]⟩,⟨[],[],[],[]⟩,⟨[],[],[],[]⟩,⟨[],[0],[],[]⟩,⟨[],[],[],[]⟩,⟨[],[1],[],[]⟩,⟨[],[],[],[]⟩,⟨[],[],[],[]⟩,⟨[],[2],[],[]⟩,⟨[],[],[],[]⟩])]⟩ Tryz.func100 h λ_=>by kernel_rfl,trivial⟩⟩,oD ⟨.node (.lf 16 ⟨[],[(1,[.fr (.mp .str .bool)])],[]⟩) 30 ⟨[],[],[]⟩ .leaf,.node (.lf 7 ⟨[(40,.fr I6)],[(1,[.fr (.mp .str .bool)])],[]⟩) 19 ⟨[(80,.fr I6)],[],[]⟩ .leaf,[],[],[],[]⟩ Tryz.func102 h λ_=>by kernel_rfl,⟨⟨⟨trivial,oD a0 Tryz.func109 h λ_=>by kernel_rfl,trivial⟩,oD a0 Tryz.func110 h λ_=>by kernel_rfl,trivial⟩,oD ⟨.lf 5 ⟨[],[],[]⟩,.lf 1 ⟨[(1,.fr I6)],[],[]⟩,[],[],[],[]⟩ Tryz.func116 h λ_=>by kernel_rfl,⟨⟨trivial,oD ⟨.node (.lf 23 ⟨[],[],[]⟩) 29 ⟨[],[],[]⟩ .leaf,.node (.lf 18 ⟨[(75,.own .str 9),(77,.fr I6)],[],[]⟩) 24 ⟨[(87,.fr I6)],[],[]⟩ .leaf,[],[],[],[]⟩ Tryz.func117 h λ_=>by kernel_rfl,trivial⟩,oD ⟨.node (.lf 12 ⟨[],[],[]⟩) 26 ⟨[],[],[]⟩ (.lf 34 ⟨[(9,.fr .bool)],[],[]⟩),.node (.lf 7 ⟨[(40,.fr I6)],[],[]⟩) 17 ⟨[(85,.fr I6)],[],[]⟩ (.lf 30 ⟨[(9,.fr .bool),(139,.fr I6)],[],[]⟩),[],[],[],[]⟩ Tryz.func120 h λ_=>by kernel_rfl,trivial⟩⟩⟩,oD ⟨.node (.lf 7 ⟨[],[(2,[.fr (.mp .str I6)])],[]⟩) 16 ⟨[],[(5,[.fr .str,.fr .str,.fr .str,.fr (.sl (.st 5)),.fr (.sl (.st 7)),.fr I6,.nst I6 65 3,.nst I6 65 3])],[]⟩ (.lf 21 ⟨[],[(5,[.fr .str,.fr .str,.fr .str,.fr (.sl (.st 5)),.fr (.sl (.st 7)),.fr I6,.nst I6 65 3,.nst I6 65 3])],[]⟩),.node (.lf 3 ⟨[(19,.fr I6)],[(2,[.fr (.mp .str I6)])],[]⟩) 10 ⟨[(45,.fr I6)],[(5,[.fr .str,.fr .str,.fr .str,.fr (.sl (.st 5)),.fr (.sl (.st 7)),.fr I6,.nst I6 65 3,.nst I6 65 3])],[]⟩ (.lf 17 ⟨[(87,.fr I6)],[(5,[.fr .str,.fr .str,.fr .str,.fr (.sl (.st 5)),.fr (.sl (.st 7)),.fr I6,.nst I6 65 3,.nst I6 65 3])],[]⟩),[],[],[38,40,70,71,73,74,78,79,81,82,83,84,99,100,105,106,108,109],[(8,[⟨[],[0],[],[]⟩,⟨[],[],[],[]⟩,⟨[],[],[],[]⟩,⟨[],[0],[],[]⟩,⟨[],[2],[],[]⟩,⟨[],[],[],[]⟩,⟨[],[],[],[]⟩,⟨[],[],[],[]⟩,⟨[],[],[],[]⟩,⟨[],[],[],[]⟩,⟨[],[],[],[]⟩,⟨[5],[],[],[]⟩]),(14,[⟨[],[],[],[]⟩,⟨[],[5],[],[]⟩,⟨[],[],[],[]⟩,⟨[],[],[],[]⟩,⟨[],[5],[],[]⟩,⟨[],[],[],[]⟩,⟨[],[],[],[]⟩,⟨[],[5],[],[]⟩,⟨[],[],[],[]⟩,⟨[6],[],[],[]⟩,⟨[6],[],[],[68]⟩,⟨[],[],[],[]⟩,⟨[],[],[],[]⟩,⟨[9,10],[],[9],[]⟩,⟨[],[],[],[]⟩,⟨[],[5],[],[]⟩,⟨[],[],[],[]⟩,⟨[7],[],[],[]⟩,⟨[7],[],[],[76]⟩,⟨[],[],[],[]⟩,⟨[],[],[],[]⟩,⟨[11,12],[],[11],[]⟩,⟨[6],[],[],[]⟩,⟨[6,9],[],[9],[62]⟩,⟨[7],[],[],[]⟩,⟨[7,11],[],[11],[65]⟩]),(19,[⟨[],[],[],[]⟩,⟨[],[5],[],[]⟩,⟨[],[],[],[]⟩,⟨[],[],[],[]⟩,⟨[],[5],[],[]⟩,⟨[],[],[],[]⟩,⟨[],[],[],[]⟩,⟨[],[5],[],[]⟩,⟨[],[],[],[]⟩,⟨[8],[],[],[]⟩,⟨[8],[],[],[97]⟩,⟨[10],[],[10],[]⟩,⟨[],[],[],[]⟩,⟨[],[5],[],[]⟩,⟨[],[],[],[]⟩,⟨[9],[],[],[]⟩,⟨[9],[],[],[103]⟩,⟨[12],[],[12],[]⟩,⟨[8],[],[],[]⟩,⟨[8,11],[],[11],[91]⟩,⟨[9],[],[],[]⟩,⟨[9,13],[],[13],[94]⟩])]⟩ Tryz.func122 h λ_=>by kernel_rfl,⟨⟨⟨⟨trivial,oD ⟨.lf 7 ⟨[],[],[]⟩,.lf 2 ⟨[(6,.fr I6)],[],[]⟩,[],[],[],[]⟩ Tryz.func123 h λ_=>by kernel_rfl,trivial⟩,oD a0 Tryz.func134 h λ_=>by kernel_rfl,trivial⟩,oD a0 Tryz.func138 h λ_=>by kernel_rfl,⟨⟨trivial,oD ⟨.lf 8 ⟨[],[],[]⟩,.lf 3 ⟨[(8,.fr I6)],[],[]⟩,[],[],[],[]⟩ Tryz.func142 h λ_=>by kernel_rfl,trivial⟩,oD ⟨.lf 6 ⟨[],[],[]⟩,.lf 2 ⟨[(3,.fr I6)],[],[]⟩,[],[],[],[]⟩ Tryz.func143 h λ_=>by kernel_rfl,trivial⟩⟩,oD ⟨.node (.lf 15 ⟨[],[],[]⟩) 18 ⟨[],[],[]⟩ (.lf 28 ⟨[],[],[]⟩),.node (.lf 11 ⟨[(7,.fr I6)],[],[]⟩) 21 ⟨[(68,.fr I6)],[],[]⟩ .leaf,[],[],[],[]⟩ Tryz.func144 h λ_=>by kernel_rfl,⟨⟨⟨trivial,oD a0 Tryz.func147 h λ_=>by kernel_rfl,trivial⟩,oD a0 Tryz.func149 h λ_=>by kernel_rfl,trivial⟩,oD ⟨.node (.lf 7 ⟨[],[],[]⟩) 13 ⟨[],[],[]⟩ .leaf,.node (.lf 2 ⟨[(15,.own .str 9),(17,.fr I6)],[],[]⟩) 8 ⟨[(28,.fr I6)],[],[]⟩ .leaf,[],[],[],[]⟩ Tryz.func150 h λ_=>by kernel_rfl,⟨trivial,oD ⟨.lf 7 ⟨[],[],[]⟩,.lf 2 ⟨[(9,.fr I6)],[],[]⟩,[],[],[],[]⟩ Tryz.func151 h λ_=>by kernel_rfl,trivial⟩⟩⟩⟩⟩,oD a0 Tryz.func152 h λ_=>by kernel_rfl,⟨⟨⟨⟨⟨⟨trivial,hok153 o h,trivial⟩,oD ⟨.lf 11 ⟨[],[],[]⟩,.lf 2 ⟨[(7,.fr I6)],[],[]⟩,[],[],[],[]⟩ Tryz.func154 h λ_=>by kernel_rfl,trivial⟩,oD ⟨.lf 7 ⟨[],[],[]⟩,.lf 2 ⟨[(6,.fr I6)],[],[]⟩,[],[],[],[]⟩ Tryz.func155 h λ_=>by kernel_rfl,⟨⟨trivial,oD a0 Tryz.func160 h λ_=>by kernel_rfl,trivial⟩,oD ⟨.lf 7 ⟨[],[],[]⟩,.lf 2 ⟨[(7,.fr I6)],[],[]⟩,[],[],[],[]⟩ Tryz.func161 h λ_=>by kernel_rfl,trivial⟩⟩,oD ⟨.lf 8 ⟨[],[],[]⟩,.lf 3 ⟨[(12,.fr I6)],[],[]⟩,[],[],[],[]⟩ Tryz.func162 h λ_=>by kernel_rfl,⟨⟨⟨trivial,hok163 o h,trivial⟩,oD ⟨.lf 8 ⟨[],[],[]⟩,.lf 2 ⟨[(3,.fr I6)],[],[]⟩,[],[],[],[]⟩ Tryz.func164 h λ_=>by kernel_rfl,trivial⟩,oD ⟨.lf 6 ⟨[],[],[]⟩,.lf 2 ⟨[(3,.fr I6)],[],[]⟩,[],[],[],[]⟩ Tryz.func165 h λ_=>by kernel_rfl,⟨⟨trivial,oD ⟨.lf 7 ⟨[],[],[]⟩,.lf 2 ⟨[(8,.fr I6)],[],[]⟩,[],[],[],[]⟩ Tryz.func169 h λ_=>by kernel_rfl,trivial⟩,oD ⟨.node (.lf 9 ⟨[(5,.fr I6)],[],[]⟩) 16 ⟨[],[],[]⟩ .leaf,.lf 4 ⟨[(11,.fr I6)],[],[]⟩,[],[],[],[]⟩ Tryz.func170 h λ_=>by kernel_rfl,trivial⟩⟩⟩,oD ⟨.leaf,.leaf,[],[],[],[(5,[⟨[],[],[],[]⟩,⟨[],[],[],[]⟩,⟨[],[2],[],[]⟩,⟨[],[],[],[]⟩,⟨[],[2],[],[]⟩,⟨[0],[],[],[]⟩,⟨[],[],[],[]⟩,⟨[],[],[],[]⟩])]⟩ Tryz.func171 h λ_=>by kernel_rfl,⟨⟨⟨⟨trivial,oD a0 Tryz.func191 h λ_=>by kernel_rfl,trivial⟩,oD ⟨.lf 6 ⟨[],[],[]⟩,.lf 2 ⟨[(7,.fr I6)],[],[]⟩,[],[],[],[]⟩ Tryz.func211 h λ_=>by kernel_rfl,trivial⟩,oD ⟨.node (.lf 12 ⟨[(5,.fr I6)],[],[]⟩) 17 ⟨[],[],[]⟩ .leaf,.lf 4 ⟨[(11,.fr I6)],[],[]⟩,[],[],[],[]⟩ Tryz.func212 h λ_=>by kernel_rfl,⟨⟨trivial,oD ⟨.lf 8 ⟨[],[(1,[.fr .str,.fr I6,.fr I6,.fr I6])],[]⟩,.leaf,[],[],[],[(9,[⟨[],[],[],[]⟩,⟨[],[],[],[]⟩,⟨[],[],[],[]⟩,⟨[],[],[],[]⟩,⟨[],[1],[],[]⟩,⟨[],[],[],[]⟩,⟨[],[],[],[]⟩,⟨[],[],[],[]⟩,⟨[],[1],[],[]⟩,⟨[0],[],[],[]⟩,⟨[],[],[],[]⟩,⟨[],[],[],[]⟩])]⟩ Tryz.func213 h λ_=>by kernel_rfl,trivial⟩,oD ⟨.lf 7 ⟨[],[],[]⟩,.lf 2 ⟨[(6,.fr I6)],[],[]⟩,[],[],[],[]⟩ Tryz.func214 h λ_=>by kernel_rfl,trivial⟩⟩,oD a0 Tryz.func215 h λ_=>by kernel_rfl,⟨⟨⟨trivial,hok216 o h,trivial⟩,oD ⟨.lf 7 ⟨[],[],[]⟩,.lf 2 ⟨[(6,.fr I6)],[],[]⟩,[],[],[],[]⟩ Tryz.func218 h λ_=>by kernel_rfl,trivial⟩,hok219 o h,⟨trivial,oD ⟨.lf 7 ⟨[],[],[]⟩,.lf 2 ⟨[(7,.fr I6)],[],[]⟩,[],[],[],[]⟩ Tryz.func225 h λ_=>by kernel_rfl,trivial⟩⟩⟩⟩,oD a0 Tryz.func226 h λ_=>by kernel_rfl,⟨⟨⟨⟨⟨trivial,oD a0 Tryz.func227 h λ_=>by kernel_rfl,trivial⟩,oD ⟨.lf 7 ⟨[],[],[]⟩,.lf 2 ⟨[(8,.fr I6)],[],[]⟩,[],[],[],[]⟩ Tryz.func233 h λ_=>by kernel_rfl,trivial⟩,hok234 o h,⟨⟨trivial,oD a0 Tryz.func235 h λ_=>by kernel_rfl,trivial⟩,oD ⟨.lf 6 ⟨[],[],[]⟩,.lf 2 ⟨[(5,.fr I6)],[],[]⟩,[],[],[],[]⟩ Tryz.func262 h λ_=>by kernel_rfl,trivial⟩⟩,oD a0 Tryz.func266 h λ_=>by kernel_rfl,⟨⟨⟨trivial,oD a0 Tryz.func269 h λ_=>by kernel_rfl,trivial⟩,oD a0 Tryz.func272 h λ_=>by kernel_rfl,trivial⟩,oD a0 Tryz.func275 h λ_=>by kernel_rfl,⟨⟨trivial,oD ⟨.lf 10 ⟨[(4,.fr I6),(5,.fr I6)],[],[]⟩,.lf 5 ⟨[(4,.fr I6),(5,.fr I6),(18,.fr I6)],[],[]⟩,[],[],[],[]⟩ Tryz.func280 h λ_=>by kernel_rfl,trivial⟩,oD ⟨.lf 18 ⟨[],[],[]⟩,.lf 12 ⟨[(59,.fr I6)],[],[]⟩,[],[],[],[]⟩ Tryz.func281 h λ_=>by kernel_rfl,trivial⟩⟩⟩,oD ⟨.lf 6 ⟨[(5,.fr I6)],[],[]⟩,.lf 3 ⟨[(5,.fr I6),(6,.fr I6)],[],[]⟩,[],[],[],[]⟩ Tryz.func293 h λ_=>by kernel_rfl,⟨⟨⟨⟨trivial,oD ⟨.lf 6 ⟨[(3,.fr I6)],[],[]⟩,.lf 3 ⟨[(3,.fr I6),(4,.fr I6)],[],[]⟩,[],[],[],[]⟩ Tryz.func294 h λ_=>by kernel_rfl,trivial⟩,oD ⟨.lf 10 ⟨[],[],[]⟩,.lf 5 ⟨[(4,.fr I6)],[],[]⟩,[],[],[],[]⟩ Tryz.func295 h λ_=>by kernel_rfl,trivial⟩,oD a0 Tryz.func303 h λ_=>by kernel_rfl,⟨⟨trivial,oD a0 Tryz.func304 h λ_=>by kernel_rfl,trivial⟩,hok305 o h,trivial⟩⟩,oD ⟨.lf 9 ⟨[],[],[]⟩,.lf 4 ⟨[(27,.fr I6)],[],[]⟩,[],[],[],[]⟩ Tryz.func306 h λ_=>by kernel_rfl,⟨⟨⟨trivial,oD ⟨.node (.lf 4 ⟨[(4,.fr .bool)],[],[]⟩) 7 ⟨[(7,.fr .bool)],[],[]⟩ .leaf,.leaf,[],[],[],[]⟩ Tryz.func315 h λ_=>by kernel_rfl,trivial⟩,oD a0 Tryz.func316 h λ_=>by kernel_rfl,trivial⟩,oD ⟨.lf 8 ⟨[],[],[]⟩,.lf 4 ⟨[(3,.fr I6)],[],[]⟩,[],[],[],[]⟩ Tryz.func326 h λ_=>by kernel_rfl,⟨trivial,oD a0 Tryz.func327 h λ_=>by kernel_rfl,trivial⟩⟩⟩⟩⟩⟩
theorem zrq(o:Orc Sx)(h:SoundO Tryz.prog un o):(tabE o).All (EntryE.Ok Tryz.prog un):=⟨⟨⟨⟨trivial,oE ⟨.node (.lf 6 ⟨[(7,.own (.st 9) 200)],[(0,[.fr .str,.fr I6,.fr I6,.fr I6])],[]⟩) 9 ⟨[(7,.own (.st 9) 200),(8,.fr .str)],[],[]⟩ (.lf 10 ⟨[(7,.own (.st 9) 200)],[(0,[.fr .str,.fr I6,.fr I6,.fr I6])],[]⟩),.lf 2 ⟨[(7,.own (.st 9) 200)],[(0,[.fr .str,.fr I6,.fr I6,.fr I6])],[]⟩,[],[9],[],[]⟩ Tryz.func263 h λ_ _=>by kernel_rfl,trivial⟩,oE ⟨.leaf,.lf 0 ⟨[],[(0,[.fr .str,.fr I6,.fr I6,.fr I6])],[]⟩,[],[],[],[]⟩ Tryz.func264 h λ_ _=>by kernel_rfl,⟨trivial,oE a0 Tryz.func265 h λ_ _=>by kernel_rfl,trivial⟩⟩,oE ⟨.node (.lf 3 ⟨[(2,.fr I6)],[],[]⟩) 9 ⟨[(4,.fr I6)],[],[]⟩ (.lf 24 ⟨[(4,.fr I6)],[(1,[.fr I6,.fr .str,.fr I6,.fr .bool])],[]⟩),.node (.lf 1 ⟨[(2,.fr I6)],[],[]⟩) 7 ⟨[(4,.fr I6)],[],[]⟩ .leaf,[],[],[],[(19,[⟨[],[],[],[]⟩,⟨[],[],[],[]⟩,⟨[],[],[],[]⟩,⟨[],[0],[],[]⟩,⟨[],[],[],[]⟩,⟨[],[],[],[]⟩,⟨[],[],[],[]⟩,⟨[],[],[],[]⟩,⟨[],[],[],[]⟩,⟨[],[],[],[]⟩,⟨[1],[],[],[]⟩,⟨[],[],[],[]⟩,⟨[1],[],[],[]⟩])]⟩ Tryz.func277 h λ_ _=>by kernel_rfl,⟨⟨trivial,oE a0 Tryz.func278 h λ_ _=>by kernel_rfl,trivial⟩,oE a0 Tryz.func279 h λ_ _=>by kernel_rfl,⟨trivial,oE ⟨.lf 15 ⟨[],[(0,[.fr .str,.fr I6,.fr I6,.fr I6]),(2,[.fr I6,.fr .str,.fr .bool,.fr .str,.fr (.sl (.st 9))])],[]⟩,.leaf,[],[8,15],[],[]⟩ Tryz.func291 h λ_ _=>by kernel_rfl,trivial⟩⟩⟩,oE a0 Tryz.func292 h λ_ _=>by kernel_rfl,⟨⟨⟨trivial,oE a0 Tryz.func308 h λ_ _=>by kernel_rfl,trivial⟩,oE a0 Tryz.func312 h λ_ _=>by kernel_rfl,⟨trivial,oE a0 Tryz.func313 h λ_ _=>by kernel_rfl,trivial⟩⟩,oE ⟨.lf 5 ⟨[(3,.fr I6)],[],[]⟩,.lf 3 ⟨[(3,.fr I6)],[],[]⟩,[],[],[],[]⟩ Tryz.func314 h λ_ _=>by kernel_rfl,⟨⟨trivial,oE a0 Tryz.func324 h λ_ _=>by kernel_rfl,trivial⟩,oE ⟨.node (.lf 5 ⟨[],[(0,[.fr .str,.fr I6,.fr I6,.fr .str,.fr I6,.fr .bool,.fr I6])],[]⟩) 9 ⟨[],[],[]⟩ (.lf 16 ⟨[],[(0,[.fr .str,.fr I6,.fr I6,.fr .str,.fr I6,.fr .bool,.fr I6]),(2,[.fr I6,.fr .str,.fr .bool,.fr .str,.fr (.sl (.st 9))])],[]⟩),.leaf,[],[],[],[]⟩ Tryz.func325 h λ_ _=>by kernel_rfl,⟨trivial,oE ⟨.lf 3 ⟨[],[],[]⟩,.leaf,[],[],[],[]⟩ Tryz.func333 h λ_ _=>by kernel_rfl,trivial⟩⟩⟩⟩
theorem zrp(o:Orc Sx)(h:SoundO Tryz.prog un o):(tabL o).All (EntryL.Ok Tryz.prog un):=⟨⟨⟨trivial,oL ⟨.lf 15 ⟨[],[(0,[.fr (.mp .str .bool)])],[]⟩,.lf 6 ⟨[(38,.fr I6)],[(0,[.fr (.mp .str .bool)])],[]⟩,[],[],[],[]⟩ Tryz.func80 h λ_=>by kernel_rfl,trivial⟩,oL ⟨.node (.lf 15 ⟨[],[],[]⟩) 19 ⟨[],[],[]⟩ .leaf,.lf 10 ⟨[(30,.fr I6)],[],[]⟩,[],[],[],[]⟩ Tryz.func124 h λ_=>by kernel_rfl,trivial⟩,oL ⟨.lf 13 ⟨[],[],[]⟩,.lf 2 ⟨[(9,.fr I6)],[],[]⟩,[],[],[],[]⟩ Tryz.func125 h λ_=>by kernel_rfl,⟨⟨trivial,oL ⟨.node (.lf 5 ⟨[(0,.wr I6 3),(3,.fr I6)],[],[]⟩) 14 ⟨[(0,.wr I6 3),(3,.fr I6)],[],[]⟩ (.lf 16 ⟨[(0,.wr I6 3)],[],[]⟩),.node (.lf 4 ⟨[(0,.wr I6 3),(3,.fr I6)],[],[]⟩) 9 ⟨[(0,.wr I6 3),(3,.fr I6),(5,.fr I6)],[],[(4,0,I6)]⟩ .leaf,[],[],[],[]⟩ Tryz.func168 h λ_=>by kernel_rfl,trivial⟩,oL ⟨.lf 11 ⟨[],[],[]⟩,.lf 4 ⟨[(12,.fr I6)],[],[]⟩,[],[],[],[]⟩ Tryz.func172 h λ_=>by kernel_rfl,trivial⟩⟩
noncomputable def zah:Nat->Orc Sx|0=>⟨λ_ _ _=>none,λ_ _ _ _ _ _ _ _=>none,λ_ _ _=>none⟩|n+1=>zsh (tabN (zah n)) (tabE (zah n)) (tabL (zah n))
theorem zdl:∀n,SoundO Tryz.prog un (zah n)|0=>⟨λ_ _ _ _ h=>(by cases h),λ_ _ _ _ _ _ _ _ _ h=>(by cases h),λ_ _ _ _ h=>by cases h⟩|n+1=>znP (zro _ (zdl n)) (zrq _ (zdl n)) (zrp _ (zdl n))
end Pe.Tryz
end
section
set_option maxRecDepth 100000
namespace Pe.Tryz
open Go Go.Proofs Pe
theorem q14(n:Nat)(b:Gt.Bill)(to:By)(scope:Int): @Eq (Option (List By×Int×Unit)) ((zah (n+1)).d 14 [.st 3 b,.str to,.int .i64 scope] [LS,I6]) (m14 (zah n) b to scope):=by kernel_rfl
theorem q15(n:Nat)(b:Gt.Bill)(to:By)(scope:Int): @Eq (Option (List By×Int×Unit)) ((zah (n+1)).d 15 [.st 3 b,.str to,.int .i64 scope] [LS,I6]) (m15 (zah n) b to scope):=by kernel_rfl
theorem q16(n:Nat)(b:Gt.Bill)(ref:By)(scope:Int): @Eq (Option (List By×Int×Unit)) ((zah (n+1)).d 16 [.st 3 b,.str ref,.int .i64 scope] [LS,I6]) (m16 (zah n) b ref scope):=by kernel_rfl
theorem q17(n:Nat)(b:Gt.Bill)(ref:By)(scope:Int): @Eq (Option (List By×Int×Unit)) ((zah (n+1)).d 17 [.st 3 b,.str ref,.int .i64 scope] [LS,I6]) (m17 (zah n) b ref scope):=by kernel_rfl
theorem q18(n:Nat)(s1':(List By))(s2':(List By)): @Eq (Option (Bool×Unit)) ((zah (n+1)).d 18 [.sl .str s1',.sl .str s2'] [.bool]) (m18 (zah n) s1' s2'):=by kernel_rfl
theorem q19(n:Nat)  : @Eq (Option (Bool×Unit)) ((zah (n+1)).d 19 [] [.bool]) (m19 (zah n) ):=by kernel_rfl
theorem q28(n:Nat)(b:Gt.Bill)(to:By)(scope:Int): @Eq (Option (List By×Bool×Int×Unit)) ((zah (n+1)).d 28 [.st 3 b,.str to,.int .i64 scope] [LS,.bool,I6]) (m28 (zah n) b to scope):=by kernel_rfl
theorem q32(n:Nat)(s:(List By))(v:By): @Eq (Option (Bool×Unit)) ((zah (n+1)).d 32 [.sl .str s,.str v] [.bool]) (m32 (zah n) s v):=by kernel_rfl
theorem q33(n:Nat)(s:(List By))(v:By): @Eq (Option (Int×Unit)) ((zah (n+1)).d 33 [.sl .str s,.str v] [I6]) (m33 (zah n) s v):=by kernel_rfl
theorem q40(n:Nat)(b:Gt.Bill): @Eq (Option (Int×Unit)) ((zah (n+1)).d 40 [.st 3 b] [I6]) (m40 (zah n) b):=by kernel_rfl
theorem q54(n:Nat)(b:Gt.Bill): @Eq (Option (Int×Unit)) ((zah (n+1)).d 54 [.st 3 b] [I6]) (m54 (zah n) b):=by kernel_rfl
theorem q56(n:Nat)(b:Gt.Bill)(ref:By)(scope:Int): @Eq (Option (Gt.Gf×Int×Int×Unit)) ((zah (n+1)).d 56 [.st 3 b,.str ref,.int .i64 scope] [.st 14,I6,I6]) (m56 (zah n) b ref scope):=by kernel_rfl
theorem q57(n:Nat)(g:Gt.Gf)(to:Int): @Eq (Option (List Int×Unit)) ((zah (n+1)).d 57 [.st 14 g,.int .i64 to] [LI]) (m57 (zah n) g to):=by kernel_rfl
theorem q58(n:Nat)(next:(List (List Int)))(from':Int)(zaG:Int): @Eq (Option (List Int×Unit)) ((zah (n+1)).d 58 [.sl LI next,.int .i64 from',.int .i64 zaG] [LI]) (m58 (zah n) next from' zaG):=by kernel_rfl
theorem q59(n:Nat)(g:Gt.Gf)(l:(List Int)): @Eq (Option (List By×Unit)) ((zah (n+1)).d 59 [.st 14 g,.sl I6 l] [LS]) (m59 (zah n) g l):=by kernel_rfl
theorem q60(n:Nat)(b:Gt.Bill)(scope:Int): @Eq (Option (Gt.Wb×Unit)) ((zah (n+1)).d 60 [.st 3 b,.int .i64 scope] [.st 19]) (m60 (zah n) b scope):=by kernel_rfl
theorem q61(n:Nat)(w:Gt.Wb)(from':Int)(zaG:Int): @Eq (Option (List Bool×Unit)) ((zah (n+1)).d 61 [.st 19 w,.int .i64 from',.int .i64 zaG] [.sl .bool]) (m61 (zah n) w from' zaG):=by kernel_rfl
theorem q62(n:Nat)(b:Gt.Bill)(ref:By): @Eq (Option (Int×Unit)) ((zah (n+1)).d 62 [.st 3 b,.str ref] [I6]) (m62 (zah n) b ref):=by kernel_rfl
theorem q63(n:Nat)(b:Gt.Bill)(scope:Int)(refs:(List By)): @Eq (Option (Int×Unit)) ((zah (n+1)).d 63 [.st 3 b,.int .i64 scope,.sl .str refs] [I6]) (m63 (zah n) b scope refs):=by kernel_rfl
theorem q64(n:Nat)(w:Gt.Wb)(l:(List Int)): @Eq (Option (List By×Unit)) ((zah (n+1)).d 64 [.st 19 w,.sl I6 l] [LS]) (m64 (zah n) w l):=by kernel_rfl
theorem q65(n:Nat)(l:(List Bool)): @Eq (Option (List Int×Unit)) ((zah (n+1)).d 65 [.sl .bool l] [LI]) (m65 (zah n) l):=by kernel_rfl
theorem q66(n:Nat)(s:By): @Eq (Option (Gt.Component×Unit)) ((zah (n+1)).d 66 [.str s] [.st 5]) (m66 (zah n) s):=by kernel_rfl
theorem q67(n:Nat)(b:Gt.Bill)(ref:By): @Eq (Option (Int×Bool×Unit)) ((zah (n+1)).d 67 [.st 3 b,.str ref] [I6,.bool]) (m67 (zah n) b ref):=by kernel_rfl
theorem q71(n:Nat)(to:(List (List Int)))(from':Int): @Eq (Option (List Int×Unit)) ((zah (n+1)).d 71 [.sl LI to,.int .i64 from'] [LI]) (m71 (zah n) to from'):=by kernel_rfl
theorem q79(n:Nat)(b:Gt.Bill)(scope:Int): @Eq (Option (Gt.Gf×Int×Unit)) ((zah (n+1)).d 79 [.st 3 b,.int .i64 scope] [.st 14,I6]) (m79 (zah n) b scope):=by kernel_rfl
theorem q80(n:Nat)(b0_0:List (By×(Bool)))(k_0:Bool)(b:Gt.Bill): @Eq (Option ((List (By×(Bool))×Int×Unit)⊕(Unit))) ((zah (n+1)).l 80 sg80 ((b0_0,k_0,b,()):List (By×(Bool))×Bool×Gt.Bill×Unit)) (m80 (zah n) b0_0 k_0 b):=by kernel_rfl
theorem q88(n:Nat)(a:Gt.Edge)(b:Gt.Edge): @Eq (Option (Int×Unit)) ((zah (n+1)).d 88 [.st 7 a,.st 7 b] [I6]) (m88 (zah n) a b):=by kernel_rfl
theorem q100(n:Nat)(a:Gt.Edge)(b:Gt.Edge): @Eq (Option (Int×Unit)) ((zah (n+1)).d 100 [.st 7 a,.st 7 b] [I6]) (m100 (zah n) a b):=by kernel_rfl
theorem q102(n:Nat)(b:Gt.Bill)(order:Bool): @Eq (Option (Int×Unit)) ((zah (n+1)).d 102 [.st 3 b,.bool order] [I6]) (m102 (zah n) b order):=by kernel_rfl
theorem q109(n:Nat)(c:Gt.Component)(s:By): @Eq (Option (Int×Unit)) ((zah (n+1)).d 109 [.st 5 c,.str s] [I6]) (m109 (zah n) c s):=by kernel_rfl
theorem q110(n:Nat)(x:By)(y:By): @Eq (Option (Int×Unit)) ((zah (n+1)).d 110 [.str x,.str y] [I6]) (m110 (zah n) x y):=by kernel_rfl
theorem q116(n:Nat)(l:(List Gt.Bom_beginning))(at':Int)(i:Int): @Eq (Option (Bool×Unit)) ((zah (n+1)).d 116 [.sl (.st 12) l,.int .i64 at',.int .i64 i] [.bool]) (m116 (zah n) l at' i):=by kernel_rfl
theorem q117(n:Nat)(p:Gt.Purl): @Eq (Option (Int×Unit)) ((zah (n+1)).d 117 [.st 11 p] [I6]) (m117 (zah n) p):=by kernel_rfl
theorem q120(n:Nat)(p:Gt.Purl): @Eq (Option (Int×Unit)) ((zah (n+1)).d 120 [.st 11 p] [I6]) (m120 (zah n) p):=by kernel_rfl
theorem q122(n:Nat)(b:Gt.Bill)(scope:Int): @Eq (Option (Gt.Gf×Unit)) ((zah (n+1)).d 122 [.st 3 b,.int .i64 scope] [.st 14]) (m122 (zah n) b scope):=by kernel_rfl
theorem q123(n:Nat)(s:By): @Eq (Option (Bool×Unit)) ((zah (n+1)).d 123 [.str s] [.bool]) (m123 (zah n) s):=by kernel_rfl
theorem q124(n:Nat)(b0_0:List (By×(Bool)))(k_0:Bool)(c:Gt.Component): @Eq (Option ((List (By×(Bool))×Int×Unit)⊕(Unit))) ((zah (n+1)).l 124 sg124 ((b0_0,k_0,c,()):List (By×(Bool))×Bool×Gt.Component×Unit)) (m124 (zah n) b0_0 k_0 c):=by kernel_rfl
theorem q125(n:Nat)(b0_0:List (By×(Bool)))(k_0:Bool)(l:List Gt.Edge): @Eq (Option ((List (By×(Bool))×Int×Unit)⊕(Unit))) ((zah (n+1)).l 125 sg125 ((b0_0,k_0,l,()):List (By×(Bool))×Bool×List Gt.Edge×Unit)) (m125 (zah n) b0_0 k_0 l):=by kernel_rfl
theorem q134(n:Nat)(a:By)(b:By): @Eq (Option (Int×Unit)) ((zah (n+1)).d 134 [.str a,.str b] [I6]) (m134 (zah n) a b):=by kernel_rfl
theorem q138(n:Nat)(x:Int)(y:Int): @Eq (Option (Int×Unit)) ((zah (n+1)).d 138 [.int .i64 x,.int .i64 y] [I6]) (m138 (zah n) x y):=by kernel_rfl
theorem q142(n:Nat)(vals:(List Int)): @Eq (Option (Int×Unit)) ((zah (n+1)).d 142 [.sl I6 vals] [I6]) (m142 (zah n) vals):=by kernel_rfl
theorem q143(n:Nat)(s:By): @Eq (Option (Bool×Unit)) ((zah (n+1)).d 143 [.str s] [.bool]) (m143 (zah n) s):=by kernel_rfl
theorem q144(n:Nat)(c:Gt.Component)(order:Bool): @Eq (Option (Int×Unit)) ((zah (n+1)).d 144 [.st 5 c,.bool order] [I6]) (m144 (zah n) c order):=by kernel_rfl
theorem q147(n:Nat)(x:By): @Eq (Option (Bool×Unit)) ((zah (n+1)).d 147 [.str x] [.bool]) (m147 (zah n) x):=by kernel_rfl
theorem q149(n:Nat)(kind:By): @Eq (Option (Gt.KindRule×Int×Unit)) ((zah (n+1)).d 149 [.str kind] [.st 8,I6]) (m149 (zah n) kind):=by kernel_rfl
theorem q150(n:Nat)(p:Gt.Purl): @Eq (Option (Bool×Unit)) ((zah (n+1)).d 150 [.st 11 p] [.bool]) (m150 (zah n) p):=by kernel_rfl
theorem q151(n:Nat)(l:(List By))(dots:Bool): @Eq (Option (Bool×Unit)) ((zah (n+1)).d 151 [.sl .str l,.bool dots] [.bool]) (m151 (zah n) l dots):=by kernel_rfl
theorem q152(n:Nat)(s:By): @Eq (Option (List By×Unit)) ((zah (n+1)).d 152 [.str s] [LS]) (m152 (zah n) s):=by kernel_rfl
theorem q154(n:Nat)(l:(List Gt.Pair)): @Eq (Option (Int×Unit)) ((zah (n+1)).d 154 [.sl (.st 10) l] [I6]) (m154 (zah n) l):=by kernel_rfl
theorem q155(n:Nat)(s:By): @Eq (Option (Bool×Unit)) ((zah (n+1)).d 155 [.str s] [.bool]) (m155 (zah n) s):=by kernel_rfl
theorem q160(n:Nat)(kind:By): @Eq (Option (Gt.KindRule×Int×Unit)) ((zah (n+1)).d 160 [.str kind] [.st 8,I6]) (m160 (zah n) kind):=by kernel_rfl
theorem q161(n:Nat)(l:(List By)): @Eq (Option (Bool×Unit)) ((zah (n+1)).d 161 [.sl .str l] [.bool]) (m161 (zah n) l):=by kernel_rfl
theorem q162(n:Nat)(s:By)(dots:Bool): @Eq (Option (Bool×Unit)) ((zah (n+1)).d 162 [.str s,.bool dots] [.bool]) (m162 (zah n) s dots):=by kernel_rfl
theorem q164(n:Nat)(s:By): @Eq (Option (Bool×Unit)) ((zah (n+1)).d 164 [.str s] [.bool]) (m164 (zah n) s):=by kernel_rfl
theorem q165(n:Nat)(s:By): @Eq (Option (Bool×Unit)) ((zah (n+1)).d 165 [.str s] [.bool]) (m165 (zah n) s):=by kernel_rfl
theorem q168(n:Nat)(s:List Int): @Eq (Option ((List Int×Unit)⊕(Unit))) ((zah (n+1)).l 168 sg168 ((s,()):List Int×Unit)) (m168 (zah n) s):=by kernel_rfl
theorem q169(n:Nat)(s:By)(most:Int): @Eq (Option (Bool×Unit)) ((zah (n+1)).d 169 [.str s,.int .i64 most] [.bool]) (m169 (zah n) s most):=by kernel_rfl
theorem q170(n:Nat)(l:(List Gt.Digest)): @Eq (Option (Int×Unit)) ((zah (n+1)).d 170 [.sl (.st 6) l] [I6]) (m170 (zah n) l):=by kernel_rfl
theorem q171(n:Nat)(s:By): @Eq (Option (LicSpec.Ex×Int×Int×Unit)) ((zah (n+1)).d 171 [.str s] [.st 9,I6,I6]) (m171 (zah n) s):=by kernel_rfl
theorem q172(n:Nat)(b0_0:List (By×(Bool)))(k_0:Bool)(l:List By): @Eq (Option ((List (By×(Bool))×Int×Unit)⊕(Unit))) ((zah (n+1)).l 172 sg172 ((b0_0,k_0,l,()):List (By×(Bool))×Bool×List By×Unit)) (m172 (zah n) b0_0 k_0 l):=by kernel_rfl
theorem q191(n:Nat)(x:Int): @Eq (Option (Bool×Unit)) ((zah (n+1)).d 191 [.int .i64 x] [.bool]) (m191 (zah n) x):=by kernel_rfl
theorem q211(n:Nat)(s:By)(low:Int)(most:Int): @Eq (Option (Bool×Unit)) ((zah (n+1)).d 211 [.str s,.int .i64 low,.int .i64 most] [.bool]) (m211 (zah n) s low most):=by kernel_rfl
theorem q212(n:Nat)(l:(List Gt.Digest)): @Eq (Option (Int×Unit)) ((zah (n+1)).d 212 [.sl (.st 6) l] [I6]) (m212 (zah n) l):=by kernel_rfl
theorem q213(n:Nat)(s:By): @Eq (Option (LicSpec.Ex×Int×Int×Unit)) ((zah (n+1)).d 213 [.str s] [.st 9,I6,I6]) (m213 (zah n) s):=by kernel_rfl
theorem q214(n:Nat)(kind:By): @Eq (Option (Int×Unit)) ((zah (n+1)).d 214 [.str kind] [I6]) (m214 (zah n) kind):=by kernel_rfl
theorem q215(n:Nat)  : @Eq (Option (Gt.A5_api_KindRule×Unit)) ((zah (n+1)).d 215 [] [.st 2]) (m215 (zah n) ):=by kernel_rfl
theorem q218(n:Nat)(s:By): @Eq (Option (Bool×Unit)) ((zah (n+1)).d 218 [.str s] [.bool]) (m218 (zah n) s):=by kernel_rfl
theorem q225(n:Nat)(kind:By): @Eq (Option (Int×Unit)) ((zah (n+1)).d 225 [.str kind] [I6]) (m225 (zah n) kind):=by kernel_rfl
theorem q226(n:Nat)  : @Eq (Option (List Gt.KindRule×Unit)) ((zah (n+1)).d 226 [] [.sl (.st 8)]) (m226 (zah n) ):=by kernel_rfl
theorem q227(n:Nat)(s:By): @Eq (Option (List By×Unit)) ((zah (n+1)).d 227 [.str s] [LS]) (m227 (zah n) s):=by kernel_rfl
theorem q233(nD:Nat)(s:By)(n:Int): @Eq (Option (Bool×Unit)) ((zah (nD+1)).d 233 [.str s,.int .i64 n] [.bool]) (m233 (zah nD) s n):=by kernel_rfl
theorem q235(n:Nat)(e:LicSpec.Ex): @Eq (Option (Int×Unit)) ((zah (n+1)).d 235 [.st 9 e] [I6]) (m235 (zah n) e):=by kernel_rfl
theorem q262(nD:Nat)(s:By)(n:Int): @Eq (Option (Bool×Unit)) ((zah (nD+1)).d 262 [.str s,.int .i64 n] [.bool]) (m262 (zah nD) s n):=by kernel_rfl
theorem q263(n:Nat)(rc:Gt.R3×Unit)(kind:Int)(deep:Int): @Eq (Option (((Gt.R3×Unit)×(LicSpec.Ex×Unit))⊕(Unit))) ((zah (n+1)).e 263 [.ptr 0 0,.int .i64 kind,.int .i64 deep] [280] [.st 18] rc [.st 9] [] 0) (m263 (zah n) rc kind deep):=by kernel_rfl
theorem q264(n:Nat)(rc:Gt.R3×Unit): @Eq (Option (((Gt.R3×Unit)×(Unit))⊕(Unit))) ((zah (n+1)).e 264 [.ptr 0 0] [280] [.st 18] rc [] [] 0) (m264 (zah n) rc):=by kernel_rfl
theorem q265(n:Nat)(rc:Gt.R3×Unit)(at':Int)(no:Int): @Eq (Option (((Gt.R3×Unit)×(Unit))⊕(Unit))) ((zah (n+1)).e 265 [.ptr 0 0,.int .i64 at',.int .i64 no] [280] [.st 18] rc [] [] 0) (m265 (zah n) rc at' no):=by kernel_rfl
theorem q266(n:Nat)(e:LicSpec.Ex): @Eq (Option (Int×Unit)) ((zah (n+1)).d 266 [.st 9 e] [I6]) (m266 (zah n) e):=by kernel_rfl
theorem q269(n:Nat)(c:Int)(first:Bool): @Eq (Option (Bool×Unit)) ((zah (n+1)).d 269 [.int .u8 c,.bool first] [.bool]) (m269 (zah n) c first):=by kernel_rfl
theorem q272(n:Nat)  : @Eq (Option (List By×Unit)) ((zah (n+1)).d 272 [] [LS]) (m272 (zah n) ):=by kernel_rfl
theorem q275(n:Nat)(c:Int): @Eq (Option (Int×Unit)) ((zah (n+1)).d 275 [.int .u8 c] [I6]) (m275 (zah n) c):=by kernel_rfl
theorem q277(n:Nat)(rc:Gt.Rd×Unit): @Eq (Option (((Gt.Rd×Unit)×(Unit))⊕(Int×Int×Unit))) ((zah (n+1)).e 277 [.ptr 0 0] [293] [.st 16] rc [] [I6,I6] 254) (m277 (zah n) rc):=by kernel_rfl
theorem q278(n:Nat)(rc:Gt.Rd×Unit): @Eq (Option (((Gt.Rd×Unit)×(LicSpec.Ex×Unit))⊕(Int×Int×Unit))) ((zah (n+1)).e 278 [.ptr 0 0] [293] [.st 16] rc [.st 9] [I6,I6] 254) (m278 (zah n) rc):=by kernel_rfl
theorem q279(n:Nat)(rc:Unit)(at':Int)(code:Int): @Eq (Option (((Unit)×(Unit))⊕(Int×Int×Unit))) ((zah (n+1)).e 279 [.int .i64 at',.int .i64 code] [] [] rc [] [I6,I6] 254) (m279 (zah n) rc at' code):=by kernel_rfl
theorem q280(n:Nat)(e:LicSpec.Ex)(level:Int): @Eq (Option (Int×Int×Unit)) ((zah (n+1)).d 280 [.st 9 e,.int .i64 level] [I6,I6]) (m280 (zah n) e level):=by kernel_rfl
theorem q281(n:Nat)(e:LicSpec.Ex): @Eq (Option (Int×Unit)) ((zah (n+1)).d 281 [.st 9 e] [I6]) (m281 (zah n) e):=by kernel_rfl
theorem q291(n:Nat)(rc:Gt.R3×Unit)(deep:Int): @Eq (Option (((Gt.R3×Unit)×(LicSpec.Ex×Unit))⊕(Unit))) ((zah (n+1)).e 291 [.ptr 0 0,.int .i64 deep] [280] [.st 18] rc [.st 9] [] 0) (m291 (zah n) rc deep):=by kernel_rfl
theorem q292(n:Nat)(rc:Gt.R3×Unit)(w:By): @Eq (Option (((Gt.R3×Unit)×(Bool×Unit))⊕(Unit))) ((zah (n+1)).e 292 [.ptr 0 0,.str w] [280] [.st 18] rc [.bool] [] 0) (m292 (zah n) rc w):=by kernel_rfl
theorem q293(n:Nat)(e:LicSpec.Ex)(most:Int): @Eq (Option (Int×Unit)) ((zah (n+1)).d 293 [.st 9 e,.int .i64 most] [I6]) (m293 (zah n) e most):=by kernel_rfl
theorem q294(n:Nat)(e:LicSpec.Ex): @Eq (Option (Int×Unit)) ((zah (n+1)).d 294 [.st 9 e] [I6]) (m294 (zah n) e):=by kernel_rfl
theorem q295(n:Nat)(e:LicSpec.Ex): @Eq (Option (Int×Unit)) ((zah (n+1)).d 295 [.st 9 e] [I6]) (m295 (zah n) e):=by kernel_rfl
theorem q303(n:Nat)(c:Int): @Eq (Option (Bool×Unit)) ((zah (n+1)).d 303 [.int .u8 c] [.bool]) (m303 (zah n) c):=by kernel_rfl
theorem q304(n:Nat)(s:By): @Eq (Option (Bool×Unit)) ((zah (n+1)).d 304 [.str s] [.bool]) (m304 (zah n) s):=by kernel_rfl
theorem q306(n:Nat)(s:By): @Eq (Option (Bool×Unit)) ((zah (n+1)).d 306 [.str s] [.bool]) (m306 (zah n) s):=by kernel_rfl
theorem q308(n:Nat)(rc:Gt.Rd×Unit): @Eq (Option (((Gt.Rd×Unit)×(LicSpec.Ex×Unit))⊕(Int×Int×Unit))) ((zah (n+1)).e 308 [.ptr 0 0] [293] [.st 16] rc [.st 9] [I6,I6] 254) (m308 (zah n) rc):=by kernel_rfl
theorem q312(n:Nat)(rc:Gt.R3×Unit)(b:Int): @Eq (Option (((Gt.R3×Unit)×(Bool×Unit))⊕(Unit))) ((zah (n+1)).e 312 [.ptr 0 0,.int .u8 b] [280] [.st 18] rc [.bool] [] 0) (m312 (zah n) rc b):=by kernel_rfl
theorem q313(n:Nat)(rc:Gt.R3×Unit): @Eq (Option (((Gt.R3×Unit)×(By×Unit))⊕(Unit))) ((zah (n+1)).e 313 [.ptr 0 0] [280] [.st 18] rc [.str] [] 0) (m313 (zah n) rc):=by kernel_rfl
theorem q314(n:Nat)(rc:Gt.R3×Unit): @Eq (Option (((Gt.R3×Unit)×(By×Unit))⊕(Unit))) ((zah (n+1)).e 314 [.ptr 0 0] [280] [.st 18] rc [.str] [] 0) (m314 (zah n) rc):=by kernel_rfl
theorem q315(n:Nat)(s:By): @Eq (Option (By×Unit)) ((zah (n+1)).d 315 [.str s] [.str]) (m315 (zah n) s):=by kernel_rfl
theorem q316(n:Nat)(e:LicSpec.Ex): @Eq (Option (Int×Unit)) ((zah (n+1)).d 316 [.st 9 e] [I6]) (m316 (zah n) e):=by kernel_rfl
theorem q324(n:Nat)(rc:Gt.Rd×Unit)(word:By): @Eq (Option (((Gt.Rd×Unit)×(Bool×Unit))⊕(Int×Int×Unit))) ((zah (n+1)).e 324 [.ptr 0 0,.str word] [293] [.st 16] rc [.bool] [I6,I6] 254) (m324 (zah n) rc word):=by kernel_rfl
theorem q325(n:Nat)(rc:Gt.Rd×Unit): @Eq (Option (((Gt.Rd×Unit)×(LicSpec.Ex×Unit))⊕(Int×Int×Unit))) ((zah (n+1)).e 325 [.ptr 0 0] [293] [.st 16] rc [.st 9] [I6,I6] 254) (m325 (zah n) rc):=by kernel_rfl
theorem q326(n:Nat)(s:By): @Eq (Option (Bool×Unit)) ((zah (n+1)).d 326 [.str s] [.bool]) (m326 (zah n) s):=by kernel_rfl
theorem q327(n:Nat)(b:Int): @Eq (Option (Bool×Unit)) ((zah (n+1)).d 327 [.int .u8 b] [.bool]) (m327 (zah n) b):=by kernel_rfl
theorem q333(n:Nat)(rc:Gt.Rd×Unit): @Eq (Option (((Gt.Rd×Unit)×(By×Unit))⊕(Int×Int×Unit))) ((zah (n+1)).e 333 [.ptr 0 0] [293] [.st 16] rc [.str] [I6,I6] 254) (m333 (zah n) rc):=by kernel_rfl
end Pe.Tryz
end
