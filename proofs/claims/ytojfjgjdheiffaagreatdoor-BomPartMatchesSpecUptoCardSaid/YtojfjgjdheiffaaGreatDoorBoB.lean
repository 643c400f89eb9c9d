/- PROVED HERE: a part of the seat's proofs; see the text that holds the claim's theorem. -/
import Derived.Shelf.SlicesE.Clone
import Derived.Test.YtojfjgjdheiffaaGreatDoorBoD
import Derived.Test.YtojfjgjdheiffaaGreatDoorPeDr
set_option maxRecDepth 100000
open Go.Proofs.Tryz
section
namespace Pe.Tryz
open Go Go.Proofs Pe Go.RowKit
theorem zq8{nu:Nu}{D:Dat}{w:World}{s:By}{v:Value}(h:Rep (S:=Sx) un nu D w (.str s) v):v= .string ⟨s.toArray⟩:=by grind[Rep]
noncomputable def e153(_:Orc Sx):Entry Sx:=⟨[.str,.int .u8],[.int .i64],λt=>some (Lib.indexByte t.1 (UInt8.ofNat (Int.toNat t.2.1)),())⟩
theorem hok153(o:Orc Sx)(_:K4 prog un o):Entry.Ok prog un 153 (e153 o):=by
 intro t r h D w vs htab hD ha;cases h
 match vs,ha with
 |[v,u],ha =>
   simp only[e153,zbQ,Ke,inj,Rep] at ha;obtain ⟨rfl,rfl,_⟩:=ha;refine (Tryz.strings_IndexByte ⟨List.toArray t.1⟩ t.2.1 w).mono ?_
   simp_all[Below.refl,e153,zbQ,zfI,inj,Rep]
 |[],ha=>grind[e153,zbQ,Ke]|[_],ha=>grind[e153,zbQ,Ke]|_::_::_::_,ha=>grind[e153,zbQ,Ke]
def has1(s:By):By->Option (Bool×J)|[c]=>some (decide (0<=Lib.indexByte s c),())|_=>none
theorem zpc{s sub:By}{r:Bool×J}(h:has1 s sub=some r):∃c,sub=[c]/\r=(decide (0<=Lib.indexByte s c),()):=by
 match sub,h with
 |[c],h=>exact ⟨c,rfl,(yAS h).symm⟩
noncomputable def e163(_:Orc Sx):Entry Sx:=⟨[.str,.str],[.bool],λt=>has1 t.1 t.2.1⟩
theorem hok163(o:Orc Sx)(_:K4 prog un o):Entry.Ok prog un 163 (e163 o):=by
 intro t r h D w vs htab hD ha;obtain ⟨s,sub,t2⟩:=t;obtain ⟨c,h1,h2⟩:=zpc (show has1 s sub=some r from h)
 ·subst h1;subst h2
  match vs,ha with
  |[v,u],ha =>
    simp only[e163,zbQ,Ke,inj,Rep] at ha;obtain ⟨rfl,rfl,_⟩:=ha;refine (Tryz.strings_Contains_one ⟨List.toArray s⟩ c w).mono ?_
    simp_all[Below.refl,e163,zbQ,zfI,inj,Rep]
  |[],ha=>grind[e163,zbQ,Ke]|[_],ha=>grind[e163,zbQ,Ke]|_::_::_::_,ha=>grind[e163,zbQ,Ke]
def zbW(c:UInt8)(s:By):List By:=(Lib.splitB ⟨#[c]⟩ 0 (Lib.countB ⟨s.toArray⟩ ⟨#[c]⟩) ⟨s.toArray⟩).map (·.data.toList)
def split1(s:By):By->Option (List By×J)|[c]=>bif Nat.ble s.length 4000000000 then some (zbW c s,()) else none|_=>none
theorem zlP{s sub:By}{r:List By×J}(h:split1 s sub=some r):∃c,sub=[c]/\(bif Nat.ble s.length 4000000000 then some (zbW c s,()) else none)=some r:=by
 match sub,h with
 |[c],h=>exact ⟨c,rfl,h⟩
noncomputable def e216(_:Orc Sx):Entry Sx:=⟨[.str,.str],[.sl .str],λt=>split1 t.1 t.2.1⟩
theorem hok216(o:Orc Sx)(_:K4 prog un o):Entry.Ok prog un 216 (e216 o):=by
 intro t r h D w vs htab hD ha;obtain ⟨s,sub,t2⟩:=t;obtain ⟨c,h0,h⟩:=zlP (show split1 s sub=some r from h)
 ·subst h0;obtain ⟨h1,h2⟩:=zae h;cases h2;simp only[yAK] at h1
  match vs,ha with
  |[v,u],ha =>
    simp only[e216,zbQ,Ke,inj,Rep] at ha;obtain ⟨rfl,rfl,_⟩:=ha;have hsz:(ByteArray.mk (List.toArray s)).size=List.length (α:=UInt8) s:=rfl;refine (Any.split_one Tryz.lays146 (by kernel_rfl) ⟨List.toArray s⟩ c w (by rw[hsz];omega)).mono ?_
    rintro x w' ⟨rfl,hw⟩
    have hb:Below w.heap.size w w':=(by rw[hw];exact (Below.refl _ _).alloc (yAi _) _);refine ⟨_,rfl,hb,?_⟩;simp only[e216,zbQ,zfI,inj,Rep];have Ku:=Lib.splitB_all ⟨#[c]⟩ (yAi 1) 0 _ ⟨List.toArray s⟩ rfl;have hl2:(zbW c s).length=Lib.countB ⟨List.toArray s⟩ ⟨#[c]⟩+1:=by unfold zbW;rw[yBi];exact Ku
    have Qo:∀(i:Nat)(x:By),(zbW c s)[i]?=some x->w'.cell? ⟨w.heap.size,i,none⟩=some (.string ⟨x.toArray⟩):=(by intro i x hi;unfold zbW at hi;rw[yAh,yA9] at hi;obtain ⟨y,hy,rfl⟩:=hi;rw[hw];have:(w.alloc (.cells ((Lib.splitB ⟨#[c]⟩ 0 (Lib.countB ⟨List.toArray s⟩ ⟨#[c]⟩) ⟨List.toArray s⟩).map Value.string).toArray (Tryz.lays146_ren.t 9))).heap[w.heap.size]?=_:=heap_alloc_new w _;rw[cell_of_row _ _ _ _ _ _ this];simp[hy]);have key:DR (S:=Sx) un (zkU D w w') w' [.sl .str] (sg (u:= .sl .str) (zbW c s)) [.slice (some ⟨w.heap.size,0,none⟩) (zbW c s).length (zbW c s).length]:=by
     refine .sl (t:=sg (u:= .sl .str) (zbW c s)) w.heap.size 0 (zbW c s).length (λi=>[match (zbW c s)[i]? with|some x=>.string ⟨x.toArray⟩|none=>undef]) (yAi _) (λi x hi=>?_) (λi x hi=>?_) .nil
     ·intro j v hj;have hx:(zbW c s)[i]?=some x:=hi;cases j with
      |zero =>
        simp[hx] at hj;subst hj;refine ⟨.inr ⟨by simp,?_⟩,?_⟩;·rw[hw];simp
        ·simpa[U.size] using Qo i x hx
      |succ j=>simp at hj
     ·have hx:(zbW c s)[i]?=some x:=hi;simp only[hx];exact .str .nil
    rw[hl2] at key;exact key
  |[],ha=>simp[e216,zbQ,Ke] at ha|[_],ha=>simp[e216,zbQ,Ke] at ha|_::_::_::_,ha=>simp[e216,zbQ,Ke] at ha
theorem zrz{D:Dat}{w:World}{x:By}{cc:List Value}(h:DR (S:=Sx) un D w [.str] (sg (u:= .str) x) cc):cc=[.string ⟨x.toArray⟩]:=by
 cases h with
 |str h'=>cases h';rfl
theorem znz{D:Dat}{w:World}{xs:List By}{v:Value}(hv:DR (S:=Sx) un D w [.sl .str] (sg (u:= .sl .str) xs) [v]) :
  (xs=[]/\∃A c,v= .slice A 0 c)\/(xs≠[]/\∃b off c,v= .slice (some ⟨b,off,none⟩) xs.length c/\xs.length<=c/\∀(j:Nat)(x:By),xs[j]?=some x->D b (off+j)/\w.cell? ⟨b,off+j,none⟩=some (.string ⟨x.toArray⟩)):=by
 cases hv with
 |sl0 A c h0 h=>exact .inl ⟨h0,A,c,rfl⟩|sl b off c cs hc k1 k2 h =>
   by_cases hx:xs=[];·subst hx;exact .inl ⟨rfl,some ⟨b,off,none⟩,c,rfl⟩
   ·refine .inr ⟨hx,b,off,c,rfl,hc,λj x hj=>?_⟩;have e1:=k1 j x hj;have e2:=zrz (k2 j x hj);rw[e2] at e1;simpa[U.size] using e1 0 _ rfl
theorem zo7{D:Dat}{w:World}(hD:∀k o,D k o->k<w.heap.size){xs:List By}{sep:By}{v:Value}(hv:DR (S:=Sx) un D w [.sl .str] (sg (u:= .sl .str) xs) [v])(h1:xs.length<=1000000)(h2:(Lib.join xs sep).length<=100000000) :
  Calls prog 219 #[v,.string ⟨sep.toArray⟩] w λx w'=>x= .returned (.string ⟨(Lib.join xs sep).toArray⟩)/\Below w.heap.size w w':=by
 rcases znz hv with ⟨rfl,A,c,rfl⟩|⟨hx,b,off,c,rfl,hc,Qo⟩
 ·refine (Tryz.strings_Join_none A c ⟨sep.toArray⟩ w).mono ?_
  rintro x w' ⟨rfl,rfl⟩
  exact ⟨rfl,Below.refl _ _⟩
 ·have hb:b<w.heap.size:=by
   obtain ⟨y,ys,rfl⟩:=List.exists_cons_of_ne_nil hx;exact hD _ _ (Qo 0 y rfl).1
  have hmap:(xs.map λx=>ByteArray.mk x.toArray).map (·.data.toList)=xs:=by simp_all[Function.comp_def]
  have Ku:(xs.map λx=>ByteArray.mk x.toArray).length=xs.length:=by simp
  have:=Tryz.strings_Join b off c (xs.map λx=>ByteArray.mk x.toArray) ⟨sep.toArray⟩ w (λj x hj=>by
   rw[yAh] at hj;grind) hb (by grind) (by grind) (by rw[hmap];exact yAo h2 (by decide))
  simp_all
noncomputable def e219(_:Orc Sx):Entry Sx:=⟨[.sl .str,.str],[.str],λt=>bif Nat.ble (List.length (α:=By) t.1) 1000000&&Nat.ble (Lib.join t.1 t.2.1).length 100000000 then some (Lib.join t.1 t.2.1,()) else none⟩
theorem hok219(o:Orc Sx)(_:K4 prog un o):Entry.Ok prog un 219 (e219 o):=by
 intro t r h D w vs htab hD ha;obtain ⟨h1,h2⟩:=zae h;cases h2;simp only[yAd,yAK] at h1
 match vs,ha with
 |[v,u],ha =>
   simp only[e219,zbQ,Ke,inj] at ha;have hu:=zq8 ha.2.1;subst hu;have hv:=ha.1;simp only[Rep] at hv;refine (zo7 hD hv h1.1 h1.2).mono ?_
   simp_all[e219,zbQ,zfI,inj,Rep]
 |[],ha=>grind[e219,zbQ,Ke]|[_],ha=>simp[e219,zbQ,Ke] at ha|_::_::_::_,ha=>simp[e219,zbQ,Ke] at ha
noncomputable def e305(_:Orc Sx):Entry Sx:=⟨[.str],[.str],λt=>bif Nat.ble (List.length (α:=UInt8) t.1) 1000000&&List.all (α:=UInt8) t.1 (λb=>Nat.blt b.toNat 128) then some (Lib.toUpperA t.1,()) else none⟩
theorem znv{w:World}{s:By}(h1:s.length<=1000000)(h2:s.all (λb=>Nat.blt b.toNat 128)=true) :
  Calls prog 305 #[.string ⟨s.toArray⟩] w λx w'=>x= .returned (.string ⟨(Lib.toUpperA s).toArray⟩)/\Below w.heap.size w w':=by
 have hsz:(ByteArray.mk s.toArray).size=s.length:=by simp[ByteArray.size]
 refine Tryz.strings_ToUpper_ascii ⟨s.toArray⟩ w (by rw[hsz];omega) (λj b hb=>?_);have:=yAM.1 h2 b (yAb hb);simp_all
theorem hok305(o:Orc Sx)(_:K4 prog un o):Entry.Ok prog un 305 (e305 o):=by
 intro t r h D w vs htab hD ha;obtain ⟨h1,h2⟩:=zae h;cases h2;simp only[yAd,yAK] at h1
 match vs,ha with
 |[v],ha =>
   simp only[e305,zbQ,Ke,inj] at ha;have:=zq8 ha.1;subst this;refine (znv h1.1 h1.2).mono ?_
   rintro x w' ⟨rfl,hb⟩
   exact ⟨_,rfl,hb,by simp only[e305,zbQ,zfI,inj,Rep]⟩
 |[],ha=>simp[e305,zbQ,Ke] at ha|_::_::_,ha=>simp[e305,zbQ,Ke] at ha
end Pe.Tryz
end
section
namespace Pe
open Go Go.Proofs Go.RowKit
section
variable{S:Nat->Type}{P:Program}{un:Uni S}
theorem zlO{D:Dat}{w:World}{args:List (PV S)}{vs:List Value}{n:Nat}(hD:∀k o,D k o->k<w.heap.size)(ha:Ke un [] D w args vs)(hn:args.length<=n)(htab:TabE un w []) :
  Holds un ⟨w,[],[]⟩ D ⟨n,[]⟩ (ze2 0 args) [] { tmps:=vs.toArray++Array.replicate (n - vs.toArray.size) undef,defers:=[] } w:=by
 have Ku:=ha.len;refine ⟨D,[],⟨⟨Wl.Grow.refl _ _,hD,λr hr=>(by cases hr),λr hr=>(by cases hr),List.Pairwise.nil,λi g h=>by grind[zyp]⟩,by simp;omega,⟨rfl,htab⟩,by simp[Kj],λi p hi=>?_⟩,λk o hk=>.inl hk,Ge.refl _ _⟩;obtain ⟨_,h1⟩:=zcM args 0 i p hi;obtain ⟨v,h2,h3⟩:=ha.get i p (by grind);have Ks:i<vs.length:=(yAc.1 h2).1;simp_all[yBK]
theorem zng{E:Wl.Ctx}{D:Dat}{H:List Wl.Res}{w:World}(Kt:In E D H w){i g:Nat}(h:E.fix[i]?=some (.pointer (some ⟨g,0,none⟩))):∃T cs,H[i]?=some (.box g T cs):=by
 obtain ⟨r0,h1,h2,h3,_⟩:=Kt.lent i _ (zyR h (by simp));cases r0 with
 |box g' T cs=>grind[zal]|fix v g' size ob =>simp[zal] at h3;subst h3;exact absurd (Kt.res _ (yAb h1)).1 (zcQ _)|_=>grind[zax]
theorem zol{nu:Nu}{D:Dat}{w:World}{E:Wl.Ctx}{T:TypeId}{cs:List (PV S)}{r:Wl.Res}(h:Kc un nu D w E false (.var T cs) r)(hl:cs.length≠1):∃g vs,r= .box g T vs/\Ke un nu D w cs vs:=by
 cases r with
 |box g T' vs=>simp only[Kc] at h;obtain ⟨rfl,h⟩:=h;exact ⟨g,vs,rfl,h⟩
 |fix v g size ob=>simp only[Kc] at h;have:=h.length;grind
 |_=>grind[Kc]
variable{Q:Exit->Act->List Frame->World->Prop}{ops:Array Oper}{a:Act}{cs:List Frame}{w w':World}{o:Oper}{i:Nat}{rest:List Nat}{v:Value}
theorem zcx(ho:ops[i]?=some o)(hg:o.guard=none)(hr:(execOp a.eval o).run P w= .ok (.value v) w')(h:wpOpsS P ops Q rest (a.put o.dst v) cs w'):wpOpsS P ops Q (i::rest) a cs w:=by grind[wpOpsS,Region.wanted,Oper.upon]
theorem zlK(ho:ops[i]?=some o)(hg:o.guard=none)(hr:(execOp a.eval o).run P w= .ok .skip w')(h:wpOpsS P ops Q rest (a.put o.dst undef) cs w'):wpOpsS P ops Q (i::rest) a cs w:=by grind[wpOpsS,Region.wanted,Oper.upon]
theorem znt(ho:ops[i]?=some o)(hg:o.guard=none)(hr:(execOp a.eval o).run P w= .ok .recover w')(h:match recoverD cs with
  |some (v,cs')=>wpOpsS P ops Q rest (a.put o.dst v) cs' w'|none=>wpOpsS P ops Q rest (a.put o.dst .nilIface) cs w'):wpOpsS P ops Q (i::rest) a cs w:=by
 unfold wpOpsS;rw[ho];simp only[Region.wanted,hg,if_true,hr];exact h
end
end Pe
namespace Pe.Tryz
open Go Go.Proofs Pe Go.RowKit
theorem zw7{w:World}{gs:List Nat}:TabE un w gs:=λt ht=>by cases ht
noncomputable def r0C:Code:=match Tryz.f234.body with|some (.seq a _)=>a|_=>.skip
noncomputable def r1C:Code:=match Tryz.f234.body with|some (.seq _ (.seq a _))=>a|_=>.skip
noncomputable def zlQ:Code:=match Tryz.f234.body with|some (.seq _ (.seq _ c))=>c|_=>.skip
theorem zr6:Tryz.f234.body=some (.seq r0C (.seq r1C zlQ)):=by kernel_rfl
noncomputable def q0C:Array Oper:=match Tryz.f276.body with|some (.seq (.region _ ops _) _)=>ops|_=> #[]
noncomputable def qC:Code:=match Tryz.f276.body with|some (.seq _ c)=>c|_=>.skip
theorem zpA:Tryz.f276.body=some (.seq (.region 0 q0C false) qC):=by kernel_rfl
noncomputable def qop(i:Nat):Oper:=q0C[i]?.getD default
theorem q0C_range:List.range q0C.size=[0,1,2,3,4,5,6,7]:=by kernel_rfl
def an136:Ann:=⟨.leaf,.leaf,[],[],[],[(2,[⟨[],[],[],[]⟩,⟨[],[2],[],[]⟩,⟨[0],[],[],[]⟩,⟨[1],[],[],[]⟩])],[]⟩
def zEx:List (PV Sx):=[.int .i64 0,.str [],.bool false,.str [],.nils]
def zF:List (PV Sx):=[.int .i64 0,.int .i64 0]
def junk(n:Nat):List (PV Sx):=List.replicate n .junk
def zrX(x:Exit)(bx:Bxs Sx):Option (Bxs Sx):=match x with | .normal=>some bx|_=>none
theorem zpi(o:Orc Sx):zhm un tb o (zoh un tb o 6) an136 qC (Bxs Sx) [(3,.bool false)] [] (λx _ bx=>zrX x bx)=some []:=by kernel_rfl
theorem zcs{a:Act}{d:Nat}{v:Value}(h:d<a.tmps.size):(a.put (some d) v).eval (.tmp d)=v:=by simp_all[Act.put,Act.eval]
theorem zee{a:Act}{d t:Nat}{v:Value}(h:d≠t):(a.put (some d) v).eval (.tmp t)=a.eval (.tmp t):=by simp[Act.put,Act.eval,yAv,h]
theorem zeU{a:Act}{d:Option Nat}{v:Value}:(a.put d v).tmps.size=a.tmps.size:=zmC a d v
theorem g0:(qop 0).guard=none/\(qop 1).guard=none/\(qop 2).guard=none/\(qop 3).guard=none/\(qop 4).guard=none/\(qop 5).guard=none/\(qop 6).guard=none/\(qop 7).guard=none:=⟨by kernel_rfl,by kernel_rfl,by kernel_rfl,by kernel_rfl,by kernel_rfl,by kernel_rfl,by kernel_rfl,by kernel_rfl⟩
theorem d0:(qop 0).dst=some 5/\(qop 1).dst=some 6/\(qop 2).dst=some 4/\(qop 3).dst=some 7/\(qop 4).dst=some 8/\(qop 5).dst=some 2/\(qop 6).dst=none/\(qop 7).dst=some 3:=⟨by kernel_rfl,by kernel_rfl,by kernel_rfl,by kernel_rfl,by kernel_rfl,by kernel_rfl,by kernel_rfl,by kernel_rfl⟩
theorem qg0:q0C[0]?=some (qop 0):=by kernel_rfl
theorem qg1:q0C[1]?=some (qop 1):=by kernel_rfl
theorem qg2:q0C[2]?=some (qop 2):=by kernel_rfl
theorem qg3:q0C[3]?=some (qop 3):=by kernel_rfl
theorem qg4:q0C[4]?=some (qop 4):=by kernel_rfl
theorem qg5:q0C[5]?=some (qop 5):=by kernel_rfl
theorem qg6:q0C[6]?=some (qop 6):=by kernel_rfl
theorem qg7:q0C[7]?=some (qop 7):=by kernel_rfl
theorem o1:(qop 1).op= .typeAssert (.tmp 5) 20 254 true:=by kernel_rfl
theorem o2:(qop 2).op= .move (.tmp 6):=by kernel_rfl
theorem o3:(qop 3).op= .extract (.tmp 4) 0:=by kernel_rfl
theorem o4:(qop 4).op= .extract (.tmp 4) 1:=by kernel_rfl
theorem o5:(qop 5).op= .alloc 254:=by kernel_rfl
theorem o6:(qop 6).op= .store 254 (.tmp 2) (.tmp 7):=by kernel_rfl
theorem o7:(qop 7).op= .assign (.tmp 8):=by kernel_rfl
theorem rec0(ρ:Operand->Value)(w:World):(execOp ρ (qop 0)).run prog w= .ok .recover w:=by kernel_rfl
theorem ta_no(w:World):(Instr.typeAssert .nilIface 20 254 true).run prog w= .ok (.tuple #[.agg #[.int .i64 0,.int .i64 0],.bool false]) w:=by kernel_rfl
theorem zsr(v:Value)(w:World):(Instr.typeAssert (.iface 254 v) 20 254 true).run prog w= .ok (.tuple #[v,.bool true]) w:=by kernel_rfl
theorem al49(w:World):(Instr.alloc 254 true (.tuple #[])).run prog w= .ok (.pointer (some ⟨w.heap.size,0,none⟩)) (w.alloc (.cells #[.int .i64 0,.int .i64 0] 254)):=by kernel_rfl
theorem zst:(prog.info? 254).map (·.size)=some 2:=by kernel_rfl
theorem zjg{Q:Exit->Act->List Frame->World->Prop}{a:Act}{cs cs':List Frame}{w:World}{x y:Int}{v0:Value}{b:Bool}(hs:a.tmps.size=12)
  (hrec:(match recoverD cs with|some (v,cs')=>(v,cs')|none=>(.nilIface,cs))=(v0,cs')) (hta:(Instr.typeAssert v0 20 254 true).run prog w= .ok (.tuple #[.agg #[.int .i64 x,.int .i64 y],.bool b]) w)
  (h:∀a' w',a'.tmps.size=12->a'.defers=a.defers->a'.eval (.tmp 0)=a.eval (.tmp 0)->a'.eval (.tmp 1)=a.eval (.tmp 1)->a'.eval (.tmp 2)= .pointer (some ⟨w.heap.size,0,none⟩)->a'.eval (.tmp 3)= .bool b ->
   Below w.heap.size w w'->w'.heap[w.heap.size]?=some (.cells #[.int .i64 x,.int .i64 y] 254 (0,0))->Q .normal a' cs' w') :
  wpOpsS prog q0C Q [0,1,2,3,4,5,6,7] a cs w:=by
 obtain ⟨k0,k1,k2,k3,k4,k5,k6,k7⟩:=g0;obtain ⟨e0,e1,e2,e3,e4,e5,e6,e7⟩:=d0;have go:∀a0:Act,a0.tmps.size=12->a0.defers=a.defers->a0.eval (.tmp 0)=a.eval (.tmp 0)->a0.eval (.tmp 1)=a.eval (.tmp 1)->a0.eval (.tmp 5)=v0->wpOpsS prog q0C Q [1,2,3,4,5,6,7] a0 cs' w:=by
  intro a0 hs0 hd0 hp0 hp1 hv0;refine zcx qg1 k1 (v:= .tuple #[.agg #[.int .i64 x,.int .i64 y],.bool b]) (w':=w) (by simp[execOp,o1,hv0,hta]) ?_;rw[e1];generalize ha1:a0.put (some 6) _=a1;have hs1:a1.tmps.size=12:=by rw[<-ha1,zeU,hs0]
  have hv1:a1.eval (.tmp 6)= .tuple #[.agg #[.int .i64 x,.int .i64 y],.bool b]:=by rw[<-ha1];exact zcs (by omega)
  have hk1:∀t,6≠t->a1.eval (.tmp t)=a0.eval (.tmp t):=λt ht=>by rw[<-ha1];exact zee ht
  have hd1:a1.defers=a0.defers:=by rw[<-ha1];rfl
  refine zcx qg2 k2 (v:= .tuple #[.agg #[.int .i64 x,.int .i64 y],.bool b]) (w':=w) (by simp[execOp,o2,hv1]) ?_;rw[e2];generalize ha2:a1.put (some 4) _=a2;have hs2:a2.tmps.size=12:=by rw[<-ha2,zeU,hs1]
  have hv2:a2.eval (.tmp 4)= .tuple #[.agg #[.int .i64 x,.int .i64 y],.bool b]:=by rw[<-ha2];exact zcs (by omega)
  have hk2:∀t,4≠t->a2.eval (.tmp t)=a1.eval (.tmp t):=λt ht=>by rw[<-ha2];exact zee ht
  have hd2:a2.defers=a1.defers:=by rw[<-ha2];rfl
  refine zcx qg3 k3 (v:= .agg #[.int .i64 x,.int .i64 y]) (w':=w) (by simp[execOp,o3,hv2,Instr.extract]) ?_;rw[e3];generalize ha3:a2.put (some 7) _=a3;have hs3:a3.tmps.size=12:=by rw[<-ha3,zeU,hs2]
  have hv3:a3.eval (.tmp 7)= .agg #[.int .i64 x,.int .i64 y]:=by rw[<-ha3];exact zcs (by omega)
  have hk3:∀t,7≠t->a3.eval (.tmp t)=a2.eval (.tmp t):=λt ht=>by rw[<-ha3];exact zee ht
  have hd3:a3.defers=a2.defers:=by rw[<-ha3];rfl
  refine zcx qg4 k4 (v:= .bool b) (w':=w) (by simp[execOp,o4,hk3 4 (by decide),hv2,Instr.extract]) ?_;rw[e4];generalize ha4:a3.put (some 8) _=a4;have hs4:a4.tmps.size=12:=by rw[<-ha4,zeU,hs3]
  have hv4:a4.eval (.tmp 8)= .bool b:=by rw[<-ha4];exact zcs (by omega)
  have hk4:∀t,8≠t->a4.eval (.tmp t)=a3.eval (.tmp t):=λt ht=>by rw[<-ha4];exact zee ht
  have hd4:a4.defers=a3.defers:=by rw[<-ha4];rfl
  refine zcx qg5 k5 (v:= .pointer (some ⟨w.heap.size,0,none⟩)) (w':=w.alloc (.cells #[.int .i64 0,.int .i64 0] 254)) (by simp[execOp,o5,al49]) ?_;rw[e5];generalize ha5:a4.put (some 2) _=a5;have hs5:a5.tmps.size=12:=by rw[<-ha5,zeU,hs4]
  have hv5:a5.eval (.tmp 2)= .pointer (some ⟨w.heap.size,0,none⟩):=by rw[<-ha5];exact zcs (by omega)
  have hk5:∀t,2≠t->a5.eval (.tmp t)=a4.eval (.tmp t):=λt ht=>by rw[<-ha5];exact zee ht
  have hd5:a5.defers=a4.defers:=by rw[<-ha5];rfl
  have hnew:=heap_alloc_new w (.cells #[.int .i64 0,.int .i64 0] 254 (0,0));obtain ⟨s1,s2⟩:=zd8 w.heap.size 254 [.int .i64 x,.int .i64 y] [.int .i64 0,.int .i64 0] 0 (w.alloc (.cells #[.int .i64 0,.int .i64 0] 254)) hnew;have hst:(Instr.storeAt 254 (.pointer (some ⟨w.heap.size,0,none⟩)) (.agg #[.int .i64 x,.int .i64 y])).run prog (w.alloc (.cells #[.int .i64 0,.int .i64 0] 254))= .ok () ((w.alloc (.cells #[.int .i64 0,.int .i64 0] 254)).setCells w.heap.size 0 [.int .i64 x,.int .i64 y]):=by
   have:=run_storeAt_mid (P:=prog) (w.alloc (.cells #[.int .i64 0,.int .i64 0] 254)) w.heap.size 0 254 #[.int .i64 x,.int .i64 y] (λj hj=>⟨by
    rw[cell_of_row _ _ _ _ _ _ hnew];have:j<2:=hj;rcases j with _|_|j;·rfl
    ·rfl
    ·omega,by unfold World.frozen?;simp only[];rw[hnew];rfl⟩) (by rw[zst];rfl) (by rw[Array.all_eq_true];intro i hi;rcases i with _|_|i<;>first|rfl|(simp at hi;omega))
   exact this
  have hb:Below w.heap.size w ((w.alloc (.cells #[.int .i64 0,.int .i64 0] 254)).setCells w.heap.size 0 [.int .i64 x,.int .i64 y]):=by have h1:Below w.heap.size w (w.alloc (.cells #[.int .i64 0,.int .i64 0] 254)):=(Below.refl _ _).alloc (yAi _) _;refine ⟨s2.os.trans h1.os,s2.tape.trans h1.tape,s2.output.trans h1.output,yAo h1.size s2.size,λk hk=>?_⟩;rw[s2.block k (yAq hk h1.size) (by simp;omega),h1.block k hk]
  refine zlK qg6 k6 (w':=(w.alloc (.cells #[.int .i64 0,.int .i64 0] 254)).setCells w.heap.size 0 [.int .i64 x,.int .i64 y]) (by simp[execOp,o6,hv5,hk5 7 (by decide),hk4 7 (by decide),hv3,hst]) ?_;rw[e6];refine zcx qg7 k7 (v:= .bool b) (w':=(w.alloc (.cells #[.int .i64 0,.int .i64 0] 254)).setCells w.heap.size 0 [.int .i64 x,.int .i64 y]) (by simp[execOp,o7,Act.put,hk5 8 (by decide),hv4]) ?_;rw[e7];unfold wpOpsS;have old:∀t,t≠3->t≠2->t≠8->t≠7->t≠4->t≠6->((a5.put none undef).put (some 3) (.bool b)).eval (.tmp t)=a0.eval (.tmp t):=λt h3 h2 h8 h7 h4 h6=>by rw[zee (Ne.symm h3)];show a5.eval (.tmp t)=_;rw[hk5 t (Ne.symm h2),hk4 t (Ne.symm h8),hk3 t (Ne.symm h7),hk2 t (Ne.symm h4),hk1 t (Ne.symm h6)]
  refine h _ _ (by rw[zeU,zeU,hs5]) ?_ ?_ ?_ ?_ (zcs (by rw[zeU];omega)) hb (by simpa[zaV.spliceV] using s1);·show a5.defers=_;rw[hd5,hd4,hd3,hd2,hd1,hd0]
  ·rw[old 0 (by decide) (by decide) (by decide) (by decide) (by decide) (by decide),hp0]
  ·rw[old 1 (by decide) (by decide) (by decide) (by decide) (by decide) (by decide),hp1]
  ·rw[zee (by decide)];exact hv5
 refine znt qg0 k0 (w':=w) (rec0 _ w) ?_;rw[e0];cases hc:recoverD cs with
 |none =>rw[hc] at hrec;simp only[Prod.mk.injEq] at hrec ⊢;obtain ⟨rfl,rfl⟩:=hrec;exact go _ (by rw[zeU,hs]) rfl (zee (by decide)) (zee (by decide)) (zcs (by omega))
 |some z =>rw[hc] at hrec;obtain ⟨z1,z2⟩:=z;simp only[Prod.mk.injEq] at hrec ⊢;obtain ⟨rfl,rfl⟩:=hrec;exact go _ (by rw[zeU,hs]) rfl (zee (by decide)) (zee (by decide)) (zcs (by omega))
theorem f276_res:Tryz.f276.results.toList=[]:=by kernel_rfl
theorem f276_n:Tryz.f276.ntmps=12:=by kernel_rfl
theorem qC_w:(zaW qC).all (Nat.blt · 12)=true:=by kernel_rfl
theorem zr4{o:Orc Sx}(hor:K4 prog un o)(p0 p1:Value)(w:World):CallsD prog 276 #[p0,p1] .returning w λe u' w'=>(∃v,e= .returned v)/\u'= .returning/\Below w.heap.size w w':=by
 refine callsD_of_wpS func276 zpA λc₀ cs hu=>wpS_seq (wpS_region ?_);rw[q0C_range];refine zjg (by rw[f276_n];rfl) (v0:= .nilIface) (cs':=c₀::cs) (by simp[recoverD,hu]) (ta_no w) λa' w' hs hd _ _ _ h3 hb _=>?_;show qC.wpS prog _ a' (c₀::cs) w'
 refine wpS_of_wp (zfm (E:=⟨w',[],[]⟩) (D0:=λ_ _=>False) (N:=⟨12,[]⟩) mixed zeM zmo hor (zbC mixed zeM zmo hor 6) _ _ _ _ _ _ (zpi o) (λd hdd=>by have:=yAM.1 qC_w d hdd;simpa[yAN] using this)
  ⟨λ_ _=>False,[],⟨⟨Wl.Grow.refl _ _,λ_ _ h=>h.elim,λr hr=>(by cases hr),λr hr=>(by cases hr),List.Pairwise.nil,λi g h=>by simp[zyp] at h⟩,hs,⟨by rw[hd],zw7⟩,by simp[Kj],λi p hi=>?_⟩,λ_ _ h=>h.elim,Ge.refl _ _⟩ λx e' bx' hk _ _ a2 w2 hH=>?_)
 ·simp only[zvo] at hi;cases hb3:Nat.beq 3 i with
  |true =>rw[hb3] at hi;have:=yAa hb3;subst this;simp at hi;subst hi;simp only[Rep];exact h3
  |false=>rw[hb3] at hi;simp at hi
 ·cases x with
  |normal =>
    obtain ⟨D',H',hs',_⟩:=hH;obtain ⟨v,_,_,g1,_⟩:=zbY (fn:=Tryz.f276) (ps:=[]) zeM zmo hs' (by rw[f276_res];rfl) (rs:=[]) (t:=()) rfl;refine ⟨hs'.defers.1,.returning,?_,v,g1,⟨v,rfl⟩,rfl,?_⟩;·rw[<-hu]
    ·have hg:=hs'.Kr.out;exact ⟨hg.os.trans hb.os,hg.tape.trans hb.tape,hg.output.trans hb.output,yAo hb.size hg.size,λk hk=>(hg.block k (yAq hk hb.size) (by simp)).trans (hb.block k hk)⟩
  |_=>cases hk
def zs6(a c:Int):Bxs Sx:=[.var 200 (junk 5),.var 254 (junk 2),.var 254 [.int .i64 a,.int .i64 c]]
def bxs41(a c:Int):Bxs Sx:=[.var 200 zEx,.var 254 [.int .i64 a,.int .i64 c],.var 254 [.int .i64 a,.int .i64 c]]
theorem zn2(o:Orc Sx)(a c:Int):zhm un tb o (zoh un tb o 6) an136 qC (Bxs Sx) [(0,.ptr 0 0),(1,.ptr 1 0),(2,.ptr 2 0),(3,.bool true)] (zs6 a c) (λx _ bx=>zrX x bx)=some (bxs41 a c):=by kernel_rfl
def zExV:Array Value:= #[.int .i64 0,.string ⟨#[]⟩,.bool false,.string ⟨#[]⟩,.slice none 0 0]
theorem zpY{nu:Nu}{D:Dat}{w:World}{vs:List Value}(h:Ke (S:=Sx) un nu D w zEx vs):vs=zExV.toList:=by
 match vs,h with
 |[a,b,c,d,e],h =>simp only[zEx,Ke,Rep] at h;obtain ⟨rfl,rfl,rfl,rfl,rfl,_⟩:=h;rfl
 |[],h=>grind[zEx,Ke]|[_],h=>grind[zEx,Ke]|[_,_],h=>grind[zEx,Ke]|[_,_,_],h=>grind[zEx,Ke]|[_,_,_,_],h=>simp[zEx,Ke] at h|_::_::_::_::_::_::_,h=>simp[zEx,Ke] at h
theorem zpZ{nu:Nu}{D:Dat}{w:World}{x y:Int}{vs:List Value}(h:Ke (S:=Sx) un nu D w [.int .i64 x,.int .i64 y] vs):vs=[.int .i64 x,.int .i64 y]:=by
 match vs,h with
 |[a,b],h =>grind[Ke,Rep]
 |[],h=>grind[Ke]|[_],h=>grind[Ke]|_::_::_::_,h=>grind[Ke]
theorem zqS{o:Orc Sx}(hor:K4 prog un o)(g0 g1:Nat)(x y:Int)(w:World)(c0 c1:List Value)(hg0:w.heap[g0]?=some (.cells c0.toArray 200 (0,0)))(hg1:w.heap[g1]?=some (.cells c1.toArray 254 (0,0)))(hl0:c0.length=5)(hl1:c1.length=2)(hne:g0≠g1) :
  CallsD prog 276 #[.pointer (some ⟨g0,0,none⟩),.pointer (some ⟨g1,0,none⟩)] (.panicking [⟨.iface 254 (.agg #[.int .i64 x,.int .i64 y]),false,false⟩]) w λe u' w'=>(∃v,e= .returned v)/\settle u'= .returning/\Wl.Grow [g0,g1] w w' /\
   w'.heap[g0]?=some (.cells zExV 200 (0,0))/\w'.heap[g1]?=some (.cells #[.int .i64 x,.int .i64 y] 254 (0,0)):=by
 refine callsD_of_wpS func276 zpA λc₀ cs hu=>wpS_seq (wpS_region ?_);rw[q0C_range];refine zjg (by rw[f276_n];rfl) (v0:= .iface 254 (.agg #[.int .i64 x,.int .i64 y])) (cs':={ c₀ with mode:= .panicking [⟨.iface 254 (.agg #[.int .i64 x,.int .i64 y]),true,false⟩] }::cs) (by simp[recoverD,hu]) (zsr _ w) λa' w' hs hd h0 h1 h2 h3 hb hnew=>?_;show qC.wpS prog _ a' _ w';have hlt0:g0<w.heap.size:=(yAE.1 hg0).1;have hlt1:g1<w.heap.size:=(yAE.1 hg1).1;have hg0':w'.heap[g0]?=some (.cells c0.toArray 200 (0,0)):=(hb.block g0 hlt0).trans hg0;have hg1':w'.heap[g1]?=some (.cells c1.toArray 254 (0,0)):=(hb.block g1 hlt1).trans hg1
 refine wpS_of_wp (zfm (E:=⟨w,[g0,g1],[.pointer (some ⟨g0,0,none⟩),.pointer (some ⟨g1,0,none⟩)]⟩) (D0:=λ_ _=>False) (N:=⟨12,[]⟩) mixed zeM zmo hor (zbC mixed zeM zmo hor 6) _ _ _ _ _ _ (zn2 o x y) (λd hdd=>by have:=yAM.1 qC_w d hdd;simpa[yAN] using this)
  ⟨λ_ _=>False,[.box g0 200 c0,.box g1 254 c1,.box w.heap.size 254 [.int .i64 x,.int .i64 y]],⟨⟨Wl.Grow.of_below hb,λ_ _ h=>h.elim,λr hr=>?_,λr hr g hg o' _ h=>h.elim,?_,λi g h=>?_⟩,hs,⟨by rw[hd],zw7⟩,?_,λi p hi=>?_⟩,λ_ _ h=>h.elim,Ge.of (λ_ _ h=>h) λ_ _ h=>h.elim⟩ λxx e' bx' hk _ _ a2 w2 hH=>?_)
 ·simp only[yAm,yAX,or_false] at hr;rcases hr with rfl|rfl|rfl;·exact ⟨.inr (by simp),hg0'⟩
  ·exact ⟨.inr (by simp),hg1'⟩
  ·exact ⟨.inl (yAi _),hnew⟩
 ·refine yBU.2 ⟨λr hr g h1' h2'=>?_,yBU.2 ⟨λr hr g h1' h2'=>?_,yBs _ _⟩⟩;·simp only[yAm,yAX,or_false] at hr;rcases hr with rfl|rfl<;>simp[Wl.Res.has] at h1' h2'<;>omega
  ·simp only[yAm,yAX,or_false] at hr;subst hr;simp[Wl.Res.has] at h1' h2';omega
 ·rcases i with _|_|i;·simp[zyp] at h;subst h;exact ⟨_,rfl,rfl,rfl,keptR.box⟩
  ·simp[zyp] at h;subst h;exact ⟨_,rfl,rfl,rfl,keptR.box⟩
  ·simp[zyp] at h
 ·simp only[zs6,Kj,Kc];have j5:∀{nu:Nu}{cs:List Value}{n:Nat},cs.length=n->Ke (S:=Sx) un nu (λ_ _=>False) w' (junk n) cs:=by
   intro nu cs n hn;subst hn;induction cs with
   |nil=>simp[junk,Ke]|cons v cs ih=>simp only[junk,yAw,yCb,Ke,Rep];exact ⟨trivial,ih⟩
  refine ⟨⟨trivial,j5 hl0⟩,⟨trivial,j5 hl1⟩,⟨trivial,?_⟩,trivial⟩;simp only[Ke,Rep];exact ⟨trivial,trivial,trivial⟩
 ·have Qg:∀j,a'.tmps.getD j undef=a'.eval (.tmp j):=λj=>rfl;simp only[zvo] at hi;rw[Qg];cases hb0:Nat.beq 0 i with
  |true =>rw[hb0] at hi;have:=yAa hb0;subst this;simp at hi;subst hi;rw[h0];simp only[Rep,ids];exact ⟨g0,rfl,rfl⟩
  |false =>
    rw[hb0] at hi;simp only[cond_false] at hi;cases hb1:Nat.beq 1 i with
    |true =>rw[hb1] at hi;have:=yAa hb1;subst this;simp at hi;subst hi;rw[h1];simp only[Rep,ids];exact ⟨g1,rfl,rfl⟩
    |false =>
      rw[hb1] at hi;simp only[cond_false] at hi;cases hb2:Nat.beq 2 i with
      |true =>rw[hb2] at hi;have:=yAa hb2;subst this;simp at hi;subst hi;rw[h2];simp only[Rep,ids];exact ⟨w.heap.size,rfl,rfl⟩
      |false =>
        rw[hb2] at hi;simp only[cond_false] at hi;cases hb3:Nat.beq 3 i with
        |true =>rw[hb3] at hi;have:=yAa hb3;subst this;simp at hi;subst hi;rw[h3];simp only[Rep]
        |false=>rw[hb3] at hi;simp at hi
 ·cases xx with
  |normal =>
    simp only[zrX,yAf] at hk;subst hk;obtain ⟨D',H',hs',_⟩:=hH;obtain ⟨v,_,_,g1',_⟩:=zbY (fn:=Tryz.f276) (ps:=[]) zeM zmo hs' (by rw[f276_res];rfl) (rs:=[]) (t:=()) rfl;refine ⟨hs'.defers.1,_,rfl,v,g1',⟨v,rfl⟩,rfl,hs'.Kr.out,?_,?_⟩;·obtain ⟨T,cs',hH0⟩:=zng hs'.Kr (i:=0) (g:=g0) rfl;obtain ⟨r,hr1,hr2⟩:=hs'.Kg.get (i:=0) (b:= .var 200 zEx) rfl;rw[hH0] at hr1;cases hr1;simp only[Kc] at hr2;obtain ⟨rfl,hl⟩:=hr2;have:=(hs'.Kr.res _ (yAb hH0)).2;rw[zpY hl] at this;exact this
    ·obtain ⟨T,cs',hH0⟩:=zng hs'.Kr (i:=1) (g:=g1) rfl;obtain ⟨r,hr1,hr2⟩:=hs'.Kg.get (i:=1) (b:= .var 254 [.int .i64 x,.int .i64 y]) rfl;rw[hH0] at hr1;cases hr1;simp only[Kc] at hr2;obtain ⟨rfl,hl⟩:=hr2;have:=(hs'.Kr.res _ (yAb hH0)).2;rw[zpZ hl] at this;exact this
  |_=>cases hk
def znq:Ann:=⟨.lf 7 ⟨[],[],[]⟩,.leaf,[],[],[],[],[]⟩
abbrev zpM:=ElL Sx [.st 9,.st 15]⊕ElL Sx [.int .i64,.int .i64]
noncomputable def zl4(orc:Orc Sx)(s:By):Option zpM:=oc (α:=(Gt.Rd×J)×(J)) (β:=Int×Int×J) (orc.e 277 [.ptr 0 0] [293] [.st 16] ((Gt.Rd.mk s 0 (Gt.Tk.mk 0 [] 0 false) 0,()):Gt.Rd×J) [] [I6,I6] 254) (λ(r1:((Gt.Rd×J)×(J)))=>oc (α:=(Gt.Rd×J)×(Kb.Ex×J)) (β:=Int×Int×J) (orc.e 278 [.ptr 0 0] [293] [.st 16] ((r1.1.1,()):Gt.Rd×J) [.st 9] [I6,I6] 254) (λ(r2:((Gt.Rd×J)×(Kb.Ex×J)))=>zaE (σ:=J) (br ((Gt.Tk.kind (Gt.Rd.now r2.1.1)) != 0) (oc (α:=(J)×(J)) (β:=Int×Int×J) (orc.e 279 [.int .i64 (Gt.Tk.at_ (Gt.Rd.now r2.1.1)),.int .i64 6] [] [] ((()):J) [] [I6,I6] 254) (λ(_:((J)×(J)))=>some (.inl (()))) λ(p4:Int×Int×J)=>some (.inr (.inr (p4.1,p4.2.1,())))) (some (.inl (())))) λ(_:J)=>some (.inl (Kb.Ex.mk (Kb.Ex.kind r2.2.1) (Kb.Ex.name r2.2.1) (Kb.Ex.later r2.2.1) (Kb.Ex.wth r2.2.1) (Kb.Ex.kids r2.2.1),Gt.Licence_fault.mk 0 0,()))) λ(p6:Int×Int×J)=>some (.inr (p6.1,p6.2.1,()))) λ(p7:Int×Int×J)=>some (.inr (p7.1,p7.2.1,()))
noncomputable def zn0(e:Env Sx)(bx:Bxs Sx):Option zpM:=match ze6 un tb e bx Tryz.f234.results.toList with
 |some l=>(match zf4 un (zaq (zdi l) bx) [.st 9,.st 15] l with|some c=>some (.inl c)|none=>none)|none=>none
noncomputable def finR(x:Exit)(e:Env Sx)(bx:Bxs Sx):Option zpM:=match x with
 | .normal=>zn0 e bx| .ret=>zn0 e bx| .panic ch=>(match zom 254 [.int .i64,.int .i64] ch with|some p=>some (.inr p)|none=>none)|_=>none
theorem zqv(o:Orc Sx)(s:By):zhm un tb o (zoh un tb o 6) znq zlQ zpM [(3,.ptr 1 0),(2,.ptr 0 0),(0,.str s)] [.var 200 zEx,.var 254 zF] finR=zl4 o s:=by kernel_rfl
noncomputable def e234(o:Orc Sx):Entry Sx:=⟨[.str],[.st 9,.st 15],λt=>match zl4 o t.1 with
 |some (.inl c)=>some c|some (.inr p)=>some (Kb.Ex.zero,⟨p.1,p.2.1⟩,())|none=>none⟩
def fin0(x:Exit)(e:Env Sx)(bx:Bxs Sx):Option (Env Sx×Bxs Sx):=match x with | .normal=>some (e,bx)|_=>none
theorem zrZ(o:Orc Sx)(s:By):zhm un tb o (zoh un tb o 6) znq r0C (Env Sx×Bxs Sx) [(0,.str s)] [] fin0=some ([(3,.ptr 1 0),(2,.ptr 0 0),(0,.str s)],[.var 200 zEx,.var 254 zF]):=by kernel_rfl
theorem f234_n:Tryz.f234.ntmps=27:=by kernel_rfl
theorem r0_w:(zaW r0C).all (Nat.blt · 27)=true:=by kernel_rfl
theorem zsv:(zaW zlQ).all (Nat.blt · 27)=true:=by kernel_rfl
theorem ziE:(za7 znq zlQ).contains 2=false/\(za7 znq zlQ).contains 3=false:=⟨by kernel_rfl,by kernel_rfl⟩
noncomputable def zpR(i:Nat):Oper:=match r1C with | .region _ ops _=>ops[i]?.getD default|_=>default
theorem zsx:r1C= .region 1 [zpR 0,zpR 1].toArray false:=by kernel_rfl
theorem r1_0:(zpR 0).op= .makeFunc (.func 276) #[] #[.tmp 2,.tmp 3]:=by kernel_rfl
theorem r1_1:∃c:Call,(zpR 1).op= .defer c/\c.callee= .value (.tmp 5)/\c.args= #[]:=⟨⟨.value (.tmp 5),#[],#[]⟩,by kernel_rfl,by kernel_rfl,by kernel_rfl⟩
theorem r1_g:(zpR 0).guard=none/\(zpR 1).guard=none:=⟨by kernel_rfl,by kernel_rfl⟩
theorem r1_d:(zpR 0).dst=some 5/\(zpR 1).dst=none:=⟨by kernel_rfl,by kernel_rfl⟩
theorem zsO(p0 p1:Value)(w:World):(invoke (.fn (.func 276) #[p0,p1]) #[]).run prog w= .ok (.enter 276 #[p0,p1]) w:=by kernel_rfl
theorem resR(x y:Int):zn0 [(2,.ptr 0 0),(3,.ptr 1 0)] [.var 200 zEx,.var 254 [.int .i64 x,.int .i64 y]]=some (.inl (Kb.Ex.zero,⟨x,y⟩,())):=by kernel_rfl
theorem zgR{l:List Nat}{i:Nat}(h:l.contains i=false):i∉l:=by simpa using h
theorem zi7{e:Env Sx}{bx:Bxs Sx}{r:zpM}(h:zn0 e bx=some r):∃l c,ze6 un tb e bx Tryz.f234.results.toList=some l/\zf4 un (zaq (zdi l) bx) [.st 9,.st 15] l=some c/\r= .inl c:=by
 grind[zn0]
theorem hok234(o:Orc Sx)(h:K4 prog un o):Entry.Ok prog un 234 (e234 o):=by
 intro t r hr D w vs htab hD ha;obtain ⟨s,_⟩:=t
 match vs,ha with
 |[],ha=>grind[e234,zbQ,Ke]|_::_::_,ha=>grind[e234,zbQ,Ke]|[v],ha =>
 have ha':Ke (S:=Sx) un [] D w [.str s] [v]:=ha;have Kt:=zbC mixed zeM zmo h 6;refine calls_of_wp_defers func234 zr6 ?_;rw[f234_n];have hst:=zlO (n:=27) hD ha' (by simp) htab;refine wp_seq (zfm (E:=⟨w,[],[]⟩) (D0:=D) (N:=⟨27,[]⟩) mixed zeM zmo h Kt _ _ _ _ _ _ (zrZ o s) (λd hdd=>by have:=yAM.1 r0_w d hdd;simpa[yAN] using this) hst λx e bx hk _ _ a1 w1 hH=>?_);have hx:x= .normal:=by cases x<;>first|rfl|cases hk
 subst hx;simp only[fin0,yAf,Prod.mk.injEq] at hk;obtain ⟨rfl,rfl⟩:=hk;show (Code.seq r1C zlQ).wp _ _ a1 w1;obtain ⟨D1,H1,st1,hD1,_⟩:=hH;obtain ⟨b0,hb0,hb0'⟩:=st1.Kg.get (i:=0) (b:= .var 200 zEx) rfl;obtain ⟨b1,hb1,hb1'⟩:=st1.Kg.get (i:=1) (b:= .var 254 zF) rfl;have hres0:=st1.Kr.res _ (yAb hb0);have hres1:=st1.Kr.res _ (yAb hb1);obtain ⟨g0,cs0,rfl,hl0⟩:=zol hb0' (by decide);obtain ⟨g1,cs1,rfl,hl1⟩:=zol hb1' (by decide);have hge0:w.heap.size<=g0:=by rcases hres0.1 with h1|h1;exact h1;simp at h1
 have hge1:w.heap.size<=g1:=by rcases hres1.1 with h1|h1;exact h1;simp at h1
 have hne:g0≠g1:=λhe=>by have:=zaK st1.Kr.disj hb0 hb1 (g:=g0) rfl (by rw[he];rfl);omega
 have hHl:H1=[.box g0 200 cs0,.box g1 254 cs1]:=by
  have Ku:=st1.Kg.length
  match H1,hb0,hb1,Ku with
  |[x,y],hb0,hb1,_=>simp at hb0 hb1;rw[hb0,hb1]|[],hb0,_,_=>simp at hb0|[_],_,hb1,_=>simp at hb1|_::_::_::_,_,_,Ku=>simp at Ku
 have hv2:a1.tmps.getD 2 undef= .pointer (some ⟨g0,0,none⟩):=by have:=st1.slots 2 (.ptr 0 0) rfl;simp only[Rep,ids,yAh,hb0,yAg,zal,yAf,Prod.mk.injEq,true_and] at this;obtain ⟨g,h1,h2⟩:=this;simp at h1;subst h1;exact h2
 have hv3:a1.tmps.getD 3 undef= .pointer (some ⟨g1,0,none⟩):=by have:=st1.slots 3 (.ptr 1 0) rfl;simp only[Rep,ids,yAh,hb1,yAg,zal,yAf,Prod.mk.injEq,true_and] at this;obtain ⟨g,h1,h2⟩:=this;simp at h1;subst h1;exact h2
 refine wp_seq ?_;rw[zsx];refine wp_region_lit (wpList_plain r1_g.1 λK hK=>?_);have hrun0:(execOp a1.eval (zpR 0)).run prog w1= .ok (.value (.func (.func 276) #[] #[.pointer (some ⟨g0,0,none⟩),.pointer (some ⟨g1,0,none⟩)])) w1:=by have e2:a1.eval (.tmp 2)= .pointer (some ⟨g0,0,none⟩):=hv2;have e3:a1.eval (.tmp 3)= .pointer (some ⟨g1,0,none⟩):=hv3;simp only[execOp,r1_0];simp[e2,e3];rfl
 unfold Oper.wp;rw[hrun0];refine hK _ _ (wpList_plain r1_g.2 λK' hK'=>?_);rw[r1_d.1];obtain ⟨c,hc1,hc2,hc3⟩:=r1_1;have hrun1:(execOp (a1.put (some 5) (.func (.func 276) #[] #[.pointer (some ⟨g0,0,none⟩),.pointer (some ⟨g1,0,none⟩)])).eval (zpR 1)).run prog w1= .ok (.defer ⟨.fn (.func 276) #[.pointer (some ⟨g0,0,none⟩),.pointer (some ⟨g1,0,none⟩)],#[]⟩) w1:=by have e5:(a1.put (some 5) (.func (.func 276) #[] #[.pointer (some ⟨g0,0,none⟩),.pointer (some ⟨g1,0,none⟩)])).eval (.tmp 5)= .func (.func 276) #[] #[.pointer (some ⟨g0,0,none⟩),.pointer (some ⟨g1,0,none⟩)]:=zcs (by have:a1.tmps.size=27:=st1.size;omega);simp[execOp,hc1,resolve,hc2,hc3,e5,Deferred.ofValue]
 unfold Oper.wp;rw[hrun1];refine hK' _ _ (wpList_nil ?_);rw[r1_d.2];show zlQ.wp _ _ _ w1
 -- the rest,the two blocks as if they were lent
 have hst2:Holds un ⟨w1,[g0,g1],[.pointer (some ⟨g0,0,none⟩),.pointer (some ⟨g1,0,none⟩)]⟩ D1 ⟨27,[⟨.fn (.func 276) #[.pointer (some ⟨g0,0,none⟩),.pointer (some ⟨g1,0,none⟩)],#[]⟩]⟩ [(3,.ptr 1 0),(2,.ptr 0 0),(0,.str s)] [.var 200 zEx,.var 254 zF]
   ({ a1.put (some 5) (.func (.func 276) #[] #[.pointer (some ⟨g0,0,none⟩),.pointer (some ⟨g1,0,none⟩)]) with defers:=⟨.fn (.func 276) #[.pointer (some ⟨g0,0,none⟩),.pointer (some ⟨g1,0,none⟩)],#[]⟩::(a1.put (some 5) (.func (.func 276) #[] #[.pointer (some ⟨g0,0,none⟩),.pointer (some ⟨g1,0,none⟩)])).defers }.put none undef) w1:=by
  refine ⟨D1,H1,⟨⟨Wl.Grow.refl _ _,st1.Kr.lt,λr hr=>?_,st1.Kr.apart,st1.Kr.disj,λi g hi=>?_⟩,?_,?_,?_,λi p hi=>?_⟩,λk o hk=>.inl hk,Ge.refl _ _⟩
  ·rw[hHl] at hr;simp only[yAm,yAX,or_false] at hr;rcases hr with rfl|rfl;·exact ⟨.inr (by simp),hres0.2⟩
   ·exact ⟨.inr (by simp),hres1.2⟩
  ·rw[hHl];rcases i with _|_|i;·simp[zyp] at hi;subst hi;exact ⟨_,rfl,rfl,rfl,keptR.box⟩
   ·simp[zyp] at hi;subst hi;exact ⟨_,rfl,rfl,rfl,keptR.box⟩
   ·simp[zyp] at hi
  ·simp[Act.put,st1.size]
  ·exact ⟨by simp[Act.put,st1.defers.1],zw7⟩
  ·rw[hHl];simp only[Kj,Kc];have:ids H1=ids [.box g0 200 cs0,.box g1 254 cs1]:=by rw[hHl]
   rw[this] at hl0 hl1;exact ⟨⟨trivial,hl0⟩,⟨trivial,hl1⟩,trivial⟩
  ·have hi5:5≠i:=λh5=>(by subst h5;cases hi);have:=st1.slots i p hi;simpa[Act.put,yAv,hi5] using this
 have hsp:(match zl4 o s with
  |some (.inl c)=>some c|some (.inr p)=>some (Kb.Ex.zero,⟨p.1,p.2.1⟩,())|none=>none)=some r:=hr
 cases hm:zl4 o s with
 |none=>rw[hm] at hsp;cases hsp|some res =>
 rw[hm] at hsp;refine zfm (N:=⟨27,_⟩) mixed zeM zmo h Kt _ _ _ _ _ _ ((zqv o s).trans hm) (λd hdd=>by have:=yAM.1 zsv d hdd;simpa[yAN] using this) hst2 λx e' bx' hk hp hpb a3 w3 hH3=>?_;obtain ⟨D3,H3,st3,hD3,_⟩:=hH3;have hg1:=st1.Kr.out;have hg3:=st3.Kr.out;have below:∀w4,Wl.Grow [g0,g1] w3 w4->Below w.heap.size w w4:=λw4 hg4=>by
  refine ⟨hg4.os.trans (hg3.os.trans hg1.os),hg4.tape.trans (hg3.tape.trans hg1.tape),hg4.output.trans (hg3.output.trans hg1.output),yAo hg1.size (yAo hg3.size hg4.size),λk hk=>?_⟩;have hk0:k∉[g0,g1]:=by simp;omega
  have s1:k<w1.heap.size:=yAq hk hg1.size;rw[hg4.block k (yAq s1 hg3.size) hk0,hg3.block k s1 hk0,hg1.block k hk (by simp)]
 have normal:zn0 e' bx'=some res->Leaves prog Tryz.f234 a3.tmps (λx w'=>∃v,x= .returned v/\Below w.heap.size w w'/\Rep un [] (zkU D w w') w' (zfI (zbQ (e234 o).rs r)) v) a3.defers .returning w3:=by
  intro hf;obtain ⟨l,c,hl,hc,rfl⟩:=zi7 hf;cases hsp;rw[st3.defers.1];refine leaves_cons (by simp) (zsO _ _ w3) ((zr4 h _ _ w3).mono ?_)
  rintro e4 u' w4 ⟨⟨v4,rfl⟩,rfl,hb4⟩
  show ∃v,(results Tryz.f234 a3.tmps).run prog w4= .ok v w4/\_;have hin4:=st3.Kr.below hb4;have hge4:=Ge.below st3.Kr hb4;have st4:St un ⟨w1,[g0,g1],[.pointer (some ⟨g0,0,none⟩),.pointer (some ⟨g1,0,none⟩)]⟩ ⟨27,_⟩ (zkU D3 w3 w4) H3 e' bx' a3 w4:=⟨hin4,st3.size,st3.defers,st3.Kg.mono hge4 (zas st3.Kr.out hin4.out) λ_ _ h=>h,λi q hi=>(st3.slots i q hi).ge hge4 λ_ _ h=>h⟩;obtain ⟨v,D5,H5,k1,k2,st5,_,_,hup⟩:=zbY (fn:=Tryz.f234) zeM zmo st4 hl hc;refine ⟨v,k1,v,rfl,below w4 (Wl.Grow.of_below hb4),k2.ge ⟨λk o hk5=>?_,λ_ _ _=>rfl,λ_ _ _ _ _ h=>h⟩ λ_ _ h=>h⟩;rcases hup k o hk5 with hk|hk
  rotate_left
  ·exact .inr ⟨hk.elim (λh=>yAo hg1.size h) (λh=>by simp at h;rcases h with rfl|rfl<;>omega),st5.Kr.lt k o hk5⟩
  rcases hk with hk|hk
  ·rcases hD3 k o hk with h1|h1
   ·rcases hD1 k o h1 with h2|h2;·exact .inl h2
    ·exact .inr ⟨h2.elim id (λh=>by simp at h),yAq (st3.Kr.lt k o hk) hb4.size⟩
   ·exact .inr ⟨h1.elim (λh=>yAo hg1.size h) (λh=>by simp at h;rcases h with rfl|rfl<;>omega),yAq (st3.Kr.lt k o hk) hb4.size⟩
  ·exact .inr ⟨yAo hg1.size (yAo hg3.size hk.1),hk.2⟩
 cases x with
 |normal=>exact normal hk|ret=>exact normal hk|panic ch =>
   simp only[finR] at hk;split at hk
   ·rename_i p hp49;cases hk;cases hsp;have hch:=zjq hp49;subst hch;show Leaves prog Tryz.f234 a3.tmps _ a3.defers (.panicking _) w3;rw[st3.defers.1];have hl2:zvo e' 2=some (.ptr 0 0):=hp 2 _ (zgR ziE.1) rfl rfl;have hl3:zvo e' 3=some (.ptr 1 0):=hp 3 _ (zgR ziE.2) rfl rfl;obtain ⟨T3,cs3,hH30⟩:=zng st3.Kr (i:=0) (g:=g0) rfl;obtain ⟨T4,cs4,hH31⟩:=zng st3.Kr (i:=1) (g:=g1) rfl;obtain ⟨c0',hbx0,hlen0⟩:=hpb.var 0 200 zEx rfl;obtain ⟨c1',hbx1,hlen1⟩:=hpb.var 1 254 zF rfl;obtain ⟨r0,hr0,hr0'⟩:=st3.Kg.get hbx0;obtain ⟨r1,hr1,hr1'⟩:=st3.Kg.get hbx1;rw[hH30] at hr0;cases hr0;rw[hH31] at hr1;cases hr1;simp only[Kc] at hr0' hr1';obtain ⟨rfl,hq0⟩:=hr0';obtain ⟨rfl,hq1⟩:=hr1';have hp0:=(st3.Kr.res _ (yAb hH30)).2;have hp1:=(st3.Kr.res _ (yAb hH31)).2;refine leaves_cons (by simp) (zsO _ _ w3) ((zqS h g0 g1 p.1 p.2.1 w3 cs3 cs4 hp0 hp1 (by rw[<-hq0.length,hlen0];rfl) (by rw[<-hq1.length,hlen1];rfl) hne).mono ?_)
    rintro e4 u' w4 ⟨⟨v4,rfl⟩,hu',hg4,hh0,hh1⟩
    show Leaves prog Tryz.f234 a3.tmps _ [] (settle u') w4;rw[hu'];obtain ⟨l,c,hl,hc,hcr⟩:=zi7 (resR p.1 p.2.1);cases hcr;have st4:St un ⟨w4,[g0,g1],[.pointer (some ⟨g0,0,none⟩),.pointer (some ⟨g1,0,none⟩)]⟩ ⟨27,a3.defers⟩ (λ_ _=>False) [.box g0 200 zExV.toList,.box g1 254 [.int .i64 p.1,.int .i64 p.2.1]] [(2,.ptr 0 0),(3,.ptr 1 0)] [.var 200 zEx,.var 254 [.int .i64 p.1,.int .i64 p.2.1]] a3 w4:=by
     refine ⟨⟨Wl.Grow.refl _ _,λ_ _ h=>h.elim,λr hr=>?_,λr hr g hg o' _ h=>h.elim,?_,λi g hi=>?_⟩,st3.size,⟨rfl,zw7⟩,?_,λi q hi=>?_⟩
     ·simp only[yAm,yAX,or_false] at hr;rcases hr with rfl|rfl;·exact ⟨.inr (by simp),by simpa using hh0⟩
      ·exact ⟨.inr (by simp),hh1⟩
     ·refine yBU.2 ⟨λr hr g h1' h2'=>?_,yBs _ _⟩;simp only[yAm,yAX,or_false] at hr;subst hr;simp[Wl.Res.has] at h1' h2';omega
     ·rcases i with _|_|i;·simp[zyp] at hi;subst hi;exact ⟨_,rfl,rfl,rfl,keptR.box⟩
      ·simp[zyp] at hi;subst hi;exact ⟨_,rfl,rfl,rfl,keptR.box⟩
      ·simp[zyp] at hi
     ·simp only[Kj,Kc,zEx,zExV,Ke,Rep,List.toArray];exact ⟨⟨trivial,trivial,trivial,trivial,trivial,trivial,trivial⟩,⟨trivial,trivial,trivial,trivial⟩,trivial⟩
     ·have q2:=st3.slots 2 _ hl2;have q3:=st3.slots 3 _ hl3;simp only[Rep,ids,yAh,hH30,hH31,yAg,zal,yAf,Prod.mk.injEq,true_and] at q2 q3;obtain ⟨x0,y0,z0⟩:=q2;obtain ⟨x1,y1,z1⟩:=q3;simp at y0 y1;subst y0;subst y1;simp only[zvo] at hi;cases hb2:Nat.beq 2 i with
      |true =>rw[hb2] at hi;have:=yAa hb2;subst this;simp at hi;subst hi;simp only[Rep,ids];exact ⟨g0,rfl,z0⟩
      |false =>
        rw[hb2] at hi;simp only[cond_false] at hi;cases hb3:Nat.beq 3 i with
        |true =>rw[hb3] at hi;have:=yAa hb3;subst this;simp at hi;subst hi;simp only[Rep,ids];exact ⟨g1,rfl,z1⟩
        |false=>rw[hb3] at hi;simp at hi
    obtain ⟨v,D5,H5,k1,k2,st5,_,_,hup⟩:=zbY (fn:=Tryz.f234) zeM zmo st4 hl hc;refine ⟨v,k1,v,rfl,below w4 hg4,k2.ge ⟨λk o hk5=>?_,λ_ _ _=>rfl,λ_ _ _ _ _ h=>h⟩ λ_ _ h=>h⟩;rcases hup k o hk5 with hk|hk;·exact hk.elim
    ·exact .inr ⟨hk.elim (λh=>yAo hg1.size (yAo hg3.size (yAo hg4.size h))) (λh=>by simp at h;rcases h with rfl|rfl<;>omega),st5.Kr.lt k o hk5⟩
   ·cases hk
 |exit i=>cases hk|goto l=>cases hk|outgrown=>cases hk
end Pe.Tryz
end
section
namespace Pe
open Go.Shelf Go.RowKit Go.Lib Go
variable{P:Program}{ρ:Ren}
set_option maxHeartbeats 2000000 in
theorem zt9(L:Go.Proofs.SlLaysE0.n41 P ρ)(i0:TypeInfo)(z:Value)(size bytes:Nat)(hi:P.info? (ρ.t 23)=some i0)(hz0:i0.zero=some z)(hz1:i0.size=size)(hz2:i0.bytes=bytes)(hzs:z.cells.size=size)(hsz:0<size)
  (z23:∀w,(Go.sizeOf (ρ.t 23)).run P w= .ok size w) (ad:Addr) (n c:Nat) (news:List Value) (w:World) (hl:news.length=n*size) (hn:n<=maxLen) (hbig:n*bytes<=140737488355328)
  (hc:∀j u,news[j]?=some u->w.cell? (ad.add j)=some u) (h1:∀u∈news,u.oneCell'=true) :
  Calls P (ρ.f 41) #[.slice (some ad) n c] w λe w'=>∃v',e= .returned v'/\w'.ownsRow w.heap.size (ρ.t 23) size v' n news/\Below w.heap.size w w':=by
 have mixed:=L.mixed;have t4:=L.t4;have a4:=L.a4;have z4:=L.z4;have v4:=L.v4;have t22:=L.t22;have a22:=L.a22;have z22:=L.z22;have v22:=L.v22;have q22:∀(w:World)(a:Option Addr)(n c n' c':Nat),(binOp .eql (ρ.t 22) (.slice a n c) (.slice none n' c')).run P w= .ok (.bool a.isNone) w:=λw a n c n' c'=>Lib.run_eql_slice_nil w _ _ a n c n' c' L.t22;have u22:∀w,Sem.run P (underlying (ρ.t 22)) w= .ok (TypeDesc.slice (ρ.t 23)) w:=run_underlying t22;have A:Aside (∀j u,news[j]?=some u->w.cell? (ad.add j)=some u):=hc;clear hc;obtain ⟨_,_,FG⟩:=L.f41
 go_enter FG,Go.Proofs.SlBodyN.n41_ntmps ρ
 go_wp2_with (at_builtin;refine wpList_append_own _ rfl _ _ (ρ.t 22) rfl w.heap.size (ρ.t 23) i0 z size bytes t22 hi hz0 hz1 hz2 hzs hsz _ _ _ rfl (World.ownsRow_made w #[] 0 (yAi _) (yAA _) (by simp)) ad n c news rfl ?qc1 ?qc2 ?qc3 ?qc4 ?qc5 ?qc6 ?_)
 case qc1=>exact hl
 case qc2=>grind[cell?_alloc_some,Aside.out]
 case qc3=>exact h1
 case qc4=>simp_all
 case qc5=>simp_all
 case qc6=>simp
 intro v' w1 K5 hgrow hnil
 go_wp2
 go_ret
 refine ⟨v',rfl,by grind,?_⟩;exact ((Below.refl _ w).alloc (yAi _) _).grown hgrow (by simp) (by grind[Value.ownBlock])
section
variable{S:Nat->Type}{un:Uni S}
theorem zuQ{D:Dat}{w w':World}(hD:∀k o,D k o->k<w.heap.size)(hb:Below w.heap.size w w'):Ge D w (zkU D w w') w' :=
 Ge.of (λ_ _ h=>.inl h) λk o h=>hb.block k (hD k o h)
noncomputable def clE(S:Nat->Type)(u:U):Entry S:=⟨[.sl u],[.sl u],λt=>bif Nat.ble (List.length (α:=El S u) t.1) 1000000000 then some (t.1,()) else none⟩
theorem zuD(L:Go.Proofs.SlLaysE0.n41 P ρ)(Kq:Kx un){u:U}(hE:ElOk P un (ρ.t 23) u)(hu:0<U.size un u)(z23:∀w,(Go.sizeOf (ρ.t 23)).run P w= .ok (U.size un u) w):Entry.Ok P un (ρ.f 41) (clE S u):=by
 intro t r h D w vs _ hD ha;obtain ⟨h1,h2⟩:=zae h;cases h2;simp only[yAK] at h1
 match vs,ha with
 |[v],ha =>
   simp only[clE,zbQ,Ke,inj] at ha;obtain ⟨A,c,news,rfl,g1,g2,g3,g4,g5⟩:=zkf Kq.flat ha.1;cases A with
   |none =>
     have hl:=g2 rfl;refine (Go.Proofs.AnyE.slices_Clone_nil L _ c w).mono ?_
     rintro x w' ⟨rfl,rfl⟩
     refine ⟨_,rfl,Below.refl _ _,?_⟩;simp only[clE,zbQ,zfI,inj,Rep];exact .sl0 none 0 hl .nil
   |some ad =>
     obtain ⟨inf,z,e1,e2,e3,e4,e5,e6⟩:=hE.info;have Ku:List.length (α:=El S u) t.1<=1000000000:=h1;have hb:List.length (α:=El S u) t.1*inf.bytes<=140737488355328:=by have:List.length (α:=El S u) t.1*inf.bytes<=1000000000*32768:=yCi Ku e6;omega
     refine (zt9 L inf z (U.size un u) inf.bytes e1 e2 e3 rfl e4 e5 z23 ad _ c news w g1 (yAo Ku (by decide)) hb (g3 ad rfl) g5).mono ?_
     rintro x w' ⟨v',rfl,K5,hbl⟩
     refine ⟨v',rfl,hbl,?_⟩;simp only[clE,zbQ,zfI,inj,Rep];have K2:=zuQ hD hbl;rcases K5.2 with ⟨rfl,hn⟩|⟨g,cap,cur,rfl,hbg,hg,hnc,hcm,hcs,htk⟩;·exact .sl0 none 0 (yAU.1 hn) .nil
     ·refine .sl g 0 cap (λi=>(news.drop (i*U.size un u)).take (U.size un u)) hnc (λi x hi j v hj=>?_) (λi x hi=>(g4 i x hi).mono K2) .nil;have hgl:g<w'.heap.size:=(yAE.1 hg).1;rw[yAD] at hj;split at hj;·rw[yAu] at hj;have hc:=K5.cells (g:=g) rfl _ v hj;rw[Addr.add_lit] at hc;exact ⟨.inr ⟨hbg,hgl⟩,by simpa[yAJ] using hc⟩
      ·cases hj
 |[],ha=>simp[clE,zbQ,Ke] at ha|_::_::_,ha=>simp[clE,zbQ,Ke] at ha
end
end Pe
end
section
namespace Pe.Tryz
open Go Go.Proofs Pe Go.RowKit Go.Shelf
theorem zvn:ElOk prog un 153 (.st 10):=by obtain ⟨T,u,h1,h2,h3⟩:=(row33 _ rfl).slice rfl;cases yAS (h2.symm.trans underlying33);grind
theorem elDig:ElOk prog un 98 (.st 6):=by obtain ⟨T,u,h1,h2,h3⟩:=(row36 _ rfl).slice rfl;cases yAS (h2.symm.trans underlying36);grind
theorem elStr:ElOk prog un 9 .str:=by obtain ⟨T,u,h1,h2,h3⟩:=(row26 _ rfl).slice rfl;cases yAS (h2.symm.trans underlying26);grind
def zvg:Go.Shelf.Ren:=⟨fun|41=>111|n=>n,fun|22=>33|23=>153|n=>n,λn=>n⟩
def zvf:Go.Shelf.Ren:=⟨fun|41=>112|n=>n,fun|22=>36|23=>98|n=>n,λn=>n⟩
def zve:Go.Shelf.Ren:=⟨fun|41=>113|n=>n,fun|22=>26|23=>9|n=>n,λn=>n⟩
theorem zu7:SlLaysE0.n41 prog zvg:={ mixed:=mixed,f41:=⟨Tryz.f111.name,by decide,func111.trans (congrArg some (by kernel_rfl))⟩,t4:=underlying4,a4:=isAgg4,z4:=sizeOf4,v4:=zeroValue4,t22:=underlying33,a22:=isAgg33,z22:=sizeOf33,v22:=zeroValue33 }
theorem zu6:SlLaysE0.n41 prog zvf:={ mixed:=mixed,f41:=⟨Tryz.f112.name,by decide,func112.trans (congrArg some (by kernel_rfl))⟩,t4:=underlying4,a4:=isAgg4,z4:=sizeOf4,v4:=zeroValue4,t22:=underlying36,a22:=isAgg36,z22:=sizeOf36,v22:=zeroValue36 }
theorem zu5:SlLaysE0.n41 prog zve:={ mixed:=mixed,f41:=⟨Tryz.f113.name,by decide,func113.trans (congrArg some (by kernel_rfl))⟩,t4:=underlying4,a4:=isAgg4,z4:=sizeOf4,v4:=zeroValue4,t22:=underlying26,a22:=isAgg26,z22:=sizeOf26,v22:=zeroValue26 }
noncomputable def e111(_:Orc Sx):Entry Sx:=clE Sx (.st 10)
noncomputable def e112(_:Orc Sx):Entry Sx:=clE Sx (.st 6)
noncomputable def e113(_:Orc Sx):Entry Sx:=clE Sx .str
theorem hok111(o:Orc Sx)(_:K4 prog un o):Entry.Ok prog un 111 (e111 o):=zuD zu7 zeM zvn (by rw[show U.size un (.st 10)=2 by kernel_rfl];omega) λw=>by rw[show U.size un (.st 10)=2 by kernel_rfl];exact sizeOf153 w
theorem hok112(o:Orc Sx)(_:K4 prog un o):Entry.Ok prog un 112 (e112 o):=zuD zu6 zeM elDig (by rw[show U.size un (.st 6)=2 by kernel_rfl];omega) λw=>by rw[show U.size un (.st 6)=2 by kernel_rfl];exact sizeOf98 w
theorem hok113(o:Orc Sx)(_:K4 prog un o):Entry.Ok prog un 113 (e113 o):=zuD zu5 zeM elStr (by grind[U.size]) λw=>by rw[show U.size un .str=1 by kernel_rfl];exact sizeOf9 w
end Pe.Tryz
end
section
namespace Pe.Tryz
open Go Go.Proofs Pe
noncomputable def tabN(o:Orc Sx):Tr (Entry Sx):=.node (.node (.node (.node (.node (.node (.lf 8 (e8 o)) 14 ⟨[.st 3,.str,I6],[LS,I6],λt=>m14 o t.1 t.2.1 t.2.2.1⟩ (.lf 18 ⟨[LS,LS],[.bool],λt=>m18 o t.1 t.2.1⟩)) 19 ⟨[],[.bool],λ_=>m19 o ⟩ (.node (.lf 26 ⟨[.st 5,.st 5],[.bool],λt=>m26 o t.1 t.2.1⟩) 31 ⟨[.sl LS,.sl LS],[.bool],λt=>m31 o t.1 t.2.1⟩ (.lf 34 (e34 o)))) 35 (e35 o) (.node (.node (.lf 36 (e36 o)) 37 (e37 o) (.lf 38 ⟨[.st 3,.st 3],[.bool],λt=>m38 o t.1 t.2.1⟩)) 39 ⟨[.st 3,I6],[LS,I6],λt=>m39 o t.1 t.2.1⟩ (.node (.lf 40 ⟨[.st 3],[I6],λt=>m40 o t.1⟩) 54 ⟨[.st 3],[I6],λt=>m54 o t.1⟩ .leaf))) 55 ⟨[.sl (.st 7),.sl (.st 7)],[.bool],λt=>m55 o t.1 t.2.1⟩ (.node (.node (.node (.lf 56 ⟨[.st 3,.str,I6],[.st 14,I6,I6],λt=>m56 o t.1 t.2.1 t.2.2.1⟩) 57 ⟨[.st 14,I6],[LI],λt=>m57 o t.1 t.2.1⟩ (.lf 58 ⟨[.sl LI,I6,I6],[LI],λt=>m58 o t.1 t.2.1 t.2.2.1⟩)) 59 ⟨[.st 14,LI],[LS],λt=>m59 o t.1 t.2.1⟩ (.node (.lf 60 (e60 o)) 61 ⟨[.st 19,I6,I6],[.sl .bool],λt=>m61 o t.1 t.2.1 t.2.2.1⟩ .leaf)) 62 ⟨[.st 3,.str],[I6],λt=>m62 o t.1 t.2.1⟩ (.node (.node (.lf 63 ⟨[.st 3,I6,LS],[I6],λt=>m63 o t.1 t.2.1 t.2.2.1⟩) 66 ⟨[.str],[.st 5],λt=>m66 o t.1⟩ (.lf 67 (e67 o))) 68 ⟨[.st 5],[.st 5],λt=>m68 o t.1⟩ (.node (.lf 69 ⟨[LS,LS],[.bool],λt=>m69 o t.1 t.2.1⟩) 70 ⟨[.st 11,.st 11],[.bool],λt=>m70 o t.1 t.2.1⟩ .leaf)))) 75 ⟨[LI],[LI],λt=>m75 o t.1⟩ (.node (.node (.node (.node (.lf 76 ⟨[.st 11],[.str,I6],λt=>m76 o t.1⟩) 77 ⟨[.st 11],[.str,I6],λt=>m77 o t.1⟩ (.lf 79 ⟨[.st 3,I6],[.st 14,I6],λt=>m79 o t.1 t.2.1⟩)) 88 ⟨[.st 7,.st 7],[I6],λt=>m88 o t.1 t.2.1⟩ (.node (.lf 100 ⟨[.st 7,.st 7],[I6],λt=>m100 o t.1 t.2.1⟩) 102 ⟨[.st 3,.bool],[I6],λt=>m102 o t.1 t.2.1⟩ (.lf 109 ⟨[.st 5,.str],[I6],λt=>m109 o t.1 t.2.1⟩))) 110 ⟨[.str,.str],[I6],λt=>m110 o t.1 t.2.1⟩ (.node (.node (.lf 111 (e111 o)) 112 (e112 o) (.lf 113 (e113 o))) 117 ⟨[.st 11],[I6],λt=>m117 o t.1⟩ (.node (.lf 118 ⟨[.st 11],[.str],λt=>m118 o t.1⟩) 119 ⟨[.st 11],[.st 11],λt=>m119 o t.1⟩ .leaf))) 120 ⟨[.st 11],[I6],λt=>m120 o t.1⟩ (.node (.node (.node (.lf 121 ⟨[.st 11],[.str],λt=>m121 o t.1⟩) 122 ⟨[.st 3,I6],[.st 14],λt=>m122 o t.1 t.2.1⟩ (.lf 123 ⟨[.str],[.bool],λt=>m123 o t.1⟩)) 134 ⟨[.str,.str],[I6],λt=>m134 o t.1 t.2.1⟩ (.node (.lf 138 ⟨[I6,I6],[I6],λt=>m138 o t.1 t.2.1⟩) 142 ⟨[LI],[I6],λt=>m142 o t.1⟩ .leaf)) 143 ⟨[.str],[.bool],λt=>m143 o t.1⟩ (.node (.node (.lf 144 ⟨[.st 5,.bool],[I6],λt=>m144 o t.1 t.2.1⟩) 147 ⟨[.str],[.bool],λt=>m147 o t.1⟩ (.lf 149 ⟨[.str],[.st 8,I6],λt=>m149 o t.1⟩)) 150 ⟨[.st 11],[.bool],λt=>m150 o t.1⟩ (.node (.lf 151 ⟨[LS,.bool],[.bool],λt=>m151 o t.1 t.2.1⟩) 152 ⟨[.str],[LS],λt=>m152 o t.1⟩ .leaf))))) 153 (e153 o) (.node (.node (.node (.node (.node (.lf 154 ⟨[.sl (.st 10)],[I6],λt=>m154 o t.1⟩) 155 ⟨[.str],[.bool],λt=>m155 o t.1⟩ (.lf 156 ⟨[.str],[.str],λt=>m156 o t.1⟩)) 157 ⟨[.str],[.str],λt=>m157 o t.1⟩ (.node (.lf 158 ⟨[.str],[.str],λt=>m158 o t.1⟩) 159 ⟨[.str],[.str],λt=>m159 o t.1⟩ (.lf 160 ⟨[.str],[.st 8,I6],λt=>m160 o t.1⟩))) 161 ⟨[LS],[.bool],λt=>m161 o t.1⟩ (.node (.node (.lf 162 ⟨[.str,.bool],[.bool],λt=>m162 o t.1 t.2.1⟩) 163 (e163 o) (.lf 164 ⟨[.str],[.bool],λt=>m164 o t.1⟩)) 165 ⟨[.str],[.bool],λt=>m165 o t.1⟩ (.node (.lf 166 ⟨[.st 11],[.st 11],λt=>m166 o t.1⟩) 167 ⟨[.st 11],[.str],λt=>m167 o t.1⟩ .leaf))) 169 ⟨[.str,I6],[.bool],λt=>m169 o t.1 t.2.1⟩ (.node (.node (.node (.lf 170 ⟨[.sl (.st 6)],[I6],λt=>m170 o t.1⟩) 171 ⟨[.str],[.st 9,I6,I6],λt=>m171 o t.1⟩ (.lf 191 ⟨[I6],[.bool],λt=>m191 o t.1⟩)) 211 ⟨[.str,I6,I6],[.bool],λt=>m211 o t.1 t.2.1 t.2.2.1⟩ (.node (.lf 212 ⟨[.sl (.st 6)],[I6],λt=>m212 o t.1⟩) 213 ⟨[.str],[.st 9,I6,I6],λt=>m213 o t.1⟩ .leaf)) 214 ⟨[.str],[I6],λt=>m214 o t.1⟩ (.node (.node (.lf 215 ⟨[],[.st 2],λ_=>m215 o ⟩) 216 (e216 o) (.lf 218 ⟨[.str],[.bool],λt=>m218 o t.1⟩)) 219 (e219 o) (.node (.lf 220 ⟨[.int .u8],[.bool],λt=>m220 o t.1⟩) 224 ⟨[.int .u8],[.bool],λt=>m224 o t.1⟩ .leaf)))) 225 ⟨[.str],[I6],λt=>m225 o t.1⟩ (.node (.node (.node (.node (.lf 226 ⟨[],[.sl (.st 8)],λ_=>m226 o ⟩) 227 ⟨[.str],[LS],λt=>m227 o t.1⟩ (.lf 229 ⟨[.str],[.str],λt=>m229 o t.1⟩)) 230 ⟨[.str],[.str],λt=>m230 o t.1⟩ (.node (.lf 231 ⟨[.str],[.str],λt=>m231 o t.1⟩) 232 ⟨[.str],[.str],λt=>m232 o t.1⟩ (.lf 233 ⟨[.str,I6],[.bool],λt=>m233 o t.1 t.2.1⟩))) 234 (e234 o) (.node (.node (.lf 235 ⟨[.st 9],[I6],λt=>m235 o t.1⟩) 262 ⟨[.str,I6],[.bool],λt=>m262 o t.1 t.2.1⟩ (.lf 266 ⟨[.st 9],[I6],λt=>m266 o t.1⟩)) 269 ⟨[.int .u8,.bool],[.bool],λt=>m269 o t.1 t.2.1⟩ (.node (.lf 272 ⟨[],[LS],λ_=>m272 o ⟩) 274 ⟨[.int .u8],[.bool],λt=>m274 o t.1⟩ .leaf))) 275 ⟨[.int .u8],[I6],λt=>m275 o t.1⟩ (.node (.node (.node (.lf 280 ⟨[.st 9,I6],[I6,I6],λt=>m280 o t.1 t.2.1⟩) 281 ⟨[.st 9],[I6],λt=>m281 o t.1⟩ (.lf 293 ⟨[.st 9,I6],[I6],λt=>m293 o t.1 t.2.1⟩)) 294 ⟨[.st 9],[I6],λt=>m294 o t.1⟩ (.node (.lf 295 ⟨[.st 9],[I6],λt=>m295 o t.1⟩) 303 ⟨[.int .u8],[.bool],λt=>m303 o t.1⟩ .leaf)) 304 ⟨[.str],[.bool],λt=>m304 o t.1⟩ (.node (.node (.lf 305 (e305 o)) 306 ⟨[.str],[.bool],λt=>m306 o t.1⟩ (.lf 315 ⟨[.str],[.str],λt=>m315 o t.1⟩)) 316 ⟨[.st 9],[I6],λt=>m316 o t.1⟩ (.node (.lf 326 ⟨[.str],[.bool],λt=>m326 o t.1⟩) 327 ⟨[.int .u8],[.bool],λt=>m327 o t.1⟩ .leaf)))))
noncomputable def tabE(o:Orc Sx):Tr (EntryE Sx):=.node (.node (.node (.lf 263 ⟨1,[I6,I6],[280],[.st 18],[.st 9],[],0,λc t=>m263 o c t.1 t.2.1⟩) 264 ⟨1,[],[280],[.st 18],[],[],0,λc _=>m264 o c ⟩ (.lf 265 ⟨1,[I6,I6],[280],[.st 18],[],[],0,λc t=>m265 o c t.1 t.2.1⟩)) 277 ⟨1,[],[293],[.st 16],[],[I6,I6],254,λc _=>m277 o c ⟩ (.node (.lf 278 ⟨1,[],[293],[.st 16],[.st 9],[I6,I6],254,λc _=>m278 o c ⟩) 279 ⟨0,[I6,I6],[],[],[],[I6,I6],254,λc t=>m279 o c t.1 t.2.1⟩ (.lf 291 ⟨1,[I6],[280],[.st 18],[.st 9],[],0,λc t=>m291 o c t.1⟩))) 292 ⟨1,[.str],[280],[.st 18],[.bool],[],0,λc t=>m292 o c t.1⟩ (.node (.node (.lf 308 ⟨1,[],[293],[.st 16],[.st 9],[I6,I6],254,λc _=>m308 o c ⟩) 312 ⟨1,[.int .u8],[280],[.st 18],[.bool],[],0,λc t=>m312 o c t.1⟩ (.lf 313 ⟨1,[],[280],[.st 18],[.str],[],0,λc _=>m313 o c ⟩)) 314 ⟨1,[],[280],[.st 18],[.str],[],0,λc _=>m314 o c ⟩ (.node (.lf 324 ⟨1,[.str],[293],[.st 16],[.bool],[I6,I6],254,λc t=>m324 o c t.1⟩) 325 ⟨1,[],[293],[.st 16],[.st 9],[I6,I6],254,λc _=>m325 o c ⟩ (.lf 333 ⟨1,[],[293],[.st 16],[.str],[I6,I6],254,λc _=>m333 o c ⟩)))
noncomputable def tabL(o:Orc Sx):Tr (EntryL Sx):=.node (.node (.lf 80 ⟨sg80,λt=>m80 o t.1 t.2.1 t.2.2.1⟩) 124 ⟨sg124,λt=>m124 o t.1 t.2.1 t.2.2.1⟩ .leaf) 125 ⟨sg125,λt=>m125 o t.1 t.2.1 t.2.2.1⟩ (.node (.lf 168 ⟨sg168,λt=>m168 o t.1⟩) 172 ⟨sg172,λt=>m172 o t.1 t.2.1 t.2.2.1⟩ .leaf)
theorem zro(o:Orc Sx)(h:K4 prog un o):(tabN o).All (Entry.Ok prog un):=⟨⟨⟨⟨⟨⟨⟨trivial,ok8 o h,trivial⟩,oD (aZ (.lf 11 (cZ [(11,.own I6 3)])) (.lf 6 (cZ [(11,.own I6 3),(29,.fr I6)]))) func14 h λ_=>by kernel_rfl,⟨trivial,oD (aZ (.lf 9 (cZ [])) (.lf 4 (cZ [(13,.fr I6)]))) func18 h λ_=>by kernel_rfl,trivial⟩⟩,oD ⟨.leaf,.leaf,[],[4],[],[],[]⟩ func19 h λ_=>by kernel_rfl,⟨⟨trivial,oD (aZ (.lf 9 (cZ [])) (.lf 4 (cZ [(46,.fr I6)]))) func26 h λ_=>by kernel_rfl,trivial⟩,oD a0 func31 h λ_=>by kernel_rfl,⟨trivial,ok34 o h,trivial⟩⟩⟩,ok35 o h,⟨⟨⟨trivial,ok36 o h,trivial⟩,ok37 o h,⟨trivial,oD a0 func38 h λ_=>by kernel_rfl,trivial⟩⟩,oD a0 func39 h λ_=>by kernel_rfl,⟨⟨trivial,oD a0 func40 h λ_=>by kernel_rfl,trivial⟩,oD a0 func54 h λ_=>by kernel_rfl,trivial⟩⟩⟩,oD (aZ (.lf 9 (cZ [])) (.lf 4 (cZ [(13,.fr I6)]))) func55 h λ_=>by kernel_rfl,⟨⟨⟨⟨trivial,oD a0 func56 h λ_=>by kernel_rfl,trivial⟩,oD ⟨.lf 12 (cZ [(6,.own I6 3)]),.lf 6 (cZ [(6,.own I6 3),(7,.pt I6 3)]),[],[],[7],[],[]⟩ func57 h λ_=>by kernel_rfl,⟨trivial,oD ⟨.node (.lf 7 (cZ [(7,.wr I6 3)])) 21 (cZ [(7,.wr I6 3)]) .leaf,.node (.lf 3 (cZ [(7,.wr I6 3),(18,.fr I6)])) 11 (cZ [(7,.wr I6 3),(9,.own I6 3)]) (.lf 15 (cZ [(7,.wr I6 3),(9,.own I6 3),(47,.fr I6)])),[],[],[41],[],[]⟩ func58 h λ_=>by kernel_rfl,trivial⟩⟩,oD (aZ (.lf 7 (cZ [(5,.own .str 9)])) (.lf 3 (cZ [(5,.own .str 9),(10,.fr I6)]))) func59 h λ_=>by kernel_rfl,⟨⟨trivial,ok60 o h,trivial⟩,oD (aZ (.node (.lf 8 (cZ [(7,.wr .bool 4),(8,.own I6 3)])) 16 (cZ [(7,.wr .bool 4)]) .leaf) (.node (.lf 7 (cZ [(7,.wr .bool 4),(8,.own I6 3),(9,.fr I6)])) 10 (cZ [(7,.wr .bool 4),(8,.own I6 3),(40,.fr I6)]) .leaf)) func61 h λ_=>by kernel_rfl,trivial⟩⟩,oD (aZ (.lf 7 (cZ [])) (.lf 2 (cZ [(10,.fr I6)]))) func62 h λ_=>by kernel_rfl,⟨⟨⟨trivial,oD (aZ (.lf 12 (cZ [])) (.lf 7 (cZ [(23,.fr I6)]))) func63 h λ_=>by kernel_rfl,trivial⟩,oD a0 func66 h λ_=>by kernel_rfl,⟨trivial,ok67 o h,trivial⟩⟩,oD ⟨.leaf,.leaf,[],[],[],[],[(2,7)]⟩ func68 h λ_=>by kernel_rfl,⟨⟨trivial,oD (aZ (.lf 9 (cZ [])) (.lf 4 (cZ [(13,.fr I6)]))) func69 h λ_=>by kernel_rfl,trivial⟩,oD (aZ (.lf 9 (cZ [])) (.lf 4 (cZ [(51,.fr I6)]))) func70 h λ_=>by kernel_rfl,trivial⟩⟩⟩⟩,oD (aZ (.lf 8 (cZ [(3,.own I6 3)])) (.lf 3 (cZ [(3,.own I6 3),(8,.fr I6)]))) func75 h λ_=>by kernel_rfl,⟨⟨⟨⟨⟨trivial,oD a0 func76 h λ_=>by kernel_rfl,trivial⟩,oD a0 func77 h λ_=>by kernel_rfl,⟨trivial,oD a0 func79 h λ_=>by kernel_rfl,trivial⟩⟩,oD a0 func88 h λ_=>by kernel_rfl,⟨⟨trivial,oD ⟨.leaf,.leaf,[],[],[],[],[(1,14)]⟩ func100 h λ_=>by kernel_rfl,trivial⟩,oD (aZ (.node (.lf 16 ⟨[],[(1,[.fr (.mp .str .bool)])],[]⟩) 30 (cZ []) .leaf) (.node (.lf 7 ⟨[(40,.fr I6)],[(1,[.fr (.mp .str .bool)])],[]⟩) 19 (cZ [(80,.fr I6)]) .leaf)) func102 h λ_=>by kernel_rfl,⟨trivial,oD a0 func109 h λ_=>by kernel_rfl,trivial⟩⟩⟩,oD a0 func110 h λ_=>by kernel_rfl,⟨⟨⟨trivial,hok111 o h,trivial⟩,hok112 o h,⟨trivial,hok113 o h,trivial⟩⟩,oD (aZ (.node (.lf 23 (cZ [])) 29 (cZ []) .leaf) (.node (.lf 18 (cZ [(75,.own .str 9),(77,.fr I6)])) 24 (cZ [(87,.fr I6)]) .leaf)) func117 h λ_=>by kernel_rfl,⟨⟨trivial,oD (aZ (.lf 4 (cZ [(3,.fr .str)])) .leaf) func118 h λ_=>by kernel_rfl,trivial⟩,oD ⟨.node (.lf 4 ⟨[],[(0,[.fr .str,.fr .str,.fr .str,.fr .str,.fr (.sl (.st 10)),.fr .str])],[]⟩) 6 ⟨[],[(0,[.fr .str,.fr .str,.fr .str,.fr .str,.fr (.sl (.st 10)),.fr .str])],[]⟩ .leaf,.leaf,[],[],[],[],[(3,7)]⟩ func119 h λ_=>by kernel_rfl,trivial⟩⟩⟩,oD (aZ (.node (.lf 12 (cZ [])) 26 (cZ []) (.lf 34 (cZ [(9,.fr .bool)]))) (.node (.lf 7 (cZ [(40,.fr I6)])) 17 (cZ [(85,.fr I6)]) (.lf 30 (cZ [(9,.fr .bool),(139,.fr I6)])))) func120 h λ_=>by kernel_rfl,⟨⟨⟨⟨trivial,oD a0 func121 h λ_=>by kernel_rfl,trivial⟩,oD ⟨.node (.lf 7 ⟨[],[(2,[.fr (.mp .str I6)])],[]⟩) 16 ⟨[],[(5,[.fr .str,.fr .str,.fr .str,.fr (.sl (.st 5)),.fr (.sl (.st 7)),.fr I6,.nst I6 65 3,.nst I6 65 3])],[]⟩ (.lf 21 ⟨[],[(5,[.fr .str,.fr .str,.fr .str,.fr (.sl (.st 5)),.fr (.sl (.st 7)),.fr I6,.nst I6 65 3,.nst I6 65 3])],[]⟩),.node (.lf 3 ⟨[(19,.fr I6)],[(2,[.fr (.mp .str I6)])],[]⟩) 10 ⟨[(45,.fr I6)],[(5,[.fr .str,.fr .str,.fr .str,.fr (.sl (.st 5)),.fr (.sl (.st 7)),.fr I6,.nst I6 65 3,.nst I6 65 3])],[]⟩ (.lf 17 ⟨[(87,.fr I6)],[(5,[.fr .str,.fr .str,.fr .str,.fr (.sl (.st 5)),.fr (.sl (.st 7)),.fr I6,.nst I6 65 3,.nst I6 65 3])],[]⟩),[],[],[38,40,70,71,73,74,78,79,81,82,83,84,99,100,105,106,108,109],[(8,[⟨[],[0],[],[]⟩,⟨[],[],[],[]⟩,⟨[],[],[],[]⟩,⟨[],[0],[],[]⟩,⟨[],[2],[],[]⟩,⟨[],[],[],[]⟩,⟨[],[],[],[]⟩,⟨[],[],[],[]⟩,⟨[],[],[],[]⟩,⟨[],[],[],[]⟩,⟨[],[],[],[]⟩,⟨[5],[],[],[]⟩]),(14,[⟨[],[],[],[]⟩,⟨[],[5],[],[]⟩,⟨[],[],[],[]⟩,⟨[],[],[],[]⟩,⟨[],[5],[],[]⟩,⟨[],[],[],[]⟩,⟨[],[],[],[]⟩,⟨[],[5],[],[]⟩,⟨[],[],[],[]⟩,⟨[6],[],[],[]⟩,⟨[6],[],[],[68]⟩,⟨[],[],[],[]⟩,⟨[],[],[],[]⟩,⟨[9,10],[],[9],[]⟩,⟨[],[],[],[]⟩,⟨[],[5],[],[]⟩,⟨[],[],[],[]⟩,⟨[7],[],[],[]⟩,⟨[7],[],[],[76]⟩,⟨[],[],[],[]⟩,⟨[],[],[],[]⟩,⟨[11,12],[],[11],[]⟩,⟨[6],[],[],[]⟩,⟨[6,9],[],[9],[62]⟩,⟨[7],[],[],[]⟩,⟨[7,11],[],[11],[65]⟩]),(19,[⟨[],[],[],[]⟩,⟨[],[5],[],[]⟩,⟨[],[],[],[]⟩,⟨[],[],[],[]⟩,⟨[],[5],[],[]⟩,⟨[],[],[],[]⟩,⟨[],[],[],[]⟩,⟨[],[5],[],[]⟩,⟨[],[],[],[]⟩,⟨[8],[],[],[]⟩,⟨[8],[],[],[97]⟩,⟨[10],[],[10],[]⟩,⟨[],[],[],[]⟩,⟨[],[5],[],[]⟩,⟨[],[],[],[]⟩,⟨[9],[],[],[]⟩,⟨[9],[],[],[103]⟩,⟨[12],[],[12],[]⟩,⟨[8],[],[],[]⟩,⟨[8,11],[],[11],[91]⟩,⟨[9],[],[],[]⟩,⟨[9,13],[],[13],[94]⟩])],[]⟩ func122 h λ_=>by kernel_rfl,⟨trivial,oD (aZ (.lf 7 (cZ [])) (.lf 2 (cZ [(6,.fr I6)]))) func123 h λ_=>by kernel_rfl,trivial⟩⟩,oD a0 func134 h λ_=>by kernel_rfl,⟨⟨trivial,oD a0 func138 h λ_=>by kernel_rfl,trivial⟩,oD (aZ (.lf 8 (cZ [])) (.lf 3 (cZ [(8,.fr I6)]))) func142 h λ_=>by kernel_rfl,trivial⟩⟩,oD (aZ (.lf 6 (cZ [])) (.lf 2 (cZ [(3,.fr I6)]))) func143 h λ_=>by kernel_rfl,⟨⟨⟨trivial,oD (aZ (.node (.lf 15 (cZ [])) 18 (cZ []) (.lf 28 (cZ []))) (.node (.lf 11 (cZ [(7,.fr I6)])) 21 (cZ [(68,.fr I6)]) .leaf)) func144 h λ_=>by kernel_rfl,trivial⟩,oD a0 func147 h λ_=>by kernel_rfl,⟨trivial,oD a0 func149 h λ_=>by kernel_rfl,trivial⟩⟩,oD (aZ (.node (.lf 7 (cZ [])) 13 (cZ []) .leaf) (.node (.lf 2 (cZ [(15,.own .str 9),(17,.fr I6)])) 8 (cZ [(28,.fr I6)]) .leaf)) func150 h λ_=>by kernel_rfl,⟨⟨trivial,oD (aZ (.lf 7 (cZ [])) (.lf 2 (cZ [(9,.fr I6)]))) func151 h λ_=>by kernel_rfl,trivial⟩,oD a0 func152 h λ_=>by kernel_rfl,trivial⟩⟩⟩⟩⟩,hok153 o h,⟨⟨⟨⟨⟨⟨trivial,oD (aZ (.lf 11 (cZ [])) (.lf 2 (cZ [(7,.fr I6)]))) func154 h λ_=>by kernel_rfl,trivial⟩,oD (aZ (.lf 7 (cZ [])) (.lf 2 (cZ [(6,.fr I6)]))) func155 h λ_=>by kernel_rfl,⟨trivial,oD (aZ (.lf 7 (cZ [(3,.own .str 9)])) (.lf 3 (cZ [(3,.own .str 9),(9,.fr I6)]))) func156 h λ_=>by kernel_rfl,trivial⟩⟩,oD ⟨.lf 10 ⟨[],[(0,[.wr (.int .u8) 5])],[]⟩,.lf 3 ⟨[(8,.fr I6)],[(0,[.wr (.int .u8) 5])],[]⟩,[],[],[],[],[(8,13)]⟩ func157 h λ_=>by kernel_rfl,⟨⟨trivial,oD (aZ (.lf 8 ⟨[],[(0,[.fr (.rw (.int .u8))])],[]⟩) (.lf 3 ⟨[(10,.fr I6)],[(0,[.fr (.rw (.int .u8))])],[]⟩)) func158 h λ_=>by kernel_rfl,trivial⟩,oD (aZ (.lf 10 ⟨[],[(0,[.wr (.int .u8) 5])],[]⟩) (.lf 3 ⟨[(7,.fr I6)],[(0,[.wr (.int .u8) 5])],[]⟩)) func159 h λ_=>by kernel_rfl,⟨trivial,oD a0 func160 h λ_=>by kernel_rfl,trivial⟩⟩⟩,oD (aZ (.lf 7 (cZ [])) (.lf 2 (cZ [(7,.fr I6)]))) func161 h λ_=>by kernel_rfl,⟨⟨⟨trivial,oD (aZ (.lf 8 (cZ [])) (.lf 3 (cZ [(12,.fr I6)]))) func162 h λ_=>by kernel_rfl,trivial⟩,hok163 o h,⟨trivial,oD (aZ (.lf 8 (cZ [])) (.lf 2 (cZ [(3,.fr I6)]))) func164 h λ_=>by kernel_rfl,trivial⟩⟩,oD (aZ (.lf 6 (cZ [])) (.lf 2 (cZ [(3,.fr I6)]))) func165 h λ_=>by kernel_rfl,⟨⟨trivial,oD ⟨.node (.lf 4 ⟨[],[(0,[.fr .str,.fr .str,.fr .str,.fr .str,.fr (.sl (.st 10)),.fr .str])],[]⟩) 6 ⟨[],[(0,[.fr .str,.fr .str,.fr .str,.fr .str,.fr (.sl (.st 10)),.fr .str])],[]⟩ .leaf,.leaf,[],[],[],[],[(3,7)]⟩ func166 h λ_=>by kernel_rfl,trivial⟩,oD (aZ (.node (.node (.lf 4 (cZ [(3,.fr .str)])) 7 (cZ [(3,.fr .str)]) .leaf) 13 (cZ [(3,.fr .str)]) (.lf 15 (cZ [(3,.fr .str)]))) (.lf 8 (cZ [(3,.fr .str),(36,.fr I6)]))) func167 h λ_=>by kernel_rfl,trivial⟩⟩⟩,oD (aZ (.lf 7 (cZ [])) (.lf 2 (cZ [(8,.fr I6)]))) func169 h λ_=>by kernel_rfl,⟨⟨⟨⟨trivial,oD (aZ (.node (.lf 9 (cZ [(5,.fr I6)])) 16 (cZ []) .leaf) (.lf 4 (cZ [(11,.fr I6)]))) func170 h λ_=>by kernel_rfl,trivial⟩,oD ⟨.leaf,.leaf,[],[],[],[(5,[⟨[],[],[],[]⟩,⟨[],[],[],[]⟩,⟨[],[2],[],[]⟩,⟨[],[],[],[]⟩,⟨[],[2],[],[]⟩,⟨[0],[],[],[]⟩,⟨[],[],[],[]⟩,⟨[],[],[],[]⟩])],[]⟩ func171 h λ_=>by kernel_rfl,⟨trivial,oD a0 func191 h λ_=>by kernel_rfl,trivial⟩⟩,oD (aZ (.lf 6 (cZ [])) (.lf 2 (cZ [(7,.fr I6)]))) func211 h λ_=>by kernel_rfl,⟨⟨trivial,oD (aZ (.node (.lf 12 (cZ [(5,.fr I6)])) 17 (cZ []) .leaf) (.lf 4 (cZ [(11,.fr I6)]))) func212 h λ_=>by kernel_rfl,trivial⟩,oD ⟨.lf 8 ⟨[],[(1,[.fr .str,.fr I6,.fr I6,.fr I6])],[]⟩,.leaf,[],[],[],[(9,[⟨[],[],[],[]⟩,⟨[],[],[],[]⟩,⟨[],[],[],[]⟩,⟨[],[],[],[]⟩,⟨[],[1],[],[]⟩,⟨[],[],[],[]⟩,⟨[],[],[],[]⟩,⟨[],[],[],[]⟩,⟨[],[1],[],[]⟩,⟨[0],[],[],[]⟩,⟨[],[],[],[]⟩,⟨[],[],[],[]⟩])],[]⟩ func213 h λ_=>by kernel_rfl,trivial⟩⟩,oD (aZ (.lf 7 (cZ [])) (.lf 2 (cZ [(6,.fr I6)]))) func214 h λ_=>by kernel_rfl,⟨⟨⟨trivial,oD a0 func215 h λ_=>by kernel_rfl,trivial⟩,hok216 o h,⟨trivial,oD (aZ (.lf 7 (cZ [])) (.lf 2 (cZ [(6,.fr I6)]))) func218 h λ_=>by kernel_rfl,trivial⟩⟩,hok219 o h,⟨⟨trivial,oD a0 func220 h λ_=>by kernel_rfl,trivial⟩,oD a0 func224 h λ_=>by kernel_rfl,trivial⟩⟩⟩⟩,oD (aZ (.lf 7 (cZ [])) (.lf 2 (cZ [(7,.fr I6)]))) func225 h λ_=>by kernel_rfl,⟨⟨⟨⟨⟨trivial,oD a0 func226 h λ_=>by kernel_rfl,trivial⟩,oD a0 func227 h λ_=>by kernel_rfl,⟨trivial,oD (aZ (.lf 8 ⟨[],[(0,[.fr (.rw (.int .u8))])],[]⟩) (.lf 3 ⟨[(10,.fr I6)],[(0,[.fr (.rw (.int .u8))])],[]⟩)) func229 h λ_=>by kernel_rfl,trivial⟩⟩,oD (aZ (.lf 10 (cZ [(3,.own (.int .u8) 5)])) (.lf 3 (cZ [(3,.own (.int .u8) 5),(4,.fr I6)]))) func230 h λ_=>by kernel_rfl,⟨⟨trivial,oD (aZ (.lf 7 (cZ [(3,.own .str 9)])) (.lf 3 (cZ [(3,.own .str 9),(9,.fr I6)]))) func231 h λ_=>by kernel_rfl,trivial⟩,oD ⟨.lf 8 (cZ [(3,.own (.int .u8) 5)]),.lf 3 (cZ [(3,.own (.int .u8) 5),(4,.fr I6)]),[],[],[],[(7,[⟨[],[],[],[]⟩,⟨[],[],[],[]⟩,⟨[],[],[],[]⟩,⟨[],[],[],[]⟩,⟨[],[],[],[]⟩,⟨[],[],[],[]⟩,⟨[],[],[],[]⟩,⟨[],[],[],[]⟩,⟨[],[],[],[]⟩,⟨[],[],[],[]⟩,⟨[],[],[],[]⟩,⟨[],[],[],[]⟩,⟨[0],[1],[0],[]⟩,⟨[],[],[],[]⟩])],[]⟩ func232 h λ_=>by kernel_rfl,⟨trivial,oD (aZ (.lf 7 (cZ [])) (.lf 2 (cZ [(8,.fr I6)]))) func233 h λ_=>by kernel_rfl,trivial⟩⟩⟩,hok234 o h,⟨⟨⟨trivial,oD a0 func235 h λ_=>by kernel_rfl,trivial⟩,oD (aZ (.lf 6 (cZ [])) (.lf 2 (cZ [(5,.fr I6)]))) func262 h λ_=>by kernel_rfl,⟨trivial,oD a0 func266 h λ_=>by kernel_rfl,trivial⟩⟩,oD a0 func269 h λ_=>by kernel_rfl,⟨⟨trivial,oD a0 func272 h λ_=>by kernel_rfl,trivial⟩,oD a0 func274 h λ_=>by kernel_rfl,trivial⟩⟩⟩,oD a0 func275 h λ_=>by kernel_rfl,⟨⟨⟨⟨trivial,oD (aZ (.lf 10 (cZ [(4,.fr I6),(5,.fr I6)])) (.lf 5 (cZ [(4,.fr I6),(5,.fr I6),(18,.fr I6)]))) func280 h λ_=>by kernel_rfl,trivial⟩,oD (aZ (.lf 18 (cZ [])) (.lf 12 (cZ [(59,.fr I6)]))) func281 h λ_=>by kernel_rfl,⟨trivial,oD (aZ (.lf 6 (cZ [(5,.fr I6)])) (.lf 3 (cZ [(5,.fr I6),(6,.fr I6)]))) func293 h λ_=>by kernel_rfl,trivial⟩⟩,oD (aZ (.lf 6 (cZ [(3,.fr I6)])) (.lf 3 (cZ [(3,.fr I6),(4,.fr I6)]))) func294 h λ_=>by kernel_rfl,⟨⟨trivial,oD (aZ (.lf 10 (cZ [])) (.lf 5 (cZ [(4,.fr I6)]))) func295 h λ_=>by kernel_rfl,trivial⟩,oD a0 func303 h λ_=>by kernel_rfl,trivial⟩⟩,oD a0 func304 h λ_=>by kernel_rfl,⟨⟨⟨trivial,hok305 o h,trivial⟩,oD (aZ (.lf 9 (cZ [])) (.lf 4 (cZ [(27,.fr I6)]))) func306 h λ_=>by kernel_rfl,⟨trivial,oD (aZ (.node (.lf 4 (cZ [(4,.fr .bool)])) 7 (cZ [(7,.fr .bool)]) .leaf) .leaf) func315 h λ_=>by kernel_rfl,trivial⟩⟩,oD a0 func316 h λ_=>by kernel_rfl,⟨⟨trivial,oD (aZ (.lf 8 (cZ [])) (.lf 4 (cZ [(3,.fr I6)]))) func326 h λ_=>by kernel_rfl,trivial⟩,oD a0 func327 h λ_=>by kernel_rfl,trivial⟩⟩⟩⟩⟩⟩
theorem zrq(o:Orc Sx)(h:K4 prog un o):(tabE o).All (EntryE.Ok prog un):=⟨⟨⟨⟨trivial,oE ⟨.node (.lf 6 ⟨[(7,.own (.st 9) 200)],[(0,[.fr .str,.fr I6,.fr I6,.fr I6])],[]⟩) 9 (cZ [(7,.own (.st 9) 200),(8,.fr .str)]) (.lf 10 ⟨[(7,.own (.st 9) 200)],[(0,[.fr .str,.fr I6,.fr I6,.fr I6])],[]⟩),.lf 2 ⟨[(7,.own (.st 9) 200)],[(0,[.fr .str,.fr I6,.fr I6,.fr I6])],[]⟩,[],[9],[],[],[]⟩ func263 h λ_ _=>by kernel_rfl,trivial⟩,oE (aZ .leaf (.lf 0 ⟨[],[(0,[.fr .str,.fr I6,.fr I6,.fr I6])],[]⟩)) func264 h λ_ _=>by kernel_rfl,⟨trivial,oE a0 func265 h λ_ _=>by kernel_rfl,trivial⟩⟩,oE ⟨.node (.lf 3 (cZ [(2,.fr I6)])) 9 (cZ [(4,.fr I6)]) (.lf 24 ⟨[(4,.fr I6)],[(1,[.fr I6,.fr .str,.fr I6,.fr .bool])],[]⟩),.node (.lf 1 (cZ [(2,.fr I6)])) 7 (cZ [(4,.fr I6)]) .leaf,[],[],[],[(19,[⟨[],[],[],[]⟩,⟨[],[],[],[]⟩,⟨[],[],[],[]⟩,⟨[],[0],[],[]⟩,⟨[],[],[],[]⟩,⟨[],[],[],[]⟩,⟨[],[],[],[]⟩,⟨[],[],[],[]⟩,⟨[],[],[],[]⟩,⟨[],[],[],[]⟩,⟨[1],[],[],[]⟩,⟨[],[],[],[]⟩,⟨[1],[],[],[]⟩])],[]⟩ func277 h λ_ _=>by kernel_rfl,⟨⟨trivial,oE a0 func278 h λ_ _=>by kernel_rfl,trivial⟩,oE a0 func279 h λ_ _=>by kernel_rfl,⟨trivial,oE ⟨.lf 15 ⟨[],[(0,[.fr .str,.fr I6,.fr I6,.fr I6]),(2,[.fr I6,.fr .str,.fr .bool,.fr .str,.fr (.sl (.st 9))])],[]⟩,.leaf,[],[8,15],[],[],[]⟩ func291 h λ_ _=>by kernel_rfl,trivial⟩⟩⟩,oE a0 func292 h λ_ _=>by kernel_rfl,⟨⟨⟨trivial,oE a0 func308 h λ_ _=>by kernel_rfl,trivial⟩,oE a0 func312 h λ_ _=>by kernel_rfl,⟨trivial,oE a0 func313 h λ_ _=>by kernel_rfl,trivial⟩⟩,oE (aZ (.lf 5 (cZ [(3,.fr I6)])) (.lf 3 (cZ [(3,.fr I6)]))) func314 h λ_ _=>by kernel_rfl,⟨⟨trivial,oE a0 func324 h λ_ _=>by kernel_rfl,trivial⟩,oE (aZ (.node (.lf 5 ⟨[],[(0,[.fr .str,.fr I6,.fr I6,.fr .str,.fr I6,.fr .bool,.fr I6])],[]⟩) 9 (cZ []) (.lf 16 ⟨[],[(0,[.fr .str,.fr I6,.fr I6,.fr .str,.fr I6,.fr .bool,.fr I6]),(2,[.fr I6,.fr .str,.fr .bool,.fr .str,.fr (.sl (.st 9))])],[]⟩)) .leaf) func325 h λ_ _=>by kernel_rfl,⟨trivial,oE (aZ (.lf 3 (cZ [])) .leaf) func333 h λ_ _=>by kernel_rfl,trivial⟩⟩⟩⟩
noncomputable def tabP(_:Orc Sx):Tr (List (EntryP Sx)):= .leaf
theorem zrn(o:Orc Sx)(_:K4 prog un o):(tabP o).All (EntryPs.Ok prog un):=trivial
theorem zrp(o:Orc Sx)(h:K4 prog un o):(tabL o).All (EntryL.Ok prog un):=⟨⟨⟨trivial,oL (aZ (.lf 15 ⟨[],[(0,[.fr (.mp .str .bool)])],[]⟩) (.lf 6 ⟨[(38,.fr I6)],[(0,[.fr (.mp .str .bool)])],[]⟩)) func80 h λ_=>by kernel_rfl,trivial⟩,oL (aZ (.node (.lf 15 (cZ [])) 19 (cZ []) .leaf) (.lf 10 (cZ [(30,.fr I6)]))) func124 h λ_=>by kernel_rfl,trivial⟩,oL (aZ (.lf 13 (cZ [])) (.lf 2 (cZ [(9,.fr I6)]))) func125 h λ_=>by kernel_rfl,⟨⟨trivial,oL (aZ (.node (.lf 5 (cZ [(0,.wr I6 3),(3,.fr I6)])) 14 (cZ [(0,.wr I6 3),(3,.fr I6)]) (.lf 16 (cZ [(0,.wr I6 3)]))) (.node (.lf 4 (cZ [(0,.wr I6 3),(3,.fr I6)])) 9 ⟨[(0,.wr I6 3),(3,.fr I6),(5,.fr I6)],[],[(4,0,I6)]⟩ .leaf)) func168 h λ_=>by kernel_rfl,trivial⟩,oL (aZ (.lf 11 (cZ [])) (.lf 4 (cZ [(12,.fr I6)]))) func172 h λ_=>by kernel_rfl,trivial⟩⟩
noncomputable def zah:Nat->Orc Sx|0=>⟨λ_ _ _=>none,λ_ _ _ _ _ _ _ _=>none,λ_ _ _=>none,λ_ _ _ _ _=>none⟩|n+1=>zsh (tabN (zah n)) (tabE (zah n)) (tabL (zah n)) (tabP (zah n))
theorem zdl:∀n,K4 prog un (zah n)|0=>⟨λ_ _ _ _ h=>(by cases h),λ_ _ _ _ _ _ _ _ _ h=>(by cases h),λ_ _ _ _ h=>(by cases h),λ_ _ _ _ _ _ h=>by cases h⟩|n+1=>znP (zro _ (zdl n)) (zrq _ (zdl n)) (zrp _ (zdl n)) (zrn _ (zdl n))
end Pe.Tryz
end
section
namespace Pe.Tryz
open Go Go.Proofs Pe
theorem q14(n:Nat)(b:Gt.Kn)(to:By)(scope:Int): @Eq (Option (List By×Int×J)) ((zah (n+1)).d 14 [.st 3 b,.str to,.int .i64 scope] [LS,I6]) (m14 (zah n) b to scope):=by kernel_rfl
theorem q18(n:Nat)(s1':(List By))(s2':(List By)): @Eq (Option (Bool×J)) ((zah (n+1)).d 18 [.sl .str s1',.sl .str s2'] [.bool]) (m18 (zah n) s1' s2'):=by kernel_rfl
theorem q19(n:Nat)  : @Eq (Option (Bool×J)) ((zah (n+1)).d 19 [] [.bool]) (m19 (zah n) ):=by kernel_rfl
theorem q26(n:Nat)(a:Gt.Kd)(b:Gt.Kd): @Eq (Option (Bool×J)) ((zah (n+1)).d 26 [.st 5 a,.st 5 b] [.bool]) (m26 (zah n) a b):=by kernel_rfl
theorem q31(n:Nat)(a:(List (List By)))(b:(List (List By))): @Eq (Option (Bool×J)) ((zah (n+1)).d 31 [.sl LS a,.sl LS b] [.bool]) (m31 (zah n) a b):=by kernel_rfl
theorem q34(n:Nat)(b:Gt.Kn)(ref:By)(scope:Int): @Eq (Option (Gt.Kn×Int×J)) ((zah (n+1)).d 34 [.st 3 b,.str ref,.int .i64 scope] [.st 3,I6]) (m34 (zah n) b ref scope):=by kernel_rfl
theorem q35(n:Nat)(b:Gt.Kn)(ref:By)(scope:Int): @Eq (Option (Gt.Kn×Int×J)) ((zah (n+1)).d 35 [.st 3 b,.str ref,.int .i64 scope] [.st 3,I6]) (m35 (zah n) b ref scope):=by kernel_rfl
theorem q36(n:Nat)(b:Gt.Kn): @Eq (Option (List (List By)×Int×J)) ((zah (n+1)).d 36 [.st 3 b] [.sl LS,I6]) (m36 (zah n) b):=by kernel_rfl
theorem q37(n:Nat)(b:Gt.Kn): @Eq (Option (List (List By)×Int×J)) ((zah (n+1)).d 37 [.st 3 b] [.sl LS,I6]) (m37 (zah n) b):=by kernel_rfl
theorem q38(n:Nat)(a:Gt.Kn)(b:Gt.Kn): @Eq (Option (Bool×J)) ((zah (n+1)).d 38 [.st 3 a,.st 3 b] [.bool]) (m38 (zah n) a b):=by kernel_rfl
theorem q39(n:Nat)(b:Gt.Kn)(scope:Int): @Eq (Option (List By×Int×J)) ((zah (n+1)).d 39 [.st 3 b,.int .i64 scope] [LS,I6]) (m39 (zah n) b scope):=by kernel_rfl
theorem q40(n:Nat)(b:Gt.Kn): @Eq (Option (Int×J)) ((zah (n+1)).d 40 [.st 3 b] [I6]) (m40 (zah n) b):=by kernel_rfl
theorem q54(n:Nat)(b:Gt.Kn): @Eq (Option (Int×J)) ((zah (n+1)).d 54 [.st 3 b] [I6]) (m54 (zah n) b):=by kernel_rfl
theorem q55(n:Nat)(s1':(List Gt.K6))(s2':(List Gt.K6)): @Eq (Option (Bool×J)) ((zah (n+1)).d 55 [.sl (.st 7) s1',.sl (.st 7) s2'] [.bool]) (m55 (zah n) s1' s2'):=by kernel_rfl
theorem q56(n:Nat)(b:Gt.Kn)(ref:By)(scope:Int): @Eq (Option (Gt.Gf×Int×Int×J)) ((zah (n+1)).d 56 [.st 3 b,.str ref,.int .i64 scope] [.st 14,I6,I6]) (m56 (zah n) b ref scope):=by kernel_rfl
theorem q57(n:Nat)(g:Gt.Gf)(to:Int): @Eq (Option (List Int×J)) ((zah (n+1)).d 57 [.st 14 g,.int .i64 to] [LI]) (m57 (zah n) g to):=by kernel_rfl
theorem q58(n:Nat)(next:(List (List Int)))(from':Int)(zaG:Int): @Eq (Option (List Int×J)) ((zah (n+1)).d 58 [.sl LI next,.int .i64 from',.int .i64 zaG] [LI]) (m58 (zah n) next from' zaG):=by kernel_rfl
theorem q59(n:Nat)(g:Gt.Gf)(l:(List Int)): @Eq (Option (List By×J)) ((zah (n+1)).d 59 [.st 14 g,.sl I6 l] [LS]) (m59 (zah n) g l):=by kernel_rfl
theorem q60(n:Nat)(b:Gt.Kn)(scope:Int): @Eq (Option (Gt.Wb×J)) ((zah (n+1)).d 60 [.st 3 b,.int .i64 scope] [.st 19]) (m60 (zah n) b scope):=by kernel_rfl
theorem q61(n:Nat)(w:Gt.Wb)(from':Int)(zaG:Int): @Eq (Option (List Bool×J)) ((zah (n+1)).d 61 [.st 19 w,.int .i64 from',.int .i64 zaG] [.sl .bool]) (m61 (zah n) w from' zaG):=by kernel_rfl
theorem q62(n:Nat)(b:Gt.Kn)(ref:By): @Eq (Option (Int×J)) ((zah (n+1)).d 62 [.st 3 b,.str ref] [I6]) (m62 (zah n) b ref):=by kernel_rfl
theorem q63(n:Nat)(b:Gt.Kn)(scope:Int)(refs:(List By)): @Eq (Option (Int×J)) ((zah (n+1)).d 63 [.st 3 b,.int .i64 scope,.sl .str refs] [I6]) (m63 (zah n) b scope refs):=by kernel_rfl
theorem q66(n:Nat)(s:By): @Eq (Option (Gt.Kd×J)) ((zah (n+1)).d 66 [.str s] [.st 5]) (m66 (zah n) s):=by kernel_rfl
theorem q67(n:Nat)(b:Gt.Kn)(ref:By): @Eq (Option (Int×Bool×J)) ((zah (n+1)).d 67 [.st 3 b,.str ref] [I6,.bool]) (m67 (zah n) b ref):=by kernel_rfl
theorem q68(n:Nat)(c:Gt.Kd): @Eq (Option (Gt.Kd×J)) ((zah (n+1)).d 68 [.st 5 c] [.st 5]) (m68 (zah n) c):=by kernel_rfl
theorem q69(n:Nat)(a:(List By))(b:(List By)): @Eq (Option (Bool×J)) ((zah (n+1)).d 69 [.sl .str a,.sl .str b] [.bool]) (m69 (zah n) a b):=by kernel_rfl
theorem q70(n:Nat)(a:Gt.K3)(b:Gt.K3): @Eq (Option (Bool×J)) ((zah (n+1)).d 70 [.st 11 a,.st 11 b] [.bool]) (m70 (zah n) a b):=by kernel_rfl
theorem q75(n:Nat)(l:(List Int)): @Eq (Option (List Int×J)) ((zah (n+1)).d 75 [.sl I6 l] [LI]) (m75 (zah n) l):=by kernel_rfl
theorem q76(n:Nat)(p:Gt.K3): @Eq (Option (By×Int×J)) ((zah (n+1)).d 76 [.st 11 p] [.str,I6]) (m76 (zah n) p):=by kernel_rfl
theorem q77(n:Nat)(p:Gt.K3): @Eq (Option (By×Int×J)) ((zah (n+1)).d 77 [.st 11 p] [.str,I6]) (m77 (zah n) p):=by kernel_rfl
theorem q79(n:Nat)(b:Gt.Kn)(scope:Int): @Eq (Option (Gt.Gf×Int×J)) ((zah (n+1)).d 79 [.st 3 b,.int .i64 scope] [.st 14,I6]) (m79 (zah n) b scope):=by kernel_rfl
theorem q80(n:Nat)(b0_0:List (By×(Bool)))(k_0:Bool)(b:Gt.Kn): @Eq (Option ((List (By×(Bool))×Int×J)⊕(J))) ((zah (n+1)).l 80 sg80 ((b0_0,k_0,b,()):List (By×(Bool))×Bool×Gt.Kn×J)) (m80 (zah n) b0_0 k_0 b):=by kernel_rfl
theorem q88(n:Nat)(a:Gt.K6)(b:Gt.K6): @Eq (Option (Int×J)) ((zah (n+1)).d 88 [.st 7 a,.st 7 b] [I6]) (m88 (zah n) a b):=by kernel_rfl
theorem q100(n:Nat)(a:Gt.K6)(b:Gt.K6): @Eq (Option (Int×J)) ((zah (n+1)).d 100 [.st 7 a,.st 7 b] [I6]) (m100 (zah n) a b):=by kernel_rfl
theorem q102(n:Nat)(b:Gt.Kn)(order:Bool): @Eq (Option (Int×J)) ((zah (n+1)).d 102 [.st 3 b,.bool order] [I6]) (m102 (zah n) b order):=by kernel_rfl
theorem q109(n:Nat)(c:Gt.Kd)(s:By): @Eq (Option (Int×J)) ((zah (n+1)).d 109 [.st 5 c,.str s] [I6]) (m109 (zah n) c s):=by kernel_rfl
theorem q110(n:Nat)(x:By)(y:By): @Eq (Option (Int×J)) ((zah (n+1)).d 110 [.str x,.str y] [I6]) (m110 (zah n) x y):=by kernel_rfl
theorem q117(n:Nat)(p:Gt.K3): @Eq (Option (Int×J)) ((zah (n+1)).d 117 [.st 11 p] [I6]) (m117 (zah n) p):=by kernel_rfl
theorem q118(n:Nat)(p:Gt.K3): @Eq (Option (By×J)) ((zah (n+1)).d 118 [.st 11 p] [.str]) (m118 (zah n) p):=by kernel_rfl
theorem q119(n:Nat)(p:Gt.K3): @Eq (Option (Gt.K3×J)) ((zah (n+1)).d 119 [.st 11 p] [.st 11]) (m119 (zah n) p):=by kernel_rfl
theorem q120(n:Nat)(p:Gt.K3): @Eq (Option (Int×J)) ((zah (n+1)).d 120 [.st 11 p] [I6]) (m120 (zah n) p):=by kernel_rfl
theorem q121(n:Nat)(p:Gt.K3): @Eq (Option (By×J)) ((zah (n+1)).d 121 [.st 11 p] [.str]) (m121 (zah n) p):=by kernel_rfl
theorem q122(n:Nat)(b:Gt.Kn)(scope:Int): @Eq (Option (Gt.Gf×J)) ((zah (n+1)).d 122 [.st 3 b,.int .i64 scope] [.st 14]) (m122 (zah n) b scope):=by kernel_rfl
theorem q123(n:Nat)(s:By): @Eq (Option (Bool×J)) ((zah (n+1)).d 123 [.str s] [.bool]) (m123 (zah n) s):=by kernel_rfl
theorem q124(n:Nat)(b0_0:List (By×(Bool)))(k_0:Bool)(c:Gt.Kd): @Eq (Option ((List (By×(Bool))×Int×J)⊕(J))) ((zah (n+1)).l 124 sg124 ((b0_0,k_0,c,()):List (By×(Bool))×Bool×Gt.Kd×J)) (m124 (zah n) b0_0 k_0 c):=by kernel_rfl
theorem q125(n:Nat)(b0_0:List (By×(Bool)))(k_0:Bool)(l:List Gt.K6): @Eq (Option ((List (By×(Bool))×Int×J)⊕(J))) ((zah (n+1)).l 125 sg125 ((b0_0,k_0,l,()):List (By×(Bool))×Bool×List Gt.K6×J)) (m125 (zah n) b0_0 k_0 l):=by kernel_rfl
theorem q134(n:Nat)(a:By)(b:By): @Eq (Option (Int×J)) ((zah (n+1)).d 134 [.str a,.str b] [I6]) (m134 (zah n) a b):=by kernel_rfl
theorem q138(n:Nat)(x:Int)(y:Int): @Eq (Option (Int×J)) ((zah (n+1)).d 138 [.int .i64 x,.int .i64 y] [I6]) (m138 (zah n) x y):=by kernel_rfl
theorem q142(n:Nat)(vals:(List Int)): @Eq (Option (Int×J)) ((zah (n+1)).d 142 [.sl I6 vals] [I6]) (m142 (zah n) vals):=by kernel_rfl
theorem q143(n:Nat)(s:By): @Eq (Option (Bool×J)) ((zah (n+1)).d 143 [.str s] [.bool]) (m143 (zah n) s):=by kernel_rfl
theorem q144(n:Nat)(c:Gt.Kd)(order:Bool): @Eq (Option (Int×J)) ((zah (n+1)).d 144 [.st 5 c,.bool order] [I6]) (m144 (zah n) c order):=by kernel_rfl
theorem q147(n:Nat)(x:By): @Eq (Option (Bool×J)) ((zah (n+1)).d 147 [.str x] [.bool]) (m147 (zah n) x):=by kernel_rfl
theorem q149(n:Nat)(kind:By): @Eq (Option (Gt.Kl×Int×J)) ((zah (n+1)).d 149 [.str kind] [.st 8,I6]) (m149 (zah n) kind):=by kernel_rfl
theorem q150(n:Nat)(p:Gt.K3): @Eq (Option (Bool×J)) ((zah (n+1)).d 150 [.st 11 p] [.bool]) (m150 (zah n) p):=by kernel_rfl
theorem q151(n:Nat)(l:(List By))(dots:Bool): @Eq (Option (Bool×J)) ((zah (n+1)).d 151 [.sl .str l,.bool dots] [.bool]) (m151 (zah n) l dots):=by kernel_rfl
theorem q152(n:Nat)(s:By): @Eq (Option (List By×J)) ((zah (n+1)).d 152 [.str s] [LS]) (m152 (zah n) s):=by kernel_rfl
theorem q154(n:Nat)(l:(List Gt.Pair)): @Eq (Option (Int×J)) ((zah (n+1)).d 154 [.sl (.st 10) l] [I6]) (m154 (zah n) l):=by kernel_rfl
theorem q155(n:Nat)(s:By): @Eq (Option (Bool×J)) ((zah (n+1)).d 155 [.str s] [.bool]) (m155 (zah n) s):=by kernel_rfl
theorem q156(n:Nat)(s:By): @Eq (Option (By×J)) ((zah (n+1)).d 156 [.str s] [.str]) (m156 (zah n) s):=by kernel_rfl
theorem q157(n:Nat)(s:By): @Eq (Option (By×J)) ((zah (n+1)).d 157 [.str s] [.str]) (m157 (zah n) s):=by kernel_rfl
theorem q158(n:Nat)(s:By): @Eq (Option (By×J)) ((zah (n+1)).d 158 [.str s] [.str]) (m158 (zah n) s):=by kernel_rfl
theorem q159(n:Nat)(s:By): @Eq (Option (By×J)) ((zah (n+1)).d 159 [.str s] [.str]) (m159 (zah n) s):=by kernel_rfl
theorem q160(n:Nat)(kind:By): @Eq (Option (Gt.Kl×Int×J)) ((zah (n+1)).d 160 [.str kind] [.st 8,I6]) (m160 (zah n) kind):=by kernel_rfl
theorem q161(n:Nat)(l:(List By)): @Eq (Option (Bool×J)) ((zah (n+1)).d 161 [.sl .str l] [.bool]) (m161 (zah n) l):=by kernel_rfl
theorem q162(n:Nat)(s:By)(dots:Bool): @Eq (Option (Bool×J)) ((zah (n+1)).d 162 [.str s,.bool dots] [.bool]) (m162 (zah n) s dots):=by kernel_rfl
theorem q164(n:Nat)(s:By): @Eq (Option (Bool×J)) ((zah (n+1)).d 164 [.str s] [.bool]) (m164 (zah n) s):=by kernel_rfl
theorem q165(n:Nat)(s:By): @Eq (Option (Bool×J)) ((zah (n+1)).d 165 [.str s] [.bool]) (m165 (zah n) s):=by kernel_rfl
theorem q166(n:Nat)(p:Gt.K3): @Eq (Option (Gt.K3×J)) ((zah (n+1)).d 166 [.st 11 p] [.st 11]) (m166 (zah n) p):=by kernel_rfl
theorem q167(n:Nat)(p:Gt.K3): @Eq (Option (By×J)) ((zah (n+1)).d 167 [.st 11 p] [.str]) (m167 (zah n) p):=by kernel_rfl
theorem q168(n:Nat)(s:List Int): @Eq (Option ((List Int×J)⊕(J))) ((zah (n+1)).l 168 sg168 ((s,()):List Int×J)) (m168 (zah n) s):=by kernel_rfl
theorem q169(n:Nat)(s:By)(most:Int): @Eq (Option (Bool×J)) ((zah (n+1)).d 169 [.str s,.int .i64 most] [.bool]) (m169 (zah n) s most):=by kernel_rfl
theorem q170(n:Nat)(l:(List Gt.Qd)): @Eq (Option (Int×J)) ((zah (n+1)).d 170 [.sl (.st 6) l] [I6]) (m170 (zah n) l):=by kernel_rfl
theorem q171(n:Nat)(s:By): @Eq (Option (Kb.Ex×Int×Int×J)) ((zah (n+1)).d 171 [.str s] [.st 9,I6,I6]) (m171 (zah n) s):=by kernel_rfl
theorem q172(n:Nat)(b0_0:List (By×(Bool)))(k_0:Bool)(l:List By): @Eq (Option ((List (By×(Bool))×Int×J)⊕(J))) ((zah (n+1)).l 172 sg172 ((b0_0,k_0,l,()):List (By×(Bool))×Bool×List By×J)) (m172 (zah n) b0_0 k_0 l):=by kernel_rfl
theorem q191(n:Nat)(x:Int): @Eq (Option (Bool×J)) ((zah (n+1)).d 191 [.int .i64 x] [.bool]) (m191 (zah n) x):=by kernel_rfl
theorem q211(n:Nat)(s:By)(low:Int)(most:Int): @Eq (Option (Bool×J)) ((zah (n+1)).d 211 [.str s,.int .i64 low,.int .i64 most] [.bool]) (m211 (zah n) s low most):=by kernel_rfl
theorem q212(n:Nat)(l:(List Gt.Qd)): @Eq (Option (Int×J)) ((zah (n+1)).d 212 [.sl (.st 6) l] [I6]) (m212 (zah n) l):=by kernel_rfl
theorem q213(n:Nat)(s:By): @Eq (Option (Kb.Ex×Int×Int×J)) ((zah (n+1)).d 213 [.str s] [.st 9,I6,I6]) (m213 (zah n) s):=by kernel_rfl
theorem q214(n:Nat)(kind:By): @Eq (Option (Int×J)) ((zah (n+1)).d 214 [.str kind] [I6]) (m214 (zah n) kind):=by kernel_rfl
theorem q215(n:Nat)  : @Eq (Option (Gt.Km×J)) ((zah (n+1)).d 215 [] [.st 2]) (m215 (zah n) ):=by kernel_rfl
theorem q218(n:Nat)(s:By): @Eq (Option (Bool×J)) ((zah (n+1)).d 218 [.str s] [.bool]) (m218 (zah n) s):=by kernel_rfl
theorem q220(n:Nat)(c:Int): @Eq (Option (Bool×J)) ((zah (n+1)).d 220 [.int .u8 c] [.bool]) (m220 (zah n) c):=by kernel_rfl
theorem q224(n:Nat)(c:Int): @Eq (Option (Bool×J)) ((zah (n+1)).d 224 [.int .u8 c] [.bool]) (m224 (zah n) c):=by kernel_rfl
theorem q225(n:Nat)(kind:By): @Eq (Option (Int×J)) ((zah (n+1)).d 225 [.str kind] [I6]) (m225 (zah n) kind):=by kernel_rfl
theorem q226(n:Nat)  : @Eq (Option (List Gt.Kl×J)) ((zah (n+1)).d 226 [] [.sl (.st 8)]) (m226 (zah n) ):=by kernel_rfl
theorem q227(n:Nat)(s:By): @Eq (Option (List By×J)) ((zah (n+1)).d 227 [.str s] [LS]) (m227 (zah n) s):=by kernel_rfl
theorem q229(n:Nat)(s:By): @Eq (Option (By×J)) ((zah (n+1)).d 229 [.str s] [.str]) (m229 (zah n) s):=by kernel_rfl
theorem q230(n:Nat)(s:By): @Eq (Option (By×J)) ((zah (n+1)).d 230 [.str s] [.str]) (m230 (zah n) s):=by kernel_rfl
theorem q231(n:Nat)(s:By): @Eq (Option (By×J)) ((zah (n+1)).d 231 [.str s] [.str]) (m231 (zah n) s):=by kernel_rfl
theorem q232(n:Nat)(s:By): @Eq (Option (By×J)) ((zah (n+1)).d 232 [.str s] [.str]) (m232 (zah n) s):=by kernel_rfl
theorem q233(nD:Nat)(s:By)(n:Int): @Eq (Option (Bool×J)) ((zah (nD+1)).d 233 [.str s,.int .i64 n] [.bool]) (m233 (zah nD) s n):=by kernel_rfl
theorem q235(n:Nat)(e:Kb.Ex): @Eq (Option (Int×J)) ((zah (n+1)).d 235 [.st 9 e] [I6]) (m235 (zah n) e):=by kernel_rfl
theorem q262(nD:Nat)(s:By)(n:Int): @Eq (Option (Bool×J)) ((zah (nD+1)).d 262 [.str s,.int .i64 n] [.bool]) (m262 (zah nD) s n):=by kernel_rfl
theorem q263(n:Nat)(rc:Gt.R3×J)(kind:Int)(deep:Int): @Eq (Option (((Gt.R3×J)×(Kb.Ex×J))⊕(J))) ((zah (n+1)).e 263 [.ptr 0 0,.int .i64 kind,.int .i64 deep] [280] [.st 18] rc [.st 9] [] 0) (m263 (zah n) rc kind deep):=by kernel_rfl
theorem q264(n:Nat)(rc:Gt.R3×J): @Eq (Option (((Gt.R3×J)×(J))⊕(J))) ((zah (n+1)).e 264 [.ptr 0 0] [280] [.st 18] rc [] [] 0) (m264 (zah n) rc):=by kernel_rfl
theorem q265(n:Nat)(rc:Gt.R3×J)(at':Int)(no:Int): @Eq (Option (((Gt.R3×J)×(J))⊕(J))) ((zah (n+1)).e 265 [.ptr 0 0,.int .i64 at',.int .i64 no] [280] [.st 18] rc [] [] 0) (m265 (zah n) rc at' no):=by kernel_rfl
theorem q266(n:Nat)(e:Kb.Ex): @Eq (Option (Int×J)) ((zah (n+1)).d 266 [.st 9 e] [I6]) (m266 (zah n) e):=by kernel_rfl
theorem q269(n:Nat)(c:Int)(first:Bool): @Eq (Option (Bool×J)) ((zah (n+1)).d 269 [.int .u8 c,.bool first] [.bool]) (m269 (zah n) c first):=by kernel_rfl
theorem q272(n:Nat)  : @Eq (Option (List By×J)) ((zah (n+1)).d 272 [] [LS]) (m272 (zah n) ):=by kernel_rfl
theorem q274(n:Nat)(c:Int): @Eq (Option (Bool×J)) ((zah (n+1)).d 274 [.int .u8 c] [.bool]) (m274 (zah n) c):=by kernel_rfl
theorem q275(n:Nat)(c:Int): @Eq (Option (Int×J)) ((zah (n+1)).d 275 [.int .u8 c] [I6]) (m275 (zah n) c):=by kernel_rfl
theorem q277(n:Nat)(rc:Gt.Rd×J): @Eq (Option (((Gt.Rd×J)×(J))⊕(Int×Int×J))) ((zah (n+1)).e 277 [.ptr 0 0] [293] [.st 16] rc [] [I6,I6] 254) (m277 (zah n) rc):=by kernel_rfl
theorem q278(n:Nat)(rc:Gt.Rd×J): @Eq (Option (((Gt.Rd×J)×(Kb.Ex×J))⊕(Int×Int×J))) ((zah (n+1)).e 278 [.ptr 0 0] [293] [.st 16] rc [.st 9] [I6,I6] 254) (m278 (zah n) rc):=by kernel_rfl
theorem q279(n:Nat)(rc:J)(at':Int)(code:Int): @Eq (Option (((J)×(J))⊕(Int×Int×J))) ((zah (n+1)).e 279 [.int .i64 at',.int .i64 code] [] [] rc [] [I6,I6] 254) (m279 (zah n) rc at' code):=by kernel_rfl
theorem q280(n:Nat)(e:Kb.Ex)(level:Int): @Eq (Option (Int×Int×J)) ((zah (n+1)).d 280 [.st 9 e,.int .i64 level] [I6,I6]) (m280 (zah n) e level):=by kernel_rfl
theorem q281(n:Nat)(e:Kb.Ex): @Eq (Option (Int×J)) ((zah (n+1)).d 281 [.st 9 e] [I6]) (m281 (zah n) e):=by kernel_rfl
theorem q291(n:Nat)(rc:Gt.R3×J)(deep:Int): @Eq (Option (((Gt.R3×J)×(Kb.Ex×J))⊕(J))) ((zah (n+1)).e 291 [.ptr 0 0,.int .i64 deep] [280] [.st 18] rc [.st 9] [] 0) (m291 (zah n) rc deep):=by kernel_rfl
theorem q292(n:Nat)(rc:Gt.R3×J)(w:By): @Eq (Option (((Gt.R3×J)×(Bool×J))⊕(J))) ((zah (n+1)).e 292 [.ptr 0 0,.str w] [280] [.st 18] rc [.bool] [] 0) (m292 (zah n) rc w):=by kernel_rfl
theorem q293(n:Nat)(e:Kb.Ex)(most:Int): @Eq (Option (Int×J)) ((zah (n+1)).d 293 [.st 9 e,.int .i64 most] [I6]) (m293 (zah n) e most):=by kernel_rfl
theorem q294(n:Nat)(e:Kb.Ex): @Eq (Option (Int×J)) ((zah (n+1)).d 294 [.st 9 e] [I6]) (m294 (zah n) e):=by kernel_rfl
theorem q295(n:Nat)(e:Kb.Ex): @Eq (Option (Int×J)) ((zah (n+1)).d 295 [.st 9 e] [I6]) (m295 (zah n) e):=by kernel_rfl
theorem q303(n:Nat)(c:Int): @Eq (Option (Bool×J)) ((zah (n+1)).d 303 [.int .u8 c] [.bool]) (m303 (zah n) c):=by kernel_rfl
theorem q304(n:Nat)(s:By): @Eq (Option (Bool×J)) ((zah (n+1)).d 304 [.str s] [.bool]) (m304 (zah n) s):=by kernel_rfl
theorem q306(n:Nat)(s:By): @Eq (Option (Bool×J)) ((zah (n+1)).d 306 [.str s] [.bool]) (m306 (zah n) s):=by kernel_rfl
theorem q308(n:Nat)(rc:Gt.Rd×J): @Eq (Option (((Gt.Rd×J)×(Kb.Ex×J))⊕(Int×Int×J))) ((zah (n+1)).e 308 [.ptr 0 0] [293] [.st 16] rc [.st 9] [I6,I6] 254) (m308 (zah n) rc):=by kernel_rfl
theorem q312(n:Nat)(rc:Gt.R3×J)(b:Int): @Eq (Option (((Gt.R3×J)×(Bool×J))⊕(J))) ((zah (n+1)).e 312 [.ptr 0 0,.int .u8 b] [280] [.st 18] rc [.bool] [] 0) (m312 (zah n) rc b):=by kernel_rfl
theorem q313(n:Nat)(rc:Gt.R3×J): @Eq (Option (((Gt.R3×J)×(By×J))⊕(J))) ((zah (n+1)).e 313 [.ptr 0 0] [280] [.st 18] rc [.str] [] 0) (m313 (zah n) rc):=by kernel_rfl
theorem q314(n:Nat)(rc:Gt.R3×J): @Eq (Option (((Gt.R3×J)×(By×J))⊕(J))) ((zah (n+1)).e 314 [.ptr 0 0] [280] [.st 18] rc [.str] [] 0) (m314 (zah n) rc):=by kernel_rfl
theorem q315(n:Nat)(s:By): @Eq (Option (By×J)) ((zah (n+1)).d 315 [.str s] [.str]) (m315 (zah n) s):=by kernel_rfl
theorem q316(n:Nat)(e:Kb.Ex): @Eq (Option (Int×J)) ((zah (n+1)).d 316 [.st 9 e] [I6]) (m316 (zah n) e):=by kernel_rfl
theorem q324(n:Nat)(rc:Gt.Rd×J)(word:By): @Eq (Option (((Gt.Rd×J)×(Bool×J))⊕(Int×Int×J))) ((zah (n+1)).e 324 [.ptr 0 0,.str word] [293] [.st 16] rc [.bool] [I6,I6] 254) (m324 (zah n) rc word):=by kernel_rfl
theorem q325(n:Nat)(rc:Gt.Rd×J): @Eq (Option (((Gt.Rd×J)×(Kb.Ex×J))⊕(Int×Int×J))) ((zah (n+1)).e 325 [.ptr 0 0] [293] [.st 16] rc [.st 9] [I6,I6] 254) (m325 (zah n) rc):=by kernel_rfl
theorem q326(n:Nat)(s:By): @Eq (Option (Bool×J)) ((zah (n+1)).d 326 [.str s] [.bool]) (m326 (zah n) s):=by kernel_rfl
theorem q327(n:Nat)(b:Int): @Eq (Option (Bool×J)) ((zah (n+1)).d 327 [.int .u8 b] [.bool]) (m327 (zah n) b):=by kernel_rfl
theorem q333(n:Nat)(rc:Gt.Rd×J): @Eq (Option (((Gt.Rd×J)×(By×J))⊕(Int×Int×J))) ((zah (n+1)).e 333 [.ptr 0 0] [293] [.st 16] rc [.str] [I6,I6] 254) (m333 (zah n) rc):=by kernel_rfl
end Pe.Tryz
end
