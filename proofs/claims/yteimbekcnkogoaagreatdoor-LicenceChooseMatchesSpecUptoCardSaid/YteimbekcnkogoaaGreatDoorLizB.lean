/- PROVED HERE: a part of the seat's proofs; see the text that holds the claim's theorem. -/
import Derived.Test.YteimbekcnkogoaaGreatDoorNm
import Derived.Recover
import Derived.Shelf.SlicesE.Clone
import Derived.Test.YteimbekcnkogoaaGreatDoorLicZ
import Derived.Test.YteimbekcnkogoaaGreatDoorLizA
import Derived.Test.YteimbekcnkogoaaGreatDoorPeSf
section
/- What is known of three functions that are not read: strings.Join, strings.ToUpper, and licence.read with its deferred call. -/
set_option maxRecDepth 100000
namespace Pe.Tryz
open Go Go.Proofs Pe Go.RowKit
theorem zrX {nu:Nu} {D:Dat} {w:World} {s:List UInt8} {v:Value} (h:Rep (S:=Sx) un nu D w (.str s) v):v= .string ⟨s.toArray⟩:=by simpa only [Rep] using h
noncomputable def e172 (_:Orc Sx):Entry Sx:=⟨[.str],[.str],fun t=>bif Nat.ble (List.length (α:=UInt8) t.1) 1000000&&List.all (α:=UInt8) t.1 (fun b=>Nat.blt b.toNat 128) then some (Lib.toUpperA t.1,()) else none⟩
theorem zn2 {w:World} {s:List UInt8} (h1:s.length≤1000000) (h2:s.all (fun b=>Nat.blt b.toNat 128)=true) :
  Calls Tryz.prog 172 #[.string ⟨s.toArray⟩] w fun x w'=>x= .returned (.string ⟨(Lib.toUpperA s).toArray⟩)∧Below w.heap.size w w':=by
 have hsz:(ByteArray.mk s.toArray).size=s.length:=by simp [ByteArray.size]
 refine Tryz.strings_ToUpper_ascii ⟨s.toArray⟩ w (by rw [hsz];omega) (fun j b hb=> ?_)
 have:=yAQ.1 h2 b (yAc hb)
 simpa [yA4] using this
theorem hok172 (o:Orc Sx) (_:SoundO Tryz.prog un o):Entry.Ok Tryz.prog un 172 (e172 o):=by
 intro t r h D w vs hD ha
 obtain ⟨h1,h2⟩:=zag h
 cases h2
 simp only [yAd,yAR] at h1
 match vs,ha with
 | [v],ha =>
   simp only [e172,zc9,RepL,inj] at ha
   have:=zrX ha.1
   subst this
   refine (zn2 h1.1 h1.2).mono ?_
   rintro x w' ⟨rfl,hb⟩
   exact ⟨_,rfl,hb,by simp only [e172,zc9,zf6,inj,Rep]⟩
 | [],ha=>simp [e172,zc9,RepL] at ha
 | _::_::_,ha=>simp [e172,zc9,RepL] at ha
theorem zsC {D:Dat} {w:World} {x:List UInt8} {cc:List Value} (h:DR (S:=Sx) un D w [.str] (sg (u:= .str) x) cc):cc=[.string ⟨x.toArray⟩]:=by
 cases h with
 | str h'=>cases h';rfl
theorem zn7 {D:Dat} {w:World} {xs:List (List UInt8)} {v:Value} (hv:DR (S:=Sx) un D w [.sl .str] (sg (u:= .sl .str) xs) [v]) :
  (xs=[]∧∃A c,v= .slice A 0 c)∨(xs≠[]∧∃b off c,v= .slice (some ⟨b,off,none⟩) xs.length c∧xs.length≤c∧∀(j:Nat) (x:List UInt8),xs[j]? =some x→D b (off+j)∧w.cell? ⟨b,off+j,none⟩=some (.string ⟨x.toArray⟩)):=by
 cases hv with
 | sl0 A c h0 h=>exact .inl ⟨h0,A,c,rfl⟩
 | sl b off c cs hc k1 k2 h =>
   by_cases hx:xs=[]
   ·subst hx;exact .inl ⟨rfl,some ⟨b,off,none⟩,c,rfl⟩
   ·refine .inr ⟨hx,b,off,c,rfl,hc,fun j x hj=> ?_⟩
    have e1:=k1 j x hj
    have e2:=zsC (k2 j x hj)
    rw [e2] at e1
    simpa [U.size] using e1 0 _ rfl
theorem zpM {D:Dat} {w:World} (hD:∀k o,D k o→k<w.heap.size) {xs:List (List UInt8)} {sep:List UInt8} {v:Value} (hv:DR (S:=Sx) un D w [.sl .str] (sg (u:= .sl .str) xs) [v]) (h1:xs.length≤1000000) (h2:(Lib.join xs sep).length≤100000000) :
  Calls Tryz.prog 89 #[v,.string ⟨sep.toArray⟩] w fun x w'=>x= .returned (.string ⟨(Lib.join xs sep).toArray⟩)∧Below w.heap.size w w':=by
 rcases zn7 hv with ⟨rfl,A,c,rfl⟩ | ⟨hx,b,off,c,rfl,hc,hcell⟩
 ·refine (Tryz.strings_Join_none A c ⟨sep.toArray⟩ w).mono ?_
  rintro x w' ⟨rfl,rfl⟩
  exact ⟨rfl,Below.refl _ _⟩
 ·have hb:b<w.heap.size:=by
   obtain ⟨y,ys,rfl⟩:=List.exists_cons_of_ne_nil hx
   exact hD _ _ (hcell 0 y rfl).1
  have hmap:(xs.map fun x=>ByteArray.mk x.toArray).map (·.data.toList)=xs:=by rw [List.map_map];simp [Function.comp_def]
  have hlen:(xs.map fun x=>ByteArray.mk x.toArray).length=xs.length:=by simp
  have:=Tryz.strings_Join b off c (xs.map fun x=>ByteArray.mk x.toArray) ⟨sep.toArray⟩ w (fun j x hj=>by
   rw [yAh] at hj
   cases hxj:xs[j]? with
   | none=>rw [hxj] at hj;cases hj
   | some y=>rw [hxj] at hj;cases hj;exact (hcell j y hxj).2) hb (by rw [hlen];omega) (by rw [hlen];exact hc) (by rw [hmap];exact yAk h2 (by decide))
  rw [hmap,hlen] at this
  exact this
noncomputable def e89 (_:Orc Sx):Entry Sx:=⟨[.sl .str,.str],[.str],fun t=>bif Nat.ble (List.length (α:=List UInt8) t.1) 1000000&&Nat.ble (Lib.join t.1 t.2.1).length 100000000 then some (Lib.join t.1 t.2.1,()) else none⟩
theorem hok89 (o:Orc Sx) (_:SoundO Tryz.prog un o):Entry.Ok Tryz.prog un 89 (e89 o):=by
 intro t r h D w vs hD ha
 obtain ⟨h1,h2⟩:=zag h
 cases h2
 simp only [yAd,yAR] at h1
 match vs,ha with
 | [v,u],ha =>
   simp only [e89,zc9,RepL,inj] at ha
   have hu:=zrX ha.2.1
   subst hu
   have hv:=ha.1
   simp only [Rep] at hv
   refine (zpM hD hv h1.1 h1.2).mono ?_
   rintro x w' ⟨rfl,hb⟩
   exact ⟨_,rfl,hb,by simp only [e89,zc9,zf6,inj,Rep]⟩
 | [],ha=>simp [e89,zc9,RepL] at ha
 | [_],ha=>simp [e89,zc9,RepL] at ha
 | _::_::_::_,ha=>simp [e89,zc9,RepL] at ha
noncomputable def e91 (o:Orc Sx):EntryP Sx:=⟨.st 4,24,some 92,fun l=>zef o 92 (.st 4) l⟩
theorem hok91 (o:Orc Sx) (h:SoundO Tryz.prog un o):EntryP.Ok Tryz.prog un 91 (e91 o):=fun _ _ h1=>zfD h (ziE Tryz.sort91 Tryz.isAgg24 Tryz.sizeOf24 (zac Tryz.func92 (by kernel_rfl) rfl) 4) (fun p cap fv w=>AnyF.slices_SortFunc_none { Tryz.sort91 with } p cap fv w) h1
noncomputable def e131 (o:Orc Sx):EntryP Sx:=⟨.str,9,some 93,fun l=>zef o 93 (.str) l⟩
theorem hok131 (o:Orc Sx) (h:SoundO Tryz.prog un o):EntryP.Ok Tryz.prog un 131 (e131 o):=fun _ _ h1=>zfD h (zhv Tryz.sort131 (zac Tryz.func93 (by kernel_rfl) rfl) (fun _=>rfl)) (fun p cap fv w=>AnyF.slices_SortFunc_none { Tryz.sort131 with } p cap fv w) h1
noncomputable def e179 (o:Orc Sx):EntryP Sx:=⟨.sl (.st 6),43,some 180,fun l=>zef o 180 (.sl (.st 6)) l⟩
theorem hok179 (o:Orc Sx) (h:SoundO Tryz.prog un o):EntryP.Ok Tryz.prog un 179 (e179 o):=fun _ _ h1=>zfD h (zhv Tryz.sort179 (zac Tryz.func180 (by kernel_rfl) rfl) (fun _=>rfl)) (fun p cap fv w=>AnyF.slices_SortFunc_none { Tryz.sort179 with } p cap fv w) h1
noncomputable def e210 (o:Orc Sx):EntryP Sx:=⟨.st 6,64,some 184,fun l=>zef o 184 (.st 6) l⟩
theorem hok210 (o:Orc Sx) (h:SoundO Tryz.prog un o):EntryP.Ok Tryz.prog un 210 (e210 o):=fun _ _ h1=>zfD h (ziE Tryz.sort210 Tryz.isAgg64 Tryz.sizeOf64 (zac Tryz.func184 (by kernel_rfl) rfl) 6) (fun p cap fv w=>AnyF.slices_SortFunc_none { Tryz.sort210 with } p cap fv w) h1
noncomputable def tabP (o:Orc Sx):Tr (List (EntryP Sx)):=(.node (.node .leaf 91 [e91 o] .leaf) 131 [e131 o] (.node (.node .leaf 179 [e179 o] .leaf) 210 [e210 o] .leaf))
theorem zm4 {f:Nat} {e:EntryP Sx} (h:EntryP.Ok Tryz.prog un f e):EntryPs.Ok Tryz.prog un f [e]:=fun _ he=>yA3.1 he▸h
theorem zsi (o:Orc Sx) (h:SoundO Tryz.prog un o):(tabP o).All (EntryPs.Ok Tryz.prog un):=⟨⟨trivial,zm4 (hok91 o h),trivial⟩,zm4 (hok131 o h),⟨trivial,zm4 (hok179 o h),trivial⟩,zm4 (hok210 o h),trivial⟩
end Pe.Tryz
end
section
/- licence.read: its deferred call takes the panic back. -/
set_option maxRecDepth 100000
namespace Pe
open Go Go.Proofs Go.RowKit
section
variable {S:Nat→Type} {P:Program} {un:Uni S}
theorem zlY {D:Dat} {w:World} {args:List (PV S)} {vs:List Value} {n:Nat} (hD:∀k o,D k o→k<w.heap.size) (ha:RepL un [] D w args vs) (hn:args.length≤n) :
  Holds un ⟨w,[],[]⟩ D ⟨n,[]⟩ (ze4 0 args) [] { tmps:=vs.toArray++Array.replicate (n - vs.toArray.size) undef,defers:=[] } w:=by
 have hlen:=ha.len
 refine ⟨D,[],⟨⟨Wl.Grow.refl _ _,hD,fun r hr=>(by cases hr),fun r hr=>(by cases hr),List.Pairwise.nil,fun i g h=>(by simp at h)⟩,by simp;omega,rfl,by simp [BxRep],fun i p hi=> ?_⟩,fun k o hk=> .inl hk,Ge.refl _ _⟩
 obtain ⟨_,h1⟩:=zc7 args 0 i p hi
 obtain ⟨v,h2,h3⟩:=ha.get i p (by simpa using h1)
 have hlt:i<vs.length:=(yAb.1 h2).1
 simp only [yAp]
 rw [yBJ (by simpa using hlt)]
 simpa [h2] using h3
theorem znM {E:Wl.Ctx} {D:Dat} {H:List Wl.Res} {w:World} (hin:In E D H w) {i g:Nat} (h:E.fix[i]? =some (.pointer (some ⟨g,0,none⟩))):∃T cs,H[i]? =some (.box g T cs):=by
 obtain ⟨r0,h1,h2,h3,_⟩:=hin.lent i _ h
 cases r0 with
 | box g' T cs=>simp [zap] at h3;subst h3;exact ⟨T,cs,h1⟩
 | fix v g' size ob =>
   simp [zap] at h3
   subst h3
   exact absurd (hin.res _ (yAc h1)).1 (zdM _)
 | _=>simp [zaM] at h2
theorem zoU {nu:Nu} {D:Dat} {w:World} {E:Wl.Ctx} {T:TypeId} {cs:List (PV S)} {r:Wl.Res} (h:BoxRep un nu D w E false (.var T cs) r) (hl:cs.length≠1):∃g vs,r= .box g T vs∧RepL un nu D w cs vs:=by
 cases r with
 | box g T' vs=>simp only [BoxRep] at h;obtain ⟨rfl,h⟩:=h;exact ⟨g,vs,rfl,h⟩
 | fix v g size ob=>simp only [BoxRep] at h;have:=h.length;simp at this;omega
 | _=>simp [BoxRep] at h
variable {Q:Exit→Act→List Frame→World→Prop} {ops:Array Oper} {a:Act} {cs:List Frame} {w w':World} {o:Oper} {i:Nat} {rest:List Nat} {v:Value}
theorem zcS (ho:ops[i]? =some o) (hg:o.guard=none) (hr:(execOp a.eval o).run P w= .ok (.value v) w') (h:wpOpsS P ops Q rest (a.put o.dst v) cs w'):wpOpsS P ops Q (i::rest) a cs w:=by
 unfold wpOpsS
 rw [ho]
 simp only [Region.wanted,hg,if_true,hr,Oper.upon]
 exact h
theorem zlS (ho:ops[i]? =some o) (hg:o.guard=none) (hr:(execOp a.eval o).run P w= .ok .skip w') (h:wpOpsS P ops Q rest (a.put o.dst undef) cs w'):wpOpsS P ops Q (i::rest) a cs w:=by
 unfold wpOpsS
 rw [ho]
 simp only [Region.wanted,hg,if_true,hr,Oper.upon]
 exact h
theorem znZ (ho:ops[i]? =some o) (hg:o.guard=none) (hr:(execOp a.eval o).run P w= .ok .recover w') (h:match recoverD cs with
  | some (v,cs')=>wpOpsS P ops Q rest (a.put o.dst v) cs' w'
  | none=>wpOpsS P ops Q rest (a.put o.dst .nilIface) cs w'):wpOpsS P ops Q (i::rest) a cs w:=by
 unfold wpOpsS
 rw [ho]
 simp only [Region.wanted,hg,if_true,hr]
 exact h
end
end Pe
namespace Pe.Tryz
open Go Go.Proofs Pe Go.RowKit
noncomputable def r0C:Code:=match Tryz.f102.body with | some (.seq a _)=>a | _=> .skip
noncomputable def r1C:Code:=match Tryz.f102.body with | some (.seq _ (.seq a _))=>a | _=> .skip
noncomputable def zl0:Code:=match Tryz.f102.body with | some (.seq _ (.seq _ c))=>c | _=> .skip
theorem ztf:Tryz.f102.body=some (.seq r0C (.seq r1C zl0)):=by kernel_rfl
noncomputable def q0C:Array Oper:=match Tryz.f136.body with | some (.seq (.region _ ops _) _)=>ops | _=> #[]
noncomputable def qC:Code:=match Tryz.f136.body with | some (.seq _ c)=>c | _=> .skip
theorem zqa:Tryz.f136.body=some (.seq (.region 0 q0C false) qC):=by kernel_rfl
noncomputable def qop (i:Nat):Oper:=q0C[i]?.getD default
theorem q0C_range:List.range q0C.size=[0,1,2,3,4,5,6,7]:=by kernel_rfl
def an136:Ann:=⟨.leaf,.leaf,[(2,[])],[],[]⟩
def zEx:List (PV Sx):=[.int .i64 0,.str [],.bool false,.str [],.nils]
def zF:List (PV Sx):=[.int .i64 0,.int .i64 0]
def junk (n:Nat):List (PV Sx):=List.replicate n .junk
def zrs (x:Exit) (bx:Bxs Sx):Option (Bxs Sx):=match x with | .normal=>some bx | _=>none
theorem zpV (o:Orc Sx):exec un tb o (zoy un tb o 6) an136 qC (Bxs Sx) [(3,.bool false)] [] (fun x _ bx=>zrs x bx)=some []:=by kernel_rfl
theorem zcL {a:Act} {d:Nat} {v:Value} (h:d<a.tmps.size):(a.put (some d) v).eval (.tmp d)=v:=by
 simp [Act.put,Act.eval,Array.getD,h]
theorem zep {a:Act} {d t:Nat} {v:Value} (h:d≠t):(a.put (some d) v).eval (.tmp t)=a.eval (.tmp t):=by
 simp [Act.put,Act.eval,h]
theorem ze0 {a:Act} {d:Option Nat} {v:Value}:(a.put d v).tmps.size=a.tmps.size:=zm0 a d v
theorem g0:(qop 0).guard=none∧(qop 1).guard=none∧(qop 2).guard=none∧(qop 3).guard=none∧(qop 4).guard=none∧(qop 5).guard=none∧(qop 6).guard=none∧(qop 7).guard=none:=⟨by kernel_rfl,by kernel_rfl,by kernel_rfl,by kernel_rfl,by kernel_rfl,by kernel_rfl,by kernel_rfl,by kernel_rfl⟩
theorem d0:(qop 0).dst=some 5∧(qop 1).dst=some 6∧(qop 2).dst=some 4∧(qop 3).dst=some 7∧(qop 4).dst=some 8∧(qop 5).dst=some 2∧(qop 6).dst=none∧(qop 7).dst=some 3:=⟨by kernel_rfl,by kernel_rfl,by kernel_rfl,by kernel_rfl,by kernel_rfl,by kernel_rfl,by kernel_rfl,by kernel_rfl⟩
theorem qg0:q0C[0]? =some (qop 0):=by kernel_rfl
theorem qg1:q0C[1]? =some (qop 1):=by kernel_rfl
theorem qg2:q0C[2]? =some (qop 2):=by kernel_rfl
theorem qg3:q0C[3]? =some (qop 3):=by kernel_rfl
theorem qg4:q0C[4]? =some (qop 4):=by kernel_rfl
theorem qg5:q0C[5]? =some (qop 5):=by kernel_rfl
theorem qg6:q0C[6]? =some (qop 6):=by kernel_rfl
theorem qg7:q0C[7]? =some (qop 7):=by kernel_rfl
theorem o1:(qop 1).op= .typeAssert (.tmp 5) 20 123 true:=by kernel_rfl
theorem o2:(qop 2).op= .move (.tmp 6):=by kernel_rfl
theorem o3:(qop 3).op= .extract (.tmp 4) 0:=by kernel_rfl
theorem o4:(qop 4).op= .extract (.tmp 4) 1:=by kernel_rfl
theorem o5:(qop 5).op= .alloc 123:=by kernel_rfl
theorem o6:(qop 6).op= .store 123 (.tmp 2) (.tmp 7):=by kernel_rfl
theorem o7:(qop 7).op= .assign (.tmp 8):=by kernel_rfl
theorem rec0 (ρ:Operand→Value) (w:World):(execOp ρ (qop 0)).run Tryz.prog w= .ok .recover w:=by kernel_rfl
theorem ta_no (w:World):(Instr.typeAssert .nilIface 20 123 true).run Tryz.prog w= .ok (.tuple #[.agg #[.int .i64 0,.int .i64 0],.bool false]) w:=by kernel_rfl
theorem ztz (v:Value) (w:World):(Instr.typeAssert (.iface 123 v) 20 123 true).run Tryz.prog w= .ok (.tuple #[v,.bool true]) w:=by kernel_rfl
theorem al49 (w:World):(Instr.alloc 123 true (.tuple #[])).run Tryz.prog w= .ok (.pointer (some ⟨w.heap.size,0,none⟩)) (w.alloc (.cells #[.int .i64 0,.int .i64 0] 123)):=by kernel_rfl
theorem ztC:(Tryz.prog.info? 123).map (·.size)=some 2:=by kernel_rfl
theorem zjc {Q:Exit→Act→List Frame→World→Prop} {a:Act} {cs cs':List Frame} {w:World} {x y:Int} {v0:Value} {b:Bool} (hs:a.tmps.size=12)
  (hrec:(match recoverD cs with | some (v,cs')=>(v,cs') | none=>(.nilIface,cs))=(v0,cs')) (hta:(Instr.typeAssert v0 20 123 true).run Tryz.prog w= .ok (.tuple #[.agg #[.int .i64 x,.int .i64 y],.bool b]) w)
  (h:∀a' w',a'.tmps.size=12→a'.defers=a.defers→a'.eval (.tmp 0)=a.eval (.tmp 0)→a'.eval (.tmp 1)=a.eval (.tmp 1)→a'.eval (.tmp 2)= .pointer (some ⟨w.heap.size,0,none⟩)→a'.eval (.tmp 3)= .bool b →
   Below w.heap.size w w'→w'.heap[w.heap.size]? =some (.cells #[.int .i64 x,.int .i64 y] 123 (0,0))→Q .normal a' cs' w') :
  wpOpsS Tryz.prog q0C Q [0,1,2,3,4,5,6,7] a cs w:=by
 obtain ⟨k0,k1,k2,k3,k4,k5,k6,k7⟩:=g0
 obtain ⟨e0,e1,e2,e3,e4,e5,e6,e7⟩:=d0
 have go:∀a0:Act,a0.tmps.size=12→a0.defers=a.defers→a0.eval (.tmp 0)=a.eval (.tmp 0)→a0.eval (.tmp 1)=a.eval (.tmp 1)→a0.eval (.tmp 5)=v0→wpOpsS Tryz.prog q0C Q [1,2,3,4,5,6,7] a0 cs' w:=by
  intro a0 hs0 hd0 hp0 hp1 hv0
  refine zcS qg1 k1 (v:= .tuple #[.agg #[.int .i64 x,.int .i64 y],.bool b]) (w':=w) (by simp [execOp,o1,hv0,hta]) ?_
  rw [e1]
  generalize ha1:a0.put (some 6) _=a1
  have hs1:a1.tmps.size=12:=by rw [←ha1,ze0,hs0]
  have hv1:a1.eval (.tmp 6)= .tuple #[.agg #[.int .i64 x,.int .i64 y],.bool b]:=by rw [←ha1];exact zcL (by omega)
  have hk1:∀t,6≠t→a1.eval (.tmp t)=a0.eval (.tmp t):=fun t ht=>by rw [←ha1];exact zep ht
  have hd1:a1.defers=a0.defers:=by rw [←ha1];rfl
  refine zcS qg2 k2 (v:= .tuple #[.agg #[.int .i64 x,.int .i64 y],.bool b]) (w':=w) (by simp [execOp,o2,hv1]) ?_
  rw [e2]
  generalize ha2:a1.put (some 4) _=a2
  have hs2:a2.tmps.size=12:=by rw [←ha2,ze0,hs1]
  have hv2:a2.eval (.tmp 4)= .tuple #[.agg #[.int .i64 x,.int .i64 y],.bool b]:=by rw [←ha2];exact zcL (by omega)
  have hk2:∀t,4≠t→a2.eval (.tmp t)=a1.eval (.tmp t):=fun t ht=>by rw [←ha2];exact zep ht
  have hd2:a2.defers=a1.defers:=by rw [←ha2];rfl
  refine zcS qg3 k3 (v:= .agg #[.int .i64 x,.int .i64 y]) (w':=w) (by simp [execOp,o3,hv2,Instr.extract]) ?_
  rw [e3]
  generalize ha3:a2.put (some 7) _=a3
  have hs3:a3.tmps.size=12:=by rw [←ha3,ze0,hs2]
  have hv3:a3.eval (.tmp 7)= .agg #[.int .i64 x,.int .i64 y]:=by rw [←ha3];exact zcL (by omega)
  have hk3:∀t,7≠t→a3.eval (.tmp t)=a2.eval (.tmp t):=fun t ht=>by rw [←ha3];exact zep ht
  have hd3:a3.defers=a2.defers:=by rw [←ha3];rfl
  refine zcS qg4 k4 (v:= .bool b) (w':=w) (by simp [execOp,o4,hk3 4 (by decide),hv2,Instr.extract]) ?_
  rw [e4]
  generalize ha4:a3.put (some 8) _=a4
  have hs4:a4.tmps.size=12:=by rw [←ha4,ze0,hs3]
  have hv4:a4.eval (.tmp 8)= .bool b:=by rw [←ha4];exact zcL (by omega)
  have hk4:∀t,8≠t→a4.eval (.tmp t)=a3.eval (.tmp t):=fun t ht=>by rw [←ha4];exact zep ht
  have hd4:a4.defers=a3.defers:=by rw [←ha4];rfl
  refine zcS qg5 k5 (v:= .pointer (some ⟨w.heap.size,0,none⟩)) (w':=w.alloc (.cells #[.int .i64 0,.int .i64 0] 123)) (by simp [execOp,o5,al49]) ?_
  rw [e5]
  generalize ha5:a4.put (some 2) _=a5
  have hs5:a5.tmps.size=12:=by rw [←ha5,ze0,hs4]
  have hv5:a5.eval (.tmp 2)= .pointer (some ⟨w.heap.size,0,none⟩):=by rw [←ha5];exact zcL (by omega)
  have hk5:∀t,2≠t→a5.eval (.tmp t)=a4.eval (.tmp t):=fun t ht=>by rw [←ha5];exact zep ht
  have hd5:a5.defers=a4.defers:=by rw [←ha5];rfl
  have hnew:=heap_alloc_new w (.cells #[.int .i64 0,.int .i64 0] 123 (0,0))
  obtain ⟨s1,s2⟩:=zei w.heap.size 123 [.int .i64 x,.int .i64 y] [.int .i64 0,.int .i64 0] 0 (w.alloc (.cells #[.int .i64 0,.int .i64 0] 123)) hnew
  have hst:(Instr.storeAt 123 (.pointer (some ⟨w.heap.size,0,none⟩)) (.agg #[.int .i64 x,.int .i64 y])).run Tryz.prog (w.alloc (.cells #[.int .i64 0,.int .i64 0] 123))= .ok () ((w.alloc (.cells #[.int .i64 0,.int .i64 0] 123)).setCells w.heap.size 0 [.int .i64 x,.int .i64 y]):=by
   have:=run_storeAt_mid (P:=Tryz.prog) (w.alloc (.cells #[.int .i64 0,.int .i64 0] 123)) w.heap.size 0 123 #[.int .i64 x,.int .i64 y] (fun j hj=>⟨by
    rw [cell_of_row _ _ _ _ _ _ hnew]
    have:j<2:=hj
    rcases j with _ | _ | j
    ·rfl
    ·rfl
    ·omega,by unfold World.frozen?;simp only [];rw [hnew];rfl⟩) (by rw [ztC];rfl) (by rw [Array.all_eq_true];intro i hi;rcases i with _ | _ | i<;>first | rfl | (simp at hi;omega))
   exact this
  have hb:Below w.heap.size w ((w.alloc (.cells #[.int .i64 0,.int .i64 0] 123)).setCells w.heap.size 0 [.int .i64 x,.int .i64 y]):=by
   have h1:Below w.heap.size w (w.alloc (.cells #[.int .i64 0,.int .i64 0] 123)):=(Below.refl _ _).alloc (yAi _) _
   refine ⟨s2.os.trans h1.os,s2.tape.trans h1.tape,s2.output.trans h1.output,yAk h1.size s2.size,fun k hk=> ?_⟩
   rw [s2.block k (yAy hk h1.size) (by simp;omega),h1.block k hk]
  refine zlS qg6 k6 (w':=(w.alloc (.cells #[.int .i64 0,.int .i64 0] 123)).setCells w.heap.size 0 [.int .i64 x,.int .i64 y]) (by simp [execOp,o6,hv5,hk5 7 (by decide),hk4 7 (by decide),hv3,hst]) ?_
  rw [e6]
  refine zcS qg7 k7 (v:= .bool b) (w':=(w.alloc (.cells #[.int .i64 0,.int .i64 0] 123)).setCells w.heap.size 0 [.int .i64 x,.int .i64 y]) (by simp [execOp,o7,Act.put,hk5 8 (by decide),hv4]) ?_
  rw [e7]
  unfold wpOpsS
  have old:∀t,t≠3→t≠2→t≠8→t≠7→t≠4→t≠6→((a5.put none undef).put (some 3) (.bool b)).eval (.tmp t)=a0.eval (.tmp t):=fun t h3 h2 h8 h7 h4 h6=>by
   rw [zep (Ne.symm h3)]
   show a5.eval (.tmp t)=_
   rw [hk5 t (Ne.symm h2),hk4 t (Ne.symm h8),hk3 t (Ne.symm h7),hk2 t (Ne.symm h4),hk1 t (Ne.symm h6)]
  refine h _ _ (by rw [ze0,ze0,hs5]) ?_ ?_ ?_ ?_ (zcL (by rw [ze0];omega)) hb (by simpa [za1.spliceV] using s1)
  ·show a5.defers=_
   rw [hd5,hd4,hd3,hd2,hd1,hd0]
  ·rw [old 0 (by decide) (by decide) (by decide) (by decide) (by decide) (by decide),hp0]
  ·rw [old 1 (by decide) (by decide) (by decide) (by decide) (by decide) (by decide),hp1]
  ·rw [zep (by decide)];exact hv5
 refine znZ qg0 k0 (w':=w) (rec0 _ w) ?_
 rw [e0]
 cases hc:recoverD cs with
 | none =>
   rw [hc] at hrec
   simp only [Prod.mk.injEq] at hrec ⊢
   obtain ⟨rfl,rfl⟩:=hrec
   exact go _ (by rw [ze0,hs]) rfl (zep (by decide)) (zep (by decide)) (zcL (by omega))
 | some z =>
   rw [hc] at hrec
   obtain ⟨z1,z2⟩:=z
   simp only [Prod.mk.injEq] at hrec ⊢
   obtain ⟨rfl,rfl⟩:=hrec
   exact go _ (by rw [ze0,hs]) rfl (zep (by decide)) (zep (by decide)) (zcL (by omega))
theorem f136_res:Tryz.f136.results.toList=[]:=by kernel_rfl
theorem f136_n:Tryz.f136.ntmps=12:=by kernel_rfl
theorem qC_w:(za2 qC).all (Nat.blt · 12)=true:=by kernel_rfl
theorem ztb {o:Orc Sx} (hor:SoundO Tryz.prog un o) (p0 p1:Value) (w:World):CallsD Tryz.prog 136 #[p0,p1] .returning w fun e u' w'=>(∃v,e= .returned v)∧u'= .returning∧Below w.heap.size w w':=by
 refine callsD_of_wpS Tryz.func136 zqa fun c₀ cs hu=>wpS_seq (wpS_region ?_)
 rw [q0C_range]
 refine zjc (by rw [f136_n];rfl) (v0:= .nilIface) (cs':=c₀::cs) (by simp [recoverD,hu]) (ta_no w) fun a' w' hs hd _ _ _ h3 hb _=> ?_
 show qC.wpS Tryz.prog _ a' (c₀::cs) w'
 refine wpS_of_wp (zfp (E:=⟨w',[],[]⟩) (D0:=fun _ _=>False) (N:=⟨12,[]⟩) mixed zaq zaP hor (zbV mixed zaq zaP hor 6) _ _ _ _ _ _ (zpV o) (fun d hdd=>by have:=yAQ.1 qC_w d hdd;simpa [yA4] using this)
  ⟨fun _ _=>False,[],⟨⟨Wl.Grow.refl _ _,fun _ _ h=>h.elim,fun r hr=>(by cases hr),fun r hr=>(by cases hr),List.Pairwise.nil,fun i g h=>(by simp at h)⟩,hs,by rw [hd],by simp [BxRep],fun i p hi=> ?_⟩,fun _ _ h=>h.elim,Ge.refl _ _⟩ fun x e' bx' hk _ _ a2 w2 hH=> ?_)
 ·simp only [look] at hi
  cases hb3:Nat.beq 3 i with
  | true =>
    rw [hb3] at hi
    have:=yAa hb3
    subst this
    simp at hi;subst hi
    simp only [Rep];exact h3
  | false=>rw [hb3] at hi;simp at hi
 ·cases x with
  | normal =>
    obtain ⟨D',H',hs',_⟩:=hH
    obtain ⟨v,_,_,g1,_⟩:=zci (fn:=Tryz.f136) (ps:=[]) zaq zaP hs' (by rw [f136_res];rfl) (rs:=[]) (t:=()) rfl
    refine ⟨hs'.defers,.returning,?_,v,g1,⟨v,rfl⟩,rfl,?_⟩
    ·rw [←hu]
    ·have hg:=hs'.inn.out
     exact ⟨hg.os.trans hb.os,hg.tape.trans hb.tape,hg.output.trans hb.output,yAk hb.size hg.size,fun k hk=>(hg.block k (yAy hk hb.size) (by simp)).trans (hb.block k hk)⟩
  | _=>cases hk
def zte (a c:Int):Bxs Sx:=[.var 24 (junk 5),.var 123 (junk 2),.var 123 [.int .i64 a,.int .i64 c]]
def zrF (a c:Int):Bxs Sx:=[.var 24 zEx,.var 123 [.int .i64 a,.int .i64 c],.var 123 [.int .i64 a,.int .i64 c]]
theorem zmv (o:Orc Sx) (a c:Int):exec un tb o (zoy un tb o 6) an136 qC (Bxs Sx) [(0,.ptr 0 0),(1,.ptr 1 0),(2,.ptr 2 0),(3,.bool true)] (zte a c) (fun x _ bx=>zrs x bx)=same (same (some (zrF a c)) (some (zrF a c))) (some (zrF a c)):=by kernel_rfl
theorem zoC (o:Orc Sx) (a c:Int):exec un tb o (zoy un tb o 6) an136 qC (Bxs Sx) [(0,.ptr 0 0),(1,.ptr 1 0),(2,.ptr 2 0),(3,.bool true)] (zte a c) (fun x _ bx=>zrs x bx)=some (zrF a c):=by
 rw [zmv,zb4,zb4]
def zExV:Array Value:= #[.int .i64 0,.string ⟨#[]⟩,.bool false,.string ⟨#[]⟩,.slice none 0 0]
theorem zqz {nu:Nu} {D:Dat} {w:World} {vs:List Value} (h:RepL (S:=Sx) un nu D w zEx vs):vs=zExV.toList:=by
 match vs,h with
 | [a,b,c,d,e],h =>
   simp only [zEx,RepL,Rep] at h
   obtain ⟨rfl,rfl,rfl,rfl,rfl,_⟩:=h
   rfl
 | [],h=>simp [zEx,RepL] at h
 | [_],h=>simp [zEx,RepL] at h
 | [_,_],h=>simp [zEx,RepL] at h
 | [_,_,_],h=>simp [zEx,RepL] at h
 | [_,_,_,_],h=>simp [zEx,RepL] at h
 | _::_::_::_::_::_::_,h=>simp [zEx,RepL] at h
theorem zqD {nu:Nu} {D:Dat} {w:World} {x y:Int} {vs:List Value} (h:RepL (S:=Sx) un nu D w [.int .i64 x,.int .i64 y] vs):vs=[.int .i64 x,.int .i64 y]:=by
 match vs,h with
 | [a,b],h =>
   simp only [RepL,Rep] at h
   obtain ⟨rfl,rfl,_⟩:=h
   rfl
 | [],h=>simp [RepL] at h
 | [_],h=>simp [RepL] at h
 | _::_::_::_,h=>simp [RepL] at h
theorem zrA {o:Orc Sx} (hor:SoundO Tryz.prog un o) (g0 g1:Nat) (x y:Int) (w:World) (c0 c1:List Value) (hg0:w.heap[g0]? =some (.cells c0.toArray 24 (0,0))) (hg1:w.heap[g1]? =some (.cells c1.toArray 123 (0,0))) (hl0:c0.length=5) (hl1:c1.length=2) (hne:g0≠g1) :
  CallsD Tryz.prog 136 #[.pointer (some ⟨g0,0,none⟩),.pointer (some ⟨g1,0,none⟩)] (.panicking [⟨.iface 123 (.agg #[.int .i64 x,.int .i64 y]),false,false⟩]) w fun e u' w'=>(∃v,e= .returned v)∧settle u'= .returning∧Wl.Grow [g0,g1] w w' ∧
   w'.heap[g0]? =some (.cells zExV 24 (0,0))∧w'.heap[g1]? =some (.cells #[.int .i64 x,.int .i64 y] 123 (0,0)):=by
 refine callsD_of_wpS Tryz.func136 zqa fun c₀ cs hu=>wpS_seq (wpS_region ?_)
 rw [q0C_range]
 refine zjc (by rw [f136_n];rfl) (v0:= .iface 123 (.agg #[.int .i64 x,.int .i64 y])) (cs':={ c₀ with mode:= .panicking [⟨.iface 123 (.agg #[.int .i64 x,.int .i64 y]),true,false⟩] }::cs) (by simp [recoverD,hu]) (ztz _ w) fun a' w' hs hd h0 h1 h2 h3 hb hnew=> ?_
 show qC.wpS Tryz.prog _ a' _ w'
 have hlt0:g0<w.heap.size:=(yAz.1 hg0).1
 have hlt1:g1<w.heap.size:=(yAz.1 hg1).1
 have hg0':w'.heap[g0]? =some (.cells c0.toArray 24 (0,0)):=(hb.block g0 hlt0).trans hg0
 have hg1':w'.heap[g1]? =some (.cells c1.toArray 123 (0,0)):=(hb.block g1 hlt1).trans hg1
 refine wpS_of_wp (zfp (E:=⟨w,[g0,g1],[.pointer (some ⟨g0,0,none⟩),.pointer (some ⟨g1,0,none⟩)]⟩) (D0:=fun _ _=>False) (N:=⟨12,[]⟩) mixed zaq zaP hor (zbV mixed zaq zaP hor 6) _ _ _ _ _ _ (zoC o x y) (fun d hdd=>by have:=yAQ.1 qC_w d hdd;simpa [yA4] using this)
  ⟨fun _ _=>False,[.box g0 24 c0,.box g1 123 c1,.box w.heap.size 123 [.int .i64 x,.int .i64 y]],⟨⟨Wl.Grow.of_below hb,fun _ _ h=>h.elim,fun r hr=> ?_,fun r hr g hg o' _ h=>h.elim,?_,fun i g h=> ?_⟩,hs,by rw [hd],?_,fun i p hi=> ?_⟩,fun _ _ h=>h.elim,⟨fun _ _ h=>h,fun _ _ h=>h.elim⟩⟩ fun xx e' bx' hk _ _ a2 w2 hH=> ?_)
 ·simp only [yAj,yBv,or_false] at hr
  rcases hr with rfl | rfl | rfl
  ·exact ⟨.inr (by simp),hg0'⟩
  ·exact ⟨.inr (by simp),hg1'⟩
  ·exact ⟨.inl (yAi _),hnew⟩
 ·refine yAE.2 ⟨fun r hr g h1' h2'=> ?_,yAE.2 ⟨fun r hr g h1' h2'=> ?_,yAT _ _⟩⟩
  ·simp only [yAj,yBv,or_false] at hr
   rcases hr with rfl | rfl<;>simp [Wl.Res.block] at h1' h2'<;>omega
  ·simp only [yAj,yBv,or_false] at hr
   subst hr
   simp [Wl.Res.block] at h1' h2';omega
 ·rcases i with _ | _ | i
  ·simp at h;subst h;exact ⟨_,rfl,rfl,rfl,keptR.box⟩
  ·simp at h;subst h;exact ⟨_,rfl,rfl,rfl,keptR.box⟩
  ·simp at h
 ·simp only [zte,BxRep,BoxRep]
  have j5:∀{nu:Nu} {cs:List Value} {n:Nat},cs.length=n→RepL (S:=Sx) un nu (fun _ _=>False) w' (junk n) cs:=by
   intro nu cs n hn
   subst hn
   induction cs with
   | nil=>simp [junk,RepL]
   | cons v cs ih=>simp only [junk,yAt,List.replicate_succ,RepL,Rep];exact ⟨trivial,ih⟩
  refine ⟨⟨trivial,j5 hl0⟩,⟨trivial,j5 hl1⟩,⟨trivial,?_⟩,trivial⟩
  simp only [RepL,Rep];exact ⟨trivial,trivial,trivial⟩
 ·have hget:∀j,a'.tmps.getD j undef=a'.eval (.tmp j):=fun j=>rfl
  simp only [look] at hi
  rw [hget]
  cases hb0:Nat.beq 0 i with
  | true =>
    rw [hb0] at hi
    have:=yAa hb0
    subst this
    simp at hi;subst hi
    rw [h0];simp only [Rep,ids]
    exact ⟨g0,rfl,rfl⟩
  | false =>
    rw [hb0] at hi
    simp only [cond_false] at hi
    cases hb1:Nat.beq 1 i with
    | true =>
      rw [hb1] at hi
      have:=yAa hb1
      subst this
      simp at hi;subst hi
      rw [h1];simp only [Rep,ids]
      exact ⟨g1,rfl,rfl⟩
    | false =>
      rw [hb1] at hi
      simp only [cond_false] at hi
      cases hb2:Nat.beq 2 i with
      | true =>
        rw [hb2] at hi
        have:=yAa hb2
        subst this
        simp at hi;subst hi
        rw [h2];simp only [Rep,ids]
        exact ⟨w.heap.size,rfl,rfl⟩
      | false =>
        rw [hb2] at hi
        simp only [cond_false] at hi
        cases hb3:Nat.beq 3 i with
        | true =>
          rw [hb3] at hi
          have:=yAa hb3
          subst this
          simp at hi;subst hi
          rw [h3];simp only [Rep]
        | false=>rw [hb3] at hi;simp at hi
 ·cases xx with
  | normal =>
    simp only [zrs,yAf] at hk
    subst hk
    obtain ⟨D',H',hs',_⟩:=hH
    obtain ⟨v,_,_,g1',_⟩:=zci (fn:=Tryz.f136) (ps:=[]) zaq zaP hs' (by rw [f136_res];rfl) (rs:=[]) (t:=()) rfl
    refine ⟨hs'.defers,_,rfl,v,g1',⟨v,rfl⟩,rfl,hs'.inn.out,?_,?_⟩
    ·obtain ⟨T,cs',hH0⟩:=znM hs'.inn (i:=0) (g:=g0) rfl
     obtain ⟨r,hr1,hr2⟩:=hs'.boxes.get (i:=0) (b:= .var 24 zEx) rfl
     rw [hH0] at hr1;cases hr1
     simp only [BoxRep] at hr2
     obtain ⟨rfl,hl⟩:=hr2
     have:=(hs'.inn.res _ (yAc hH0)).2
     rw [zqz hl] at this
     exact this
    ·obtain ⟨T,cs',hH0⟩:=znM hs'.inn (i:=1) (g:=g1) rfl
     obtain ⟨r,hr1,hr2⟩:=hs'.boxes.get (i:=1) (b:= .var 123 [.int .i64 x,.int .i64 y]) rfl
     rw [hH0] at hr1;cases hr1
     simp only [BoxRep] at hr2
     obtain ⟨rfl,hl⟩:=hr2
     have:=(hs'.inn.res _ (yAc hH0)).2
     rw [zqD hl] at this
     exact this
  | _=>cases hk
def znU:Ann:=⟨(.node .leaf 7 ⟨[],[],[]⟩ .leaf),.leaf,[],[],[]⟩
abbrev zqp:=ElL Sx [(.st 4),(.st 7)]⊕ElL Sx [.int .i64,.int .i64]
noncomputable def zmi (orc:Orc Sx) (s:List UInt8):Option zqp:=(oc (α:=((Gt.Rdr×Unit)×(Unit))) (β:=Int×Int×Unit) (orc.e 137 [.ptr 0 0] [162] [(.st 9)] (((Gt.Rdr.mk s 0 (Gt.Tok.mk 0 [] 0 false) 0),()):Gt.Rdr×Unit) [] [(.int .i64),(.int .i64)] 123) (fun (r1:((Gt.Rdr×Unit)×(Unit)))=>(oc (α:=((Gt.Rdr×Unit)×(LicSpec.Ex×Unit))) (β:=Int×Int×Unit) (orc.e 138 [.ptr 0 0] [162] [(.st 9)] ((r1.1.1,()):Gt.Rdr×Unit) [(.st 4)] [(.int .i64),(.int .i64)] 123) (fun (r2:((Gt.Rdr×Unit)×(LicSpec.Ex×Unit)))=>(zaz (σ:=Unit) (R:=_) (br ((Gt.Tok.kind (Gt.Rdr.now r2.1.1)) != 0) (oc (α:=((Unit)×(Unit))) (β:=Int×Int×Unit) (orc.e 139 [.int .i64 (Gt.Tok.at_ (Gt.Rdr.now r2.1.1)),.int .i64 6] [] [] ((()):Unit) [] [(.int .i64),(.int .i64)] 123) (fun (_:((Unit)×(Unit)))=>(some (.inl (())))) fun (p4:Int×Int×Unit)=>(some (.inr (.inr (p4.1,p4.2.1,()))))) (some (.inl (())))) fun (_:Unit)=>(some (.inl ((LicSpec.Ex.mk (LicSpec.Ex.kind r2.2.1) (LicSpec.Ex.name r2.2.1) (LicSpec.Ex.later r2.2.1) (LicSpec.Ex.wth r2.2.1) (LicSpec.Ex.kids r2.2.1)),(Gt.Licence_fault.mk 0 0),()))))) fun (p6:Int×Int×Unit)=>(some (.inr (p6.1,p6.2.1,()))))) fun (p7:Int×Int×Unit)=>(some (.inr (p7.1,p7.2.1,()))))
noncomputable def zoB (e:Env Sx) (bx:Bxs Sx):Option zqp:=match zfe un tb e bx Tryz.f102.results.toList with
 | some l=>(match zf2 un (zas (zfd l) bx) [.st 4,.st 7] l with | some c=>some (.inl c) | none=>none)
 | none=>none
noncomputable def finR (x:Exit) (e:Env Sx) (bx:Bxs Sx):Option zqp:=match x with
 | .normal=>zoB e bx
 | .ret=>zoB e bx
 | .panic ch=>(match zoY 123 [.int .i64,.int .i64] ch with | some p=>some (.inr p) | none=>none)
 | _=>none
theorem zra (o:Orc Sx) (s:List UInt8):exec un tb o (zoy un tb o 6) znU zl0 zqp [(3,.ptr 1 0),(2,.ptr 0 0),(0,.str s)] [.var 24 zEx,.var 123 zF] finR=zmi o s:=by kernel_rfl
noncomputable def e102 (o:Orc Sx):Entry Sx:=⟨[.str],[.st 4,.st 7],fun t=>match zmi o t.1 with
 | some (.inl c)=>some c
 | some (.inr p)=>some (LicSpec.Ex.zero,⟨p.1,p.2.1⟩,())
 | none=>none⟩
def fin0 (x:Exit) (e:Env Sx) (bx:Bxs Sx):Option (Env Sx×Bxs Sx):=match x with | .normal=>some (e,bx) | _=>none
theorem zs6 (o:Orc Sx) (s:List UInt8):exec un tb o (zoy un tb o 6) znU r0C (Env Sx×Bxs Sx) [(0,.str s)] [] fin0=some ([(3,.ptr 1 0),(2,.ptr 0 0),(0,.str s)],[.var 24 zEx,.var 123 zF]):=by kernel_rfl
theorem f102_n:Tryz.f102.ntmps=27:=by kernel_rfl
theorem r0_w:(za2 r0C).all (Nat.blt · 27)=true:=by kernel_rfl
theorem ztE:(za2 zl0).all (Nat.blt · 27)=true:=by kernel_rfl
theorem ziB:(zbg znU zl0).contains 2=false∧(zbg znU zl0).contains 3=false:=⟨by kernel_rfl,by kernel_rfl⟩
noncomputable def zqu (i:Nat):Oper:=match r1C with | .region _ ops _=>ops[i]?.getD default | _=>default
theorem ztG:r1C= .region 1 [zqu 0,zqu 1].toArray false:=by kernel_rfl
theorem r1_0:(zqu 0).op= .makeFunc (.func 136) #[] #[.tmp 2,.tmp 3]:=by kernel_rfl
theorem r1_1:∃c:Call,(zqu 1).op= .defer c∧c.callee= .value (.tmp 5)∧c.args= #[]:=⟨⟨.value (.tmp 5),#[],#[]⟩,by kernel_rfl,by kernel_rfl,by kernel_rfl⟩
theorem r1_g:(zqu 0).guard=none∧(zqu 1).guard=none:=⟨by kernel_rfl,by kernel_rfl⟩
theorem r1_d:(zqu 0).dst=some 5∧(zqu 1).dst=none:=⟨by kernel_rfl,by kernel_rfl⟩
theorem ztO (p0 p1:Value) (w:World):(invoke (.fn (.func 136) #[p0,p1]) #[]).run Tryz.prog w= .ok (.enter 136 #[p0,p1]) w:=by kernel_rfl
theorem resR (x y:Int):zoB [(2,.ptr 0 0),(3,.ptr 1 0)] [.var 24 zEx,.var 123 [.int .i64 x,.int .i64 y]]=some (.inl (LicSpec.Ex.zero,⟨x,y⟩,())):=by kernel_rfl
theorem zgT {l:List Nat} {i:Nat} (h:l.contains i=false):i∉l:=by simpa using h
theorem zi3 {e:Env Sx} {bx:Bxs Sx} {r:zqp} (h:zoB e bx=some r):∃l c,zfe un tb e bx Tryz.f102.results.toList=some l∧zf2 un (zas (zfd l) bx) [.st 4,.st 7] l=some c∧r= .inl c:=by
 unfold zoB at h
 split at h
 ·rename_i l hl
  split at h
  ·rename_i c hc;cases h;exact ⟨l,c,hl,hc,rfl⟩
  ·cases h
 ·cases h
theorem hok102 (o:Orc Sx) (h:SoundO Tryz.prog un o):Entry.Ok Tryz.prog un 102 (e102 o):=by
 intro t r hr D w vs hD ha
 obtain ⟨s,_⟩:=t
 match vs,ha with
 | [],ha=>simp [e102,zc9,RepL] at ha
 | _::_::_,ha=>simp [e102,zc9,RepL] at ha
 | [v],ha =>
 have ha':RepL (S:=Sx) un [] D w [.str s] [v]:=ha
 have hin:=zbV mixed zaq zaP h 6
 refine calls_of_wp_defers Tryz.func102 ztf ?_
 rw [f102_n]
 have hst:=zlY (n:=27) hD ha' (by simp)
 refine wp_seq (zfp (E:=⟨w,[],[]⟩) (D0:=D) (N:=⟨27,[]⟩) mixed zaq zaP h hin _ _ _ _ _ _ (zs6 o s) (fun d hdd=>by have:=yAQ.1 r0_w d hdd;simpa [yA4] using this) hst fun x e bx hk _ _ a1 w1 hH=> ?_)
 have hx:x= .normal:=by cases x<;>first | rfl | cases hk
 subst hx
 simp only [fin0,yAf,Prod.mk.injEq] at hk
 obtain ⟨rfl,rfl⟩:=hk
 show (Code.seq r1C zl0).wp _ _ a1 w1
 obtain ⟨D1,H1,st1,hD1,_⟩:=hH
 obtain ⟨b0,hb0,hb0'⟩:=st1.boxes.get (i:=0) (b:= .var 24 zEx) rfl
 obtain ⟨b1,hb1,hb1'⟩:=st1.boxes.get (i:=1) (b:= .var 123 zF) rfl
 have hres0:=st1.inn.res _ (yAc hb0)
 have hres1:=st1.inn.res _ (yAc hb1)
 obtain ⟨g0,cs0,rfl,hl0⟩:=zoU hb0' (by decide)
 obtain ⟨g1,cs1,rfl,hl1⟩:=zoU hb1' (by decide)
 have hge0:w.heap.size≤g0:=by rcases hres0.1 with h1 | h1;exact h1;simp at h1
 have hge1:w.heap.size≤g1:=by rcases hres1.1 with h1 | h1;exact h1;simp at h1
 have hne:g0≠g1:=fun he=>by have:=zce st1.inn.disj hb0 hb1 (g:=g0) rfl (by rw [he];rfl);omega
 have hHl:H1=[.box g0 24 cs0,.box g1 123 cs1]:=by
  have hlen:=st1.boxes.length
  match H1,hb0,hb1,hlen with
  | [x,y],hb0,hb1,_=>simp at hb0 hb1;rw [hb0,hb1]
  | [],hb0,_,_=>simp at hb0
  | [_],_,hb1,_=>simp at hb1
  | _::_::_::_,_,_,hlen=>simp at hlen
 have hv2:a1.tmps.getD 2 undef= .pointer (some ⟨g0,0,none⟩):=by
  have:=st1.slots 2 (.ptr 0 0) rfl
  simp only [Rep,ids,yAh,hb0,yAg,zap,yAf,Prod.mk.injEq,true_and] at this
  obtain ⟨g,h1,h2⟩:=this
  simp at h1;subst h1;exact h2
 have hv3:a1.tmps.getD 3 undef= .pointer (some ⟨g1,0,none⟩):=by
  have:=st1.slots 3 (.ptr 1 0) rfl
  simp only [Rep,ids,yAh,hb1,yAg,zap,yAf,Prod.mk.injEq,true_and] at this
  obtain ⟨g,h1,h2⟩:=this
  simp at h1;subst h1;exact h2
 refine wp_seq ?_
 rw [ztG]
 refine wp_region_lit (wpList_plain r1_g.1 fun K hK=> ?_)
 have hrun0:(execOp a1.eval (zqu 0)).run Tryz.prog w1= .ok (.value (.func (.func 136) #[] #[.pointer (some ⟨g0,0,none⟩),.pointer (some ⟨g1,0,none⟩)])) w1:=by
  have e2:a1.eval (.tmp 2)= .pointer (some ⟨g0,0,none⟩):=hv2
  have e3:a1.eval (.tmp 3)= .pointer (some ⟨g1,0,none⟩):=hv3
  simp only [execOp,r1_0]
  simp [e2,e3]
  rfl
 unfold Oper.wp
 rw [hrun0]
 refine hK _ _ (wpList_plain r1_g.2 fun K' hK'=> ?_)
 rw [r1_d.1]
 obtain ⟨c,hc1,hc2,hc3⟩:=r1_1
 have hrun1:(execOp (a1.put (some 5) (.func (.func 136) #[] #[.pointer (some ⟨g0,0,none⟩),.pointer (some ⟨g1,0,none⟩)])).eval (zqu 1)).run Tryz.prog w1= .ok (.defer ⟨.fn (.func 136) #[.pointer (some ⟨g0,0,none⟩),.pointer (some ⟨g1,0,none⟩)],#[]⟩) w1:=by
  have e5:(a1.put (some 5) (.func (.func 136) #[] #[.pointer (some ⟨g0,0,none⟩),.pointer (some ⟨g1,0,none⟩)])).eval (.tmp 5)= .func (.func 136) #[] #[.pointer (some ⟨g0,0,none⟩),.pointer (some ⟨g1,0,none⟩)]:=zcL (by have:a1.tmps.size=27:=st1.size;omega)
  simp [execOp,hc1,resolve,hc2,hc3,e5,Deferred.ofValue]
 unfold Oper.wp
 rw [hrun1]
 refine hK' _ _ (wpList_nil ?_)
 rw [r1_d.2]
 show zl0.wp _ _ _ w1
 -- the rest,the two blocks as if they were lent
 have hst2:Holds un ⟨w1,[g0,g1],[.pointer (some ⟨g0,0,none⟩),.pointer (some ⟨g1,0,none⟩)]⟩ D1 ⟨27,[⟨.fn (.func 136) #[.pointer (some ⟨g0,0,none⟩),.pointer (some ⟨g1,0,none⟩)],#[]⟩]⟩ [(3,.ptr 1 0),(2,.ptr 0 0),(0,.str s)] [.var 24 zEx,.var 123 zF]
   ({ a1.put (some 5) (.func (.func 136) #[] #[.pointer (some ⟨g0,0,none⟩),.pointer (some ⟨g1,0,none⟩)]) with defers:=⟨.fn (.func 136) #[.pointer (some ⟨g0,0,none⟩),.pointer (some ⟨g1,0,none⟩)],#[]⟩::(a1.put (some 5) (.func (.func 136) #[] #[.pointer (some ⟨g0,0,none⟩),.pointer (some ⟨g1,0,none⟩)])).defers }.put none undef) w1:=by
  refine ⟨D1,H1,⟨⟨Wl.Grow.refl _ _,st1.inn.lt,fun r hr=> ?_,st1.inn.apart,st1.inn.disj,fun i g hi=> ?_⟩,?_,?_,?_,fun i p hi=> ?_⟩,fun k o hk=> .inl hk,Ge.refl _ _⟩
  ·rw [hHl] at hr
   simp only [yAj,yBv,or_false] at hr
   rcases hr with rfl | rfl
   ·exact ⟨.inr (by simp),hres0.2⟩
   ·exact ⟨.inr (by simp),hres1.2⟩
  ·rw [hHl]
   rcases i with _ | _ | i
   ·simp at hi;subst hi;exact ⟨_,rfl,rfl,rfl,keptR.box⟩
   ·simp at hi;subst hi;exact ⟨_,rfl,rfl,rfl,keptR.box⟩
   ·simp at hi
  ·simp [Act.put,st1.size]
  ·simp [Act.put,st1.defers]
  ·rw [hHl];simp only [BxRep,BoxRep]
   have:ids H1=ids [.box g0 24 cs0,.box g1 123 cs1]:=by rw [hHl]
   rw [this] at hl0 hl1
   exact ⟨⟨trivial,hl0⟩,⟨trivial,hl1⟩,trivial⟩
  ·have hi5:5≠i:=fun h5=>(by subst h5;cases hi)
   have:=st1.slots i p hi
   simpa [Act.put,yAp,hi5] using this
 have hsp:(match zmi o s with
  | some (.inl c)=>some c
  | some (.inr p)=>some (LicSpec.Ex.zero,⟨p.1,p.2.1⟩,())
  | none=>none)=some r:=hr
 cases hm:zmi o s with
 | none=>rw [hm] at hsp;cases hsp
 | some res =>
 rw [hm] at hsp
 refine zfp (N:=⟨27,_⟩) mixed zaq zaP h hin _ _ _ _ _ _ ((zra o s).trans hm) (fun d hdd=>by have:=yAQ.1 ztE d hdd;simpa [yA4] using this) hst2 fun x e' bx' hk hp hpb a3 w3 hH3=> ?_
 obtain ⟨D3,H3,st3,hD3,_⟩:=hH3
 have hg1:=st1.inn.out
 have hg3:=st3.inn.out
 have below:∀w4,Wl.Grow [g0,g1] w3 w4→Below w.heap.size w w4:=fun w4 hg4=>by
  refine ⟨hg4.os.trans (hg3.os.trans hg1.os),hg4.tape.trans (hg3.tape.trans hg1.tape),hg4.output.trans (hg3.output.trans hg1.output),yAk hg1.size (yAk hg3.size hg4.size),fun k hk=> ?_⟩
  have hk0:k∉[g0,g1]:=by simp;omega
  have s1:k<w1.heap.size:=yAy hk hg1.size
  rw [hg4.block k (yAy s1 hg3.size) hk0,hg3.block k s1 hk0,hg1.block k hk (by simp)]
 have normal:zoB e' bx'=some res→Leaves Tryz.prog Tryz.f102 a3.tmps (fun x w'=>∃v,x= .returned v∧Below w.heap.size w w'∧Rep un [] (zk5 D w w') w' (zf6 (zc9 (e102 o).rs r)) v) a3.defers .returning w3:=by
  intro hf
  obtain ⟨l,c,hl,hc,rfl⟩:=zi3 hf
  cases hsp
  rw [st3.defers]
  refine leaves_cons (by simp) (ztO _ _ w3) ((ztb h _ _ w3).mono ?_)
  rintro e4 u' w4 ⟨⟨v4,rfl⟩,rfl,hb4⟩
  show ∃v,(results Tryz.f102 a3.tmps).run Tryz.prog w4= .ok v w4∧_
  have hin4:=st3.inn.below hb4
  have hge4:=Ge.below st3.inn hb4
  have st4:St un ⟨w1,[g0,g1],[.pointer (some ⟨g0,0,none⟩),.pointer (some ⟨g1,0,none⟩)]⟩ ⟨27,_⟩ (zk5 D3 w3 w4) H3 e' bx' a3 w4:=⟨hin4,st3.size,st3.defers,st3.boxes.mono hge4 (zaA st3.inn.out hin4.out) fun _ _ h=>h,fun i q hi=>(st3.slots i q hi).ge hge4 fun _ _ h=>h⟩
  obtain ⟨v,D5,H5,k1,k2,st5,_,_,hup⟩:=zci (fn:=Tryz.f102) zaq zaP st4 hl hc
  refine ⟨v,k1,v,rfl,below w4 (Wl.Grow.of_below hb4),k2.ge ⟨fun k o hk5=> ?_,fun _ _ _=>rfl⟩ fun _ _ h=>h⟩
  rcases hup k o hk5 with hk | hk
  rotate_left
  ·exact .inr ⟨hk.elim (fun h=>yAk hg1.size h) (fun h=>by simp at h;rcases h with rfl | rfl<;>omega),st5.inn.lt k o hk5⟩
  rcases hk with hk | hk
  ·rcases hD3 k o hk with h1 | h1
   ·rcases hD1 k o h1 with h2 | h2
    ·exact .inl h2
    ·exact .inr ⟨h2.elim id (fun h=>by simp at h),yAy (st3.inn.lt k o hk) hb4.size⟩
   ·exact .inr ⟨h1.elim (fun h=>yAk hg1.size h) (fun h=>by simp at h;rcases h with rfl | rfl<;>omega),yAy (st3.inn.lt k o hk) hb4.size⟩
  ·exact .inr ⟨yAk hg1.size (yAk hg3.size hk.1),hk.2⟩
 cases x with
 | normal=>exact normal hk
 | ret=>exact normal hk
 | panic ch =>
   simp only [finR] at hk
   split at hk
   ·rename_i p hp49
    cases hk
    cases hsp
    have hch:=zjk hp49
    subst hch
    show Leaves Tryz.prog Tryz.f102 a3.tmps _ a3.defers (.panicking _) w3
    rw [st3.defers]
    have hl2:look e' 2=some (.ptr 0 0):=hp 2 _ (zgT ziB.1) rfl rfl
    have hl3:look e' 3=some (.ptr 1 0):=hp 3 _ (zgT ziB.2) rfl rfl
    obtain ⟨T3,cs3,hH30⟩:=znM st3.inn (i:=0) (g:=g0) rfl
    obtain ⟨T4,cs4,hH31⟩:=znM st3.inn (i:=1) (g:=g1) rfl
    obtain ⟨c0',hbx0,hlen0⟩:=hpb.var 0 24 zEx rfl
    obtain ⟨c1',hbx1,hlen1⟩:=hpb.var 1 123 zF rfl
    obtain ⟨r0,hr0,hr0'⟩:=st3.boxes.get hbx0
    obtain ⟨r1,hr1,hr1'⟩:=st3.boxes.get hbx1
    rw [hH30] at hr0;cases hr0
    rw [hH31] at hr1;cases hr1
    simp only [BoxRep] at hr0' hr1'
    obtain ⟨rfl,hq0⟩:=hr0'
    obtain ⟨rfl,hq1⟩:=hr1'
    have hp0:=(st3.inn.res _ (yAc hH30)).2
    have hp1:=(st3.inn.res _ (yAc hH31)).2
    refine leaves_cons (by simp) (ztO _ _ w3) ((zrA h g0 g1 p.1 p.2.1 w3 cs3 cs4 hp0 hp1 (by rw [←hq0.length,hlen0];rfl) (by rw [←hq1.length,hlen1];rfl) hne).mono ?_)
    rintro e4 u' w4 ⟨⟨v4,rfl⟩,hu',hg4,hh0,hh1⟩
    show Leaves Tryz.prog Tryz.f102 a3.tmps _ [] (settle u') w4
    rw [hu']
    obtain ⟨l,c,hl,hc,hcr⟩:=zi3 (resR p.1 p.2.1)
    cases hcr
    have st4:St un ⟨w4,[g0,g1],[.pointer (some ⟨g0,0,none⟩),.pointer (some ⟨g1,0,none⟩)]⟩ ⟨27,a3.defers⟩ (fun _ _=>False) [.box g0 24 zExV.toList,.box g1 123 [.int .i64 p.1,.int .i64 p.2.1]] [(2,.ptr 0 0),(3,.ptr 1 0)] [.var 24 zEx,.var 123 [.int .i64 p.1,.int .i64 p.2.1]] a3 w4:=by
     refine ⟨⟨Wl.Grow.refl _ _,fun _ _ h=>h.elim,fun r hr=> ?_,fun r hr g hg o' _ h=>h.elim,?_,fun i g hi=> ?_⟩,st3.size,rfl,?_,fun i q hi=> ?_⟩
     ·simp only [yAj,yBv,or_false] at hr
      rcases hr with rfl | rfl
      ·exact ⟨.inr (by simp),by simpa using hh0⟩
      ·exact ⟨.inr (by simp),hh1⟩
     ·refine yAE.2 ⟨fun r hr g h1' h2'=> ?_,yAT _ _⟩
      simp only [yAj,yBv,or_false] at hr
      subst hr
      simp [Wl.Res.block] at h1' h2';omega
     ·rcases i with _ | _ | i
      ·simp at hi;subst hi;exact ⟨_,rfl,rfl,rfl,keptR.box⟩
      ·simp at hi;subst hi;exact ⟨_,rfl,rfl,rfl,keptR.box⟩
      ·simp at hi
     ·simp only [BxRep,BoxRep,zEx,zExV,RepL,Rep,List.toArray]
      exact ⟨⟨trivial,trivial,trivial,trivial,trivial,trivial,trivial⟩,⟨trivial,trivial,trivial,trivial⟩,trivial⟩
     ·have q2:=st3.slots 2 _ hl2
      have q3:=st3.slots 3 _ hl3
      simp only [Rep,ids,yAh,hH30,hH31,yAg,zap,yAf,Prod.mk.injEq,true_and] at q2 q3
      obtain ⟨x0,y0,z0⟩:=q2
      obtain ⟨x1,y1,z1⟩:=q3
      simp at y0 y1;subst y0;subst y1
      simp only [look] at hi
      cases hb2:Nat.beq 2 i with
      | true =>
        rw [hb2] at hi
        have:=yAa hb2
        subst this
        simp at hi;subst hi
        simp only [Rep,ids];exact ⟨g0,rfl,z0⟩
      | false =>
        rw [hb2] at hi
        simp only [cond_false] at hi
        cases hb3:Nat.beq 3 i with
        | true =>
          rw [hb3] at hi
          have:=yAa hb3
          subst this
          simp at hi;subst hi
          simp only [Rep,ids];exact ⟨g1,rfl,z1⟩
        | false=>rw [hb3] at hi;simp at hi
    obtain ⟨v,D5,H5,k1,k2,st5,_,_,hup⟩:=zci (fn:=Tryz.f102) zaq zaP st4 hl hc
    refine ⟨v,k1,v,rfl,below w4 hg4,k2.ge ⟨fun k o hk5=> ?_,fun _ _ _=>rfl⟩ fun _ _ h=>h⟩
    rcases hup k o hk5 with hk | hk
    ·exact hk.elim
    ·exact .inr ⟨hk.elim (fun h=>yAk hg1.size (yAk hg3.size (yAk hg4.size h))) (fun h=>by simp at h;rcases h with rfl | rfl<;>omega),st5.inn.lt k o hk5⟩
   ·cases hk
 | exit i=>cases hk
 | goto l=>cases hk
 | outgrown=>cases hk
end Pe.Tryz
end
section
/- What is known of slices.Clone of uses: the slice that zd3 back holds the same uses. -/
set_option maxRecDepth 100000
namespace Go.Proofs
open Go.Shelf Go.RowKit Go.Lib
def Tryz.clone38_ren:Go.Shelf.Ren:=⟨fun | 41=>38 | n=>n,fun | 22=>43 | 23=>64 | n=>n,fun n=>n⟩
theorem Tryz.clone38:Go.Proofs.SlLaysE0.n41 Tryz.prog Tryz.clone38_ren:={
 mixed:=by kernel_rfl
 f41:=⟨Tryz.f38.name,by decide,Tryz.func38.trans (congrArg some (by kernel_rfl))⟩
 t4:=Tryz.underlying4
 a4:=Tryz.isAgg4
 z4:=Tryz.sizeOf4
 v4:=Tryz.zeroValue4
 t22:=Tryz.underlying43
 a22:=Tryz.isAgg43
 z22:=Tryz.sizeOf43
 v22:=Tryz.zeroValue43
}
variable {P:Program} {ρ:Ren}
set_option maxHeartbeats 2000000 in
set_option maxRecDepth 100000 in
theorem zp5 (L:SlLaysE0.n41 P ρ) (i0:TypeInfo) (z:Value) (size bytes:Nat) (hi:P.info? (ρ.t 23)=some i0) (hz0:i0.zero=some z) (hz1:i0.size=size) (hz2:i0.bytes=bytes) (hzs:z.cells.size=size) (hsz:0<size)
  (z23:∀w,(Go.sizeOf (ρ.t 23)).run P w= .ok size w) (ad:Addr) (n c:Nat) (news:List Value) (w:World) (hl:news.length=n*size) (hn:n≤maxLen) (hbig:n*bytes≤140737488355328)
  (hc:∀j u,news[j]? =some u→w.cell? (ad.add j)=some u) (h1:∀u∈news,u.oneCell'=true) :
  Calls P (ρ.f 41) #[.slice (some ad) n c] w fun e w'=>∃v',e= .returned v'∧w'.ownsRow w.heap.size (ρ.t 23) size v' n news∧Below w.heap.size w w':=by
 have mixed:=L.mixed;have t4:=L.t4;have a4:=L.a4;have z4:=L.z4;have v4:=L.v4;have t22:=L.t22;have a22:=L.a22;have z22:=L.z22;have v22:=L.v22
 have q22:∀(w:World) (a:Option Addr) (n c n' c':Nat),(binOp .eql (ρ.t 22) (.slice a n c) (.slice none n' c')).run P w= .ok (.bool a.isNone) w:=fun w a n c n' c'=>Lib.run_eql_slice_nil w _ _ a n c n' c' L.t22
 have u22:∀w,Sem.run P (underlying (ρ.t 22)) w= .ok (TypeDesc.slice (ρ.t 23)) w:=run_underlying t22
 have A:Aside (∀j u,news[j]? =some u→w.cell? (ad.add j)=some u):=hc
 clear hc
 obtain ⟨_,_,FG⟩:=L.f41
 go_enter FG,SlBodyN.n41_ntmps ρ
 go_wp2_with (at_builtin;refine wpList_append_own _ rfl _ _ (ρ.t 22) rfl w.heap.size (ρ.t 23) i0 z size bytes t22 hi hz0 hz1 hz2 hzs hsz _ _ _ rfl (World.ownsRow_made w #[] 0 (yAi _) (yAD _) (by simp)) ad n c news rfl ?qc1 ?qc2 ?qc3 ?qc4 ?qc5 ?qc6 ?_)
 case qc1=>exact hl
 case qc2=>intro j u hj;exact Lib.cell?_alloc_some _ (A.out j u hj)
 case qc3=>exact h1
 case qc4=>rw [yA0];exact hn
 case qc5=>rw [yA0];exact hbig
 case qc6=>simp
 intro v' w1 hown hgrow hnil
 go_wp2
 go_ret
 refine ⟨v',rfl,by simpa using hown,?_⟩
 exact ((Below.refl _ w).alloc (yAi _) _).grown hgrow (by simp) (by intro k hk;simp [Value.ownBlock] at hk;omega)
end Go.Proofs
namespace Pe.Tryz
open Go Go.Proofs Pe Go.RowKit
noncomputable def e38 (_:Orc Sx):Entry Sx:=⟨[.sl (.st 6)],[.sl (.st 6)],fun t=>bif Nat.ble (List.length (α:=Gt.Use) t.1) 1000000 then some (t.1,()) else none⟩
theorem elUse:ElOk Tryz.prog un 64 (.st 6):=by
 obtain ⟨T,u,h1,h2,h3⟩:=(row43 _ rfl).slice rfl
 have h4:=yAB (h2.symm.trans Tryz.underlying43)
 cases h4
 cases h1
 exact h3
theorem zrK {D:Dat} {w w':World} (hD:∀k o,D k o→k<w.heap.size) (hb:Below w.heap.size w w'):Ge D w (zk5 D w w') w' :=
 ⟨fun _ _ h=> .inl h,fun k o h=>World.cell?_of_block (hb.block k (hD k o h))⟩
theorem hok38 (o:Orc Sx) (_:SoundO Tryz.prog un o):Entry.Ok Tryz.prog un 38 (e38 o):=by
 intro t r h D w vs hD ha
 obtain ⟨h1,h2⟩:=zag h
 cases h2
 simp only [yAR] at h1
 match vs,ha with
 | [v],ha =>
   simp only [e38,zc9,RepL,inj] at ha
   obtain ⟨A,c,news,rfl,g1,g2,g3,g4,g5⟩:=zim zaq.flat ha.1
   cases A with
   | none =>
     have hl:=g2 rfl
     refine (AnyE.slices_Clone_nil Tryz.clone38 _ c w).mono ?_
     rintro x w' ⟨rfl,rfl⟩
     refine ⟨_,rfl,Below.refl _ _,?_⟩
     simp only [e38,zc9,zf6,inj,Rep]
     exact .sl0 none 0 hl .nil
   | some ad =>
     obtain ⟨inf,z,e1,e2,e3,e4,e5,e6⟩:=elUse.info
     have hlen:List.length (α:=Gt.Use) t.1≤1000000:=h1
     have hb:List.length (α:=Gt.Use) t.1*inf.bytes≤140737488355328:=by
      have:List.length (α:=Gt.Use) t.1*inf.bytes≤1000000*32768:=yB1 hlen e6
      omega
     refine (zp5 Tryz.clone38 inf z (U.size un (.st 6)) inf.bytes e1 e2 e3 rfl e4 e5 (fun w=>by rw [show U.size un (.st 6)=2 by kernel_rfl];exact Tryz.sizeOf64 w) ad _ c news w g1 (yAk hlen (by decide)) hb (g3 ad rfl) g5).mono ?_
     rintro x w' ⟨v',rfl,hown,hbl⟩
     refine ⟨v',rfl,hbl,?_⟩
     simp only [e38,zc9,zf6,inj,Rep]
     have hge:=zrK hD hbl
     rcases hown.2 with ⟨rfl,hn⟩ | ⟨g,cap,cur,rfl,hbg,hg,hnc,hcm,hcs,htk⟩
     ·exact .sl0 none 0 (yAJ.1 hn) .nil
     ·refine .sl g 0 cap (fun i=>(news.drop (i*U.size un (.st 6))).take (U.size un (.st 6))) hnc (fun i x hi j v hj=> ?_) (fun i x hi=>(g4 i x hi).mono hge) .nil
      have hgl:g<w'.heap.size:=(yAz.1 hg).1
      rw [yAF] at hj
      split at hj
      ·rw [yAu] at hj
       have hc:=hown.cells (g:=g) rfl _ v hj
       rw [Addr.add_lit] at hc
       exact ⟨.inr ⟨hbg,hgl⟩,by simpa [yA0] using hc⟩
      ·cases hj
 | [],ha=>simp [e38,zc9,RepL] at ha
 | _::_::_,ha=>simp [e38,zc9,RepL] at ha
end Pe.Tryz
end
section
set_option maxRecDepth 100000
namespace Pe.Tryz
open Go Go.Proofs Pe
noncomputable def tabN (o:Orc Sx):Tr (Entry Sx):=(.node (.node (.node (.node (.node (.node (.node .leaf 10 ⟨[(.st 2),(.st 4),(.st 4),(.sl .str)],[.bool],fun t=>m10 o t.1 t.2.1 t.2.2.1 t.2.2.2.1⟩ .leaf) 12 ⟨[(.st 4)],[.str,(.int .i64)],fun t=>m12 o t.1⟩ .leaf) 18 ⟨[(.st 4)],[(.int .i64)],fun t=>m18 o t.1⟩ (.node (.node .leaf 19 ⟨[(.st 4)],[(.int .i64)],fun t=>m19 o t.1⟩ .leaf) 21 ⟨[(.sl .str),(.sl .str)],[.bool],fun t=>m21 o t.1 t.2.1⟩ .leaf)) 22 ⟨[],[.bool],fun _=>m22 o ⟩ (.node (.node (.node .leaf 34 ⟨[(.st 2),(.st 4)],[(.sl (.sl (.st 6))),(.int .i64)],fun t=>m34 o t.1 t.2.1⟩ .leaf) 38 (e38 o) .leaf) 40 ⟨[(.st 2),(.st 4)],[(.sl (.st 6)),(.sl .str),(.int .i64)],fun t=>m40 o t.1 t.2.1⟩ (.node .leaf 41 ⟨[(.st 2),(.st 4)],[(.sl (.st 6)),(.sl .str),(.int .i64)],fun t=>m41 o t.1 t.2.1⟩ .leaf))) 42 ⟨[(.st 2),(.st 4),(.sl .str)],[(.sl (.st 6)),.bool,(.int .i64)],fun t=>m42 o t.1 t.2.1 t.2.2.1⟩ (.node (.node (.node (.node .leaf 43 ⟨[(.st 2),(.st 4),(.sl .str)],[(.sl (.st 6)),.bool,(.int .i64)],fun t=>m43 o t.1 t.2.1 t.2.2.1⟩ .leaf) 44 ⟨[(.st 2),(.st 4),(.st 4)],[(.sl .str),(.int .i64)],fun t=>m44 o t.1 t.2.1 t.2.2.1⟩ .leaf) 45 ⟨[(.st 2),(.st 4),(.st 4)],[(.sl .str),(.int .i64)],fun t=>m45 o t.1 t.2.1 t.2.2.1⟩ (.node (.node .leaf 46 ⟨[(.sl (.st 6)),(.sl (.st 6))],[.bool],fun t=>m46 o t.1 t.2.1⟩ .leaf) 47 ⟨[(.st 4)],[.str],fun t=>m47 o t.1⟩ .leaf)) 54 ⟨[(.st 4),(.int .i64)],[(.int .i64),(.int .i64)],fun t=>m54 o t.1 t.2.1⟩ (.node (.node (.node .leaf 55 ⟨[(.st 4)],[(.int .i64)],fun t=>m55 o t.1⟩ .leaf) 56 ⟨[(.st 4),(.int .i64)],[(.int .i64)],fun t=>m56 o t.1 t.2.1⟩ .leaf) 57 ⟨[(.st 4)],[(.int .i64)],fun t=>m57 o t.1⟩ (.node .leaf 58 ⟨[(.st 4)],[(.int .i64)],fun t=>m58 o t.1⟩ .leaf)))) 60 ⟨[.str],[(.st 4),(.int .i64),(.int .i64)],fun t=>m60 o t.1⟩ (.node (.node (.node (.node (.node .leaf 62 ⟨[(.st 2),(.sl (.st 6))],[(.sl .str)],fun t=>m62 o t.1 t.2.1⟩ .leaf) 64 ⟨[(.st 2),(.sl (.st 6))],[(.sl .str)],fun t=>m64 o t.1 t.2.1⟩ .leaf) 65 ⟨[(.st 2),(.sl .str)],[(.sl (.st 0))],fun t=>m65 o t.1 t.2.1⟩ (.node (.node .leaf 66 ⟨[(.st 2),(.sl (.st 6))],[(.sl (.st 0))],fun t=>m66 o t.1 t.2.1⟩ .leaf) 68 ⟨[(.st 2),(.st 6)],[(.sl .str)],fun t=>m68 o t.1 t.2.1⟩ .leaf)) 70 ⟨[(.st 2),(.st 4)],[(.sl (.sl (.st 6))),(.int .i64)],fun t=>m70 o t.1 t.2.1⟩ (.node (.node (.node .leaf 73 ⟨[(.sl (.st 6)),(.sl (.st 6))],[.bool],fun t=>m73 o t.1 t.2.1⟩ .leaf) 74 ⟨[(.sl (.st 6)),(.sl (.st 6))],[.bool],fun t=>m74 o t.1 t.2.1⟩ .leaf) 77 ⟨[(.st 2),(.st 4)],[(.int .i64)],fun t=>m77 o t.1 t.2.1⟩ (.node .leaf 79 ⟨[(.st 2),(.st 4)],[(.sl (.sl (.st 6))),.bool],fun t=>m79 o t.1 t.2.1⟩ .leaf))) 83 ⟨[(.sl (.st 6)),(.st 6)],[.bool],fun t=>m83 o t.1 t.2.1⟩ (.node (.node (.node (.node .leaf 86 ⟨[(.sl .str),.str],[.bool],fun t=>m86 o t.1 t.2.1⟩ .leaf) 87 ⟨[(.sl .str),(.sl .str)],[.bool],fun t=>m87 o t.1 t.2.1⟩ .leaf) 88 ⟨[(.sl .str),.str],[.bool],fun t=>m88 o t.1 t.2.1⟩ (.node (.node .leaf 89 (e89 o) .leaf) 92 ⟨[(.st 4),(.st 4)],[(.int .i64)],fun t=>m92 o t.1 t.2.1⟩ .leaf)) 93 ⟨[.str,.str],[(.int .i64)],fun t=>m93 o t.1 t.2.1⟩ (.node (.node (.node .leaf 97 ⟨[(.sl .str),.str],[(.sl .str)],fun t=>m97 o t.1 t.2.1⟩ .leaf) 100 ⟨[.str],[.bool],fun t=>m100 o t.1⟩ .leaf) 101 ⟨[(.st 4)],[(.int .i64)],fun t=>m101 o t.1⟩ (.node .leaf 102 (e102 o) .leaf))))) 103 ⟨[(.st 2)],[(.int .i64)],fun t=>m103 o t.1⟩ (.node (.node (.node (.node (.node (.node .leaf 104 ⟨[(.st 2)],[(.int .i64)],fun t=>m104 o t.1⟩ .leaf) 105 ⟨[(.st 2),.str],[(.int .i64)],fun t=>m105 o t.1 t.2.1⟩ .leaf) 106 ⟨[(.st 2),.str],[(.int .i64)],fun t=>m106 o t.1 t.2.1⟩ (.node (.node .leaf 108 ⟨[(.st 2),.str],[(.st 5),.bool],fun t=>m108 o t.1 t.2.1⟩ .leaf) 109 ⟨[(.st 2),.str],[(.st 3),.bool],fun t=>m109 o t.1 t.2.1⟩ .leaf)) 110 ⟨[(.st 2),(.st 4)],[(.int .i64)],fun t=>m110 o t.1 t.2.1⟩ (.node (.node (.node .leaf 111 ⟨[(.st 2),(.st 4)],[(.sl .str)],fun t=>m111 o t.1 t.2.1⟩ .leaf) 112 ⟨[(.st 2),(.st 4)],[(.sl (.sl (.st 6))),.bool],fun t=>m112 o t.1 t.2.1⟩ .leaf) 114 ⟨[(.sl (.st 6)),(.st 6)],[.bool],fun t=>m114 o t.1 t.2.1⟩ (.node .leaf 116 ⟨[(.st 2),(.st 4)],[(.sl (.st 6))],fun t=>m116 o t.1 t.2.1⟩ .leaf))) 117 ⟨[(.sl (.sl (.st 6))),(.sl (.st 6))],[(.sl (.sl (.st 6)))],fun t=>m117 o t.1 t.2.1⟩ (.node (.node (.node (.node .leaf 118 ⟨[(.sl (.sl (.st 6)))],[.bool],fun t=>m118 o t.1⟩ .leaf) 119 ⟨[(.sl (.st 6)),(.sl (.st 6))],[(.sl (.st 6))],fun t=>m119 o t.1 t.2.1⟩ .leaf) 120 ⟨[(.sl (.sl (.st 6)))],[(.sl (.sl (.st 6)))],fun t=>m120 o t.1⟩ (.node (.node .leaf 122 ⟨[(.sl (.st 6)),(.st 6)],[(.int .i64)],fun t=>m122 o t.1 t.2.1⟩ .leaf) 124 ⟨[(.sl .str),.str],[(.int .i64)],fun t=>m124 o t.1 t.2.1⟩ .leaf)) 128 ⟨[.str],[.bool],fun t=>m128 o t.1⟩ (.node (.node (.node .leaf 133 ⟨[.str],[.bool],fun t=>m133 o t.1⟩ .leaf) 134 ⟨[(.int .u8)],[.bool],fun t=>m134 o t.1⟩ .leaf) 135 ⟨[.str],[.bool],fun t=>m135 o t.1⟩ (.node .leaf 140 ⟨[(.sl (.st 5))],[(.int .i64)],fun t=>m140 o t.1⟩ .leaf)))) 141 ⟨[(.st 2),(.st 3)],[(.int .i64)],fun t=>m141 o t.1 t.2.1⟩ (.node (.node (.node (.node (.node .leaf 142 ⟨[(.sl (.st 0)),(.st 0)],[.bool],fun t=>m142 o t.1 t.2.1⟩ .leaf) 143 ⟨[(.sl (.st 5)),(.int .i64)],[(.int .i64)],fun t=>m143 o t.1 t.2.1⟩ .leaf) 144 ⟨[(.st 2),(.int .i64)],[(.int .i64)],fun t=>m144 o t.1 t.2.1⟩ (.node (.node .leaf 150 ⟨[(.st 2),(.st 4)],[(.sl (.st 6))],fun t=>m150 o t.1 t.2.1⟩ .leaf) 153 ⟨[(.sl (.sl (.st 6)))],[(.sl (.sl (.st 6)))],fun t=>m153 o t.1⟩ .leaf)) 154 ⟨[(.st 2),(.st 4)],[(.sl (.int .i64))],fun t=>m154 o t.1 t.2.1⟩ (.node (.node (.node .leaf 155 ⟨[(.sl (.st 6)),(.sl (.st 6))],[(.int .i64)],fun t=>m155 o t.1 t.2.1⟩ .leaf) 156 ⟨[(.st 6),(.st 6)],[(.int .i64)],fun t=>m156 o t.1 t.2.1⟩ .leaf) 170 ⟨[.str],[.str],fun t=>m170 o t.1⟩ (.node .leaf 171 ⟨[(.int .u8)],[.bool],fun t=>m171 o t.1⟩ .leaf))) 172 (e172 o) (.node (.node (.node (.node .leaf 175 ⟨[(.sl .str)],[(.int .i64)],fun t=>m175 o t.1⟩ .leaf) 176 ⟨[(.sl .str),(.int .i64)],[.bool],fun t=>m176 o t.1 t.2.1⟩ .leaf) 177 ⟨[(.sl (.st 0)),(.st 0)],[(.int .i64)],fun t=>m177 o t.1 t.2.1⟩ (.node (.node .leaf 178 ⟨[(.sl .str),(.int .i64)],[(.int .i64)],fun t=>m178 o t.1 t.2.1⟩ .leaf) 180 ⟨[(.sl (.st 6)),(.sl (.st 6))],[(.int .i64)],fun t=>m180 o t.1 t.2.1⟩ .leaf)) 182 ⟨[(.sl (.st 6)),(.sl (.st 6))],[.bool],fun t=>m182 o t.1 t.2.1⟩ (.node (.node (.node .leaf 184 ⟨[(.st 6),(.st 6)],[(.int .i64)],fun t=>m184 o t.1 t.2.1⟩ .leaf) 206 ⟨[(.sl (.int .i64))],[(.int .i64)],fun t=>m206 o t.1⟩ .leaf) 207 ⟨[(.int .i64),(.int .i64)],[(.int .i64)],fun t=>m207 o t.1 t.2.1⟩ (.node .leaf 230 ⟨[(.int .i64)],[.bool],fun t=>m230 o t.1⟩ .leaf))))))
noncomputable def tabE (o:Orc Sx):Tr (EntryE Sx):=(.node (.node (.node .leaf 137 ⟨1,[],[162],[(.st 9)],[],[(.int .i64),(.int .i64)],123,fun c _=>m137 o c ⟩ .leaf) 138 ⟨1,[],[162],[(.st 9)],[(.st 4)],[(.int .i64),(.int .i64)],123,fun c _=>m138 o c ⟩ (.node .leaf 139 ⟨0,[(.int .i64),(.int .i64)],[],[],[],[(.int .i64),(.int .i64)],123,fun c t=>m139 o c t.1 t.2.1⟩ .leaf)) 174 ⟨1,[],[162],[(.st 9)],[(.st 4)],[(.int .i64),(.int .i64)],123,fun c _=>m174 o c ⟩ (.node (.node .leaf 203 ⟨1,[.str],[162],[(.st 9)],[.bool],[(.int .i64),(.int .i64)],123,fun c t=>m203 o c t.1⟩ .leaf) 204 ⟨1,[],[162],[(.st 9)],[(.st 4)],[(.int .i64),(.int .i64)],123,fun c _=>m204 o c ⟩ (.node .leaf 221 ⟨1,[],[162],[(.st 9)],[.str],[(.int .i64),(.int .i64)],123,fun c _=>m221 o c ⟩ .leaf)))
noncomputable def tabL (o:Orc Sx):Tr (EntryL Sx):=(.node (.node (.node (.node .leaf 78 ⟨sg78,fun t=>m78 o t.1 t.2.1 t.2.2.1⟩ .leaf) 115 ⟨sg115,fun t=>m115 o t.1 t.2.1⟩ .leaf) 130 ⟨sg130,fun t=>m130 o t.1⟩ (.node (.node .leaf 132 ⟨sg132,fun t=>m132 o t.1⟩ .leaf) 151 ⟨sg151,fun t=>m151 o t.1⟩ .leaf)) 152 ⟨sg152,fun t=>m152 o t.1 t.2.1⟩ (.node (.node (.node .leaf 168 ⟨sg168,fun t=>m168 o t.1⟩ .leaf) 181 ⟨sg181,fun t=>m181 o t.1⟩ .leaf) 209 ⟨sg209,fun t=>m209 o t.1⟩ (.node (.node .leaf 211 ⟨sg211,fun t=>m211 o t.1⟩ .leaf) 231 ⟨sg231,fun t=>m231 o t.1⟩ .leaf)))
theorem zsj (o:Orc Sx) (h:SoundO Tryz.prog un o):(tabN o).All (Entry.Ok Tryz.prog un):=⟨⟨⟨⟨⟨⟨⟨trivial,ok10 o h,trivial⟩,ok12 o h,trivial⟩,ok18 o h,⟨⟨trivial,ok19 o h,trivial⟩,ok21 o h,trivial⟩⟩,ok22 o h,⟨⟨⟨trivial,ok34 o h,trivial⟩,hok38 o h,trivial⟩,ok40 o h,⟨trivial,ok41 o h,trivial⟩⟩⟩,ok42 o h,⟨⟨⟨⟨trivial,ok43 o h,trivial⟩,ok44 o h,trivial⟩,ok45 o h,⟨⟨trivial,ok46 o h,trivial⟩,ok47 o h,trivial⟩⟩,ok54 o h,⟨⟨⟨trivial,ok55 o h,trivial⟩,ok56 o h,trivial⟩,ok57 o h,⟨trivial,ok58 o h,trivial⟩⟩⟩⟩,ok60 o h,⟨⟨⟨⟨⟨trivial,ok62 o h,trivial⟩,ok64 o h,trivial⟩,ok65 o h,⟨⟨trivial,ok66 o h,trivial⟩,ok68 o h,trivial⟩⟩,ok70 o h,⟨⟨⟨trivial,ok73 o h,trivial⟩,ok74 o h,trivial⟩,ok77 o h,⟨trivial,ok79 o h,trivial⟩⟩⟩,ok83 o h,⟨⟨⟨⟨trivial,ok86 o h,trivial⟩,ok87 o h,trivial⟩,ok88 o h,⟨⟨trivial,hok89 o h,trivial⟩,ok92 o h,trivial⟩⟩,ok93 o h,⟨⟨⟨trivial,ok97 o h,trivial⟩,ok100 o h,trivial⟩,ok101 o h,⟨trivial,hok102 o h,trivial⟩⟩⟩⟩⟩,ok103 o h,⟨⟨⟨⟨⟨⟨trivial,ok104 o h,trivial⟩,ok105 o h,trivial⟩,ok106 o h,⟨⟨trivial,ok108 o h,trivial⟩,ok109 o h,trivial⟩⟩,ok110 o h,⟨⟨⟨trivial,ok111 o h,trivial⟩,ok112 o h,trivial⟩,ok114 o h,⟨trivial,ok116 o h,trivial⟩⟩⟩,ok117 o h,⟨⟨⟨⟨trivial,ok118 o h,trivial⟩,ok119 o h,trivial⟩,ok120 o h,⟨⟨trivial,ok122 o h,trivial⟩,ok124 o h,trivial⟩⟩,ok128 o h,⟨⟨⟨trivial,ok133 o h,trivial⟩,ok134 o h,trivial⟩,ok135 o h,⟨trivial,ok140 o h,trivial⟩⟩⟩⟩,ok141 o h,⟨⟨⟨⟨⟨trivial,ok142 o h,trivial⟩,ok143 o h,trivial⟩,ok144 o h,⟨⟨trivial,ok150 o h,trivial⟩,ok153 o h,trivial⟩⟩,ok154 o h,⟨⟨⟨trivial,ok155 o h,trivial⟩,ok156 o h,trivial⟩,ok170 o h,⟨trivial,ok171 o h,trivial⟩⟩⟩,hok172 o h,⟨⟨⟨⟨trivial,ok175 o h,trivial⟩,ok176 o h,trivial⟩,ok177 o h,⟨⟨trivial,ok178 o h,trivial⟩,ok180 o h,trivial⟩⟩,ok182 o h,⟨⟨⟨trivial,ok184 o h,trivial⟩,ok206 o h,trivial⟩,ok207 o h,⟨trivial,ok230 o h,trivial⟩⟩⟩⟩⟩⟩
theorem zsl (o:Orc Sx) (h:SoundO Tryz.prog un o):(tabE o).All (EntryE.Ok Tryz.prog un):=⟨⟨⟨trivial,ok137 o h,trivial⟩,ok138 o h,⟨trivial,ok139 o h,trivial⟩⟩,ok174 o h,⟨⟨trivial,ok203 o h,trivial⟩,ok204 o h,⟨trivial,ok221 o h,trivial⟩⟩⟩
theorem zsk (o:Orc Sx) (h:SoundO Tryz.prog un o):(tabL o).All (EntryL.Ok Tryz.prog un):=⟨⟨⟨⟨trivial,ok78 o h,trivial⟩,ok115 o h,trivial⟩,ok130 o h,⟨⟨trivial,ok132 o h,trivial⟩,ok151 o h,trivial⟩⟩,ok152 o h,⟨⟨⟨trivial,ok168 o h,trivial⟩,ok181 o h,trivial⟩,ok209 o h,⟨⟨trivial,ok211 o h,trivial⟩,ok231 o h,trivial⟩⟩⟩
noncomputable def zah:Nat→Orc Sx
 | 0=>⟨fun _ _ _=>none,fun _ _ _ _ _ _ _ _=>none,fun _ _ _=>none,fun _ _ _ _ _=>none⟩
 | n+1=>zts (tabN (zah n)) (tabE (zah n)) (tabL (zah n)) (tabP (zah n))
theorem zdF:∀n,SoundO Tryz.prog un (zah n)
 | 0=>⟨fun _ _ _ _ h=>(by cases h),fun _ _ _ _ _ _ _ _ _ h=>(by cases h),fun _ _ _ _ h=>(by cases h),fun _ _ _ _ _ _ h=>(by cases h)⟩
 | n+1=>zon (zsj _ (zdF n)) (zsl _ (zdF n)) (zsk _ (zdF n)) (zsi _ (zdF n))
end Pe.Tryz
end
section
set_option maxRecDepth 100000
namespace Pe.Tryz
open Go Go.Proofs Pe
theorem q12 (n:Nat) (e:LicSpec.Ex): @Eq (Option (List UInt8×Int×Unit)) ((zah (n+1)).d 12 [.st 4 e] [.str,(.int .i64)]) (m12 (zah n) e):=by kernel_rfl
theorem q18 (n:Nat) (e:LicSpec.Ex): @Eq (Option (Int×Unit)) ((zah (n+1)).d 18 [.st 4 e] [(.int .i64)]) (m18 (zah n) e):=by kernel_rfl
theorem q19 (n:Nat) (e:LicSpec.Ex): @Eq (Option (Int×Unit)) ((zah (n+1)).d 19 [.st 4 e] [(.int .i64)]) (m19 (zah n) e):=by kernel_rfl
theorem q21 (n:Nat) (s1':(List (List UInt8))) (s2':(List (List UInt8))): @Eq (Option (Bool×Unit)) ((zah (n+1)).d 21 [.sl .str s1',.sl .str s2'] [.bool]) (m21 (zah n) s1' s2'):=by kernel_rfl
theorem q22 (n:Nat)  : @Eq (Option (Bool×Unit)) ((zah (n+1)).d 22 [] [.bool]) (m22 (zah n) ):=by kernel_rfl
theorem q34 (n:Nat) (c:Gt.Catalog) (e:LicSpec.Ex): @Eq (Option (List (List (Gt.Use))×Int×Unit)) ((zah (n+1)).d 34 [.st 2 c,.st 4 e] [(.sl (.sl (.st 6))),(.int .i64)]) (m34 (zah n) c e):=by kernel_rfl
theorem q40 (n:Nat) (c:Gt.Catalog) (e:LicSpec.Ex): @Eq (Option (List (Gt.Use)×List (List UInt8)×Int×Unit)) ((zah (n+1)).d 40 [.st 2 c,.st 4 e] [(.sl (.st 6)),(.sl .str),(.int .i64)]) (m40 (zah n) c e):=by kernel_rfl
theorem q41 (n:Nat) (c:Gt.Catalog) (e:LicSpec.Ex): @Eq (Option (List (Gt.Use)×List (List UInt8)×Int×Unit)) ((zah (n+1)).d 41 [.st 2 c,.st 4 e] [(.sl (.st 6)),(.sl .str),(.int .i64)]) (m41 (zah n) c e):=by kernel_rfl
theorem q42 (n:Nat) (c:Gt.Catalog) (e:LicSpec.Ex) (l:(List (List UInt8))): @Eq (Option (List (Gt.Use)×Bool×Int×Unit)) ((zah (n+1)).d 42 [.st 2 c,.st 4 e,.sl .str l] [(.sl (.st 6)),.bool,(.int .i64)]) (m42 (zah n) c e l):=by kernel_rfl
theorem q43 (n:Nat) (c:Gt.Catalog) (e:LicSpec.Ex) (l:(List (List UInt8))): @Eq (Option (List (Gt.Use)×Bool×Int×Unit)) ((zah (n+1)).d 43 [.st 2 c,.st 4 e,.sl .str l] [(.sl (.st 6)),.bool,(.int .i64)]) (m43 (zah n) c e l):=by kernel_rfl
theorem q44 (n:Nat) (c:Gt.Catalog) (a:LicSpec.Ex) (b:LicSpec.Ex): @Eq (Option (List (List UInt8)×Int×Unit)) ((zah (n+1)).d 44 [.st 2 c,.st 4 a,.st 4 b] [(.sl .str),(.int .i64)]) (m44 (zah n) c a b):=by kernel_rfl
theorem q45 (n:Nat) (c:Gt.Catalog) (a:LicSpec.Ex) (b:LicSpec.Ex): @Eq (Option (List (List UInt8)×Int×Unit)) ((zah (n+1)).d 45 [.st 2 c,.st 4 a,.st 4 b] [(.sl .str),(.int .i64)]) (m45 (zah n) c a b):=by kernel_rfl
theorem q46 (n:Nat) (s1':(List Gt.Use)) (s2':(List Gt.Use)): @Eq (Option (Bool×Unit)) ((zah (n+1)).d 46 [.sl (.st 6) s1',.sl (.st 6) s2'] [.bool]) (m46 (zah n) s1' s2'):=by kernel_rfl
theorem q47 (n:Nat) (e:LicSpec.Ex): @Eq (Option (List UInt8×Unit)) ((zah (n+1)).d 47 [.st 4 e] [.str]) (m47 (zah n) e):=by kernel_rfl
theorem q54 (n:Nat) (e:LicSpec.Ex) (level:Int): @Eq (Option (Int×Int×Unit)) ((zah (n+1)).d 54 [.st 4 e,.int .i64 level] [(.int .i64),(.int .i64)]) (m54 (zah n) e level):=by kernel_rfl
theorem q55 (n:Nat) (e:LicSpec.Ex): @Eq (Option (Int×Unit)) ((zah (n+1)).d 55 [.st 4 e] [(.int .i64)]) (m55 (zah n) e):=by kernel_rfl
theorem q56 (n:Nat) (e:LicSpec.Ex) (most:Int): @Eq (Option (Int×Unit)) ((zah (n+1)).d 56 [.st 4 e,.int .i64 most] [(.int .i64)]) (m56 (zah n) e most):=by kernel_rfl
theorem q57 (n:Nat) (e:LicSpec.Ex): @Eq (Option (Int×Unit)) ((zah (n+1)).d 57 [.st 4 e] [(.int .i64)]) (m57 (zah n) e):=by kernel_rfl
theorem q58 (n:Nat) (e:LicSpec.Ex): @Eq (Option (Int×Unit)) ((zah (n+1)).d 58 [.st 4 e] [(.int .i64)]) (m58 (zah n) e):=by kernel_rfl
theorem q60 (n:Nat) (s:(List UInt8)): @Eq (Option (LicSpec.Ex×Int×Int×Unit)) ((zah (n+1)).d 60 [.str s] [(.st 4),(.int .i64),(.int .i64)]) (m60 (zah n) s):=by kernel_rfl
theorem q62 (n:Nat) (c:Gt.Catalog) (l:(List Gt.Use)): @Eq (Option (List (List UInt8)×Unit)) ((zah (n+1)).d 62 [.st 2 c,.sl (.st 6) l] [(.sl .str)]) (m62 (zah n) c l):=by kernel_rfl
theorem q64 (n:Nat) (c:Gt.Catalog) (l:(List Gt.Use)): @Eq (Option (List (List UInt8)×Unit)) ((zah (n+1)).d 64 [.st 2 c,.sl (.st 6) l] [(.sl .str)]) (m64 (zah n) c l):=by kernel_rfl
theorem q65 (n:Nat) (c:Gt.Catalog) (l:(List (List UInt8))): @Eq (Option (List (Gt.A2_string)×Unit)) ((zah (n+1)).d 65 [.st 2 c,.sl .str l] [(.sl (.st 0))]) (m65 (zah n) c l):=by kernel_rfl
theorem q66 (n:Nat) (c:Gt.Catalog) (l:(List Gt.Use)): @Eq (Option (List (Gt.A2_string)×Unit)) ((zah (n+1)).d 66 [.st 2 c,.sl (.st 6) l] [(.sl (.st 0))]) (m66 (zah n) c l):=by kernel_rfl
theorem q68 (n:Nat) (c:Gt.Catalog) (u:Gt.Use): @Eq (Option (List (List UInt8)×Unit)) ((zah (n+1)).d 68 [.st 2 c,.st 6 u] [(.sl .str)]) (m68 (zah n) c u):=by kernel_rfl
theorem q70 (n:Nat) (c:Gt.Catalog) (e:LicSpec.Ex): @Eq (Option (List (List (Gt.Use))×Int×Unit)) ((zah (n+1)).d 70 [.st 2 c,.st 4 e] [(.sl (.sl (.st 6))),(.int .i64)]) (m70 (zah n) c e):=by kernel_rfl
theorem q73 (n:Nat) (way:(List Gt.Use)) (l:(List Gt.Use)): @Eq (Option (Bool×Unit)) ((zah (n+1)).d 73 [.sl (.st 6) way,.sl (.st 6) l] [.bool]) (m73 (zah n) way l):=by kernel_rfl
theorem q74 (n:Nat) (a:(List Gt.Use)) (b:(List Gt.Use)): @Eq (Option (Bool×Unit)) ((zah (n+1)).d 74 [.sl (.st 6) a,.sl (.st 6) b] [.bool]) (m74 (zah n) a b):=by kernel_rfl
theorem q77 (n:Nat) (c:Gt.Catalog) (e:LicSpec.Ex): @Eq (Option (Int×Unit)) ((zah (n+1)).d 77 [.st 2 c,.st 4 e] [(.int .i64)]) (m77 (zah n) c e):=by kernel_rfl
theorem q78 (n:Nat) (c:Gt.Catalog) (e:LicSpec.Ex) (l:List (List UInt8)): @Eq (Option ((List (List UInt8)×Unit)⊕(Unit))) ((zah (n+1)).l 78 sg78 ((c,e,l,()):Gt.Catalog×LicSpec.Ex×List (List UInt8)×Unit)) (m78 (zah n) c e l):=by kernel_rfl
theorem q79 (n:Nat) (c:Gt.Catalog) (e:LicSpec.Ex): @Eq (Option (List (List (Gt.Use))×Bool×Unit)) ((zah (n+1)).d 79 [.st 2 c,.st 4 e] [(.sl (.sl (.st 6))),.bool]) (m79 (zah n) c e):=by kernel_rfl
theorem q83 (n:Nat) (s:(List Gt.Use)) (v:Gt.Use): @Eq (Option (Bool×Unit)) ((zah (n+1)).d 83 [.sl (.st 6) s,.st 6 v] [.bool]) (m83 (zah n) s v):=by kernel_rfl
theorem q86 (n:Nat) (s:(List (List UInt8))) (v:(List UInt8)): @Eq (Option (Bool×Unit)) ((zah (n+1)).d 86 [.sl .str s,.str v] [.bool]) (m86 (zah n) s v):=by kernel_rfl
theorem q87 (n:Nat) (a:(List (List UInt8))) (b:(List (List UInt8))): @Eq (Option (Bool×Unit)) ((zah (n+1)).d 87 [.sl .str a,.sl .str b] [.bool]) (m87 (zah n) a b):=by kernel_rfl
theorem q88 (n:Nat) (l:(List (List UInt8))) (s:(List UInt8)): @Eq (Option (Bool×Unit)) ((zah (n+1)).d 88 [.sl .str l,.str s] [.bool]) (m88 (zah n) l s):=by kernel_rfl
theorem q93 (n:Nat) (x:(List UInt8)) (y:(List UInt8)): @Eq (Option (Int×Unit)) ((zah (n+1)).d 93 [.str x,.str y] [(.int .i64)]) (m93 (zah n) x y):=by kernel_rfl
theorem q97 (n:Nat) (l:(List (List UInt8))) (s:(List UInt8)): @Eq (Option (List (List UInt8)×Unit)) ((zah (n+1)).d 97 [.sl .str l,.str s] [(.sl .str)]) (m97 (zah n) l s):=by kernel_rfl
theorem q100 (n:Nat) (s:(List UInt8)): @Eq (Option (Bool×Unit)) ((zah (n+1)).d 100 [.str s] [.bool]) (m100 (zah n) s):=by kernel_rfl
theorem q101 (n:Nat) (e:LicSpec.Ex): @Eq (Option (Int×Unit)) ((zah (n+1)).d 101 [.st 4 e] [(.int .i64)]) (m101 (zah n) e):=by kernel_rfl
theorem q103 (n:Nat) (c:Gt.Catalog): @Eq (Option (Int×Unit)) ((zah (n+1)).d 103 [.st 2 c] [(.int .i64)]) (m103 (zah n) c):=by kernel_rfl
theorem q104 (n:Nat) (c:Gt.Catalog): @Eq (Option (Int×Unit)) ((zah (n+1)).d 104 [.st 2 c] [(.int .i64)]) (m104 (zah n) c):=by kernel_rfl
theorem q105 (n:Nat) (c:Gt.Catalog) (name:(List UInt8)): @Eq (Option (Int×Unit)) ((zah (n+1)).d 105 [.st 2 c,.str name] [(.int .i64)]) (m105 (zah n) c name):=by kernel_rfl
theorem q106 (n:Nat) (c:Gt.Catalog) (name:(List UInt8)): @Eq (Option (Int×Unit)) ((zah (n+1)).d 106 [.st 2 c,.str name] [(.int .i64)]) (m106 (zah n) c name):=by kernel_rfl
theorem q108 (n:Nat) (c:Gt.Catalog) (name:(List UInt8)): @Eq (Option (Gt.LicenceRule×Bool×Unit)) ((zah (n+1)).d 108 [.st 2 c,.str name] [(.st 5),.bool]) (m108 (zah n) c name):=by kernel_rfl
theorem q109 (n:Nat) (c:Gt.Catalog) (name:(List UInt8)): @Eq (Option (Gt.Exception×Bool×Unit)) ((zah (n+1)).d 109 [.st 2 c,.str name] [(.st 3),.bool]) (m109 (zah n) c name):=by kernel_rfl
theorem q110 (n:Nat) (c:Gt.Catalog) (e:LicSpec.Ex): @Eq (Option (Int×Unit)) ((zah (n+1)).d 110 [.st 2 c,.st 4 e] [(.int .i64)]) (m110 (zah n) c e):=by kernel_rfl
theorem q111 (n:Nat) (c:Gt.Catalog) (e:LicSpec.Ex): @Eq (Option (List (List UInt8)×Unit)) ((zah (n+1)).d 111 [.st 2 c,.st 4 e] [(.sl .str)]) (m111 (zah n) c e):=by kernel_rfl
theorem q112 (n:Nat) (c:Gt.Catalog) (e:LicSpec.Ex): @Eq (Option (List (List (Gt.Use))×Bool×Unit)) ((zah (n+1)).d 112 [.st 2 c,.st 4 e] [(.sl (.sl (.st 6))),.bool]) (m112 (zah n) c e):=by kernel_rfl
theorem q114 (n:Nat) (l:(List Gt.Use)) (u:Gt.Use): @Eq (Option (Bool×Unit)) ((zah (n+1)).d 114 [.sl (.st 6) l,.st 6 u] [.bool]) (m114 (zah n) l u):=by kernel_rfl
theorem q115 (n:Nat) (l:List (List UInt8)) (s:List UInt8): @Eq (Option ((List (List UInt8)×Unit)⊕(Unit))) ((zah (n+1)).l 115 sg115 ((l,s,()):List (List UInt8)×List UInt8×Unit)) (m115 (zah n) l s):=by kernel_rfl
theorem q116 (n:Nat) (c:Gt.Catalog) (e:LicSpec.Ex): @Eq (Option (List (Gt.Use)×Unit)) ((zah (n+1)).d 116 [.st 2 c,.st 4 e] [(.sl (.st 6))]) (m116 (zah n) c e):=by kernel_rfl
theorem q117 (n:Nat) (l:(List (List Gt.Use))) (w:(List Gt.Use)): @Eq (Option (List (List (Gt.Use))×Unit)) ((zah (n+1)).d 117 [.sl (.sl (.st 6)) l,.sl (.st 6) w] [(.sl (.sl (.st 6)))]) (m117 (zah n) l w):=by kernel_rfl
theorem q118 (n:Nat) (l:(List (List Gt.Use))): @Eq (Option (Bool×Unit)) ((zah (n+1)).d 118 [.sl (.sl (.st 6)) l] [.bool]) (m118 (zah n) l):=by kernel_rfl
theorem q119 (n:Nat) (a:(List Gt.Use)) (b:(List Gt.Use)): @Eq (Option (List (Gt.Use)×Unit)) ((zah (n+1)).d 119 [.sl (.st 6) a,.sl (.st 6) b] [(.sl (.st 6))]) (m119 (zah n) a b):=by kernel_rfl
theorem q120 (n:Nat) (l:(List (List Gt.Use))): @Eq (Option (List (List (Gt.Use))×Unit)) ((zah (n+1)).d 120 [.sl (.sl (.st 6)) l] [(.sl (.sl (.st 6)))]) (m120 (zah n) l):=by kernel_rfl
theorem q122 (n:Nat) (s:(List Gt.Use)) (v:Gt.Use): @Eq (Option (Int×Unit)) ((zah (n+1)).d 122 [.sl (.st 6) s,.st 6 v] [(.int .i64)]) (m122 (zah n) s v):=by kernel_rfl
theorem q124 (n:Nat) (s:(List (List UInt8))) (v:(List UInt8)): @Eq (Option (Int×Unit)) ((zah (n+1)).d 124 [.sl .str s,.str v] [(.int .i64)]) (m124 (zah n) s v):=by kernel_rfl
theorem q128 (n:Nat) (x:(List UInt8)): @Eq (Option (Bool×Unit)) ((zah (n+1)).d 128 [.str x] [.bool]) (m128 (zah n) x):=by kernel_rfl
theorem q130 (n:Nat) (slices:List (List (List UInt8))): @Eq (Option ((List (List UInt8)×Unit)⊕(Unit))) ((zah (n+1)).l 130 sg130 ((slices,()):List (List (List UInt8))×Unit)) (m130 (zah n) slices):=by kernel_rfl
theorem q132 (n:Nat) (s:List (List UInt8)): @Eq (Option ((List (List UInt8)×Unit)⊕(Unit))) ((zah (n+1)).l 132 sg132 ((s,()):List (List UInt8)×Unit)) (m132 (zah n) s):=by kernel_rfl
theorem q133 (n:Nat) (s:(List UInt8)): @Eq (Option (Bool×Unit)) ((zah (n+1)).d 133 [.str s] [.bool]) (m133 (zah n) s):=by kernel_rfl
theorem q134 (n:Nat) (c:Int): @Eq (Option (Bool×Unit)) ((zah (n+1)).d 134 [.int .u8 c] [.bool]) (m134 (zah n) c):=by kernel_rfl
theorem q135 (n:Nat) (s:(List UInt8)): @Eq (Option (Bool×Unit)) ((zah (n+1)).d 135 [.str s] [.bool]) (m135 (zah n) s):=by kernel_rfl
theorem q137 (n:Nat) (rc:Gt.Rdr×Unit): @Eq (Option (((Gt.Rdr×Unit)×(Unit))⊕(Int×Int×Unit))) ((zah (n+1)).e 137 [.ptr 0 0] [162] [(.st 9)] rc [] [(.int .i64),(.int .i64)] 123) (m137 (zah n) rc):=by kernel_rfl
theorem q138 (n:Nat) (rc:Gt.Rdr×Unit): @Eq (Option (((Gt.Rdr×Unit)×(LicSpec.Ex×Unit))⊕(Int×Int×Unit))) ((zah (n+1)).e 138 [.ptr 0 0] [162] [(.st 9)] rc [(.st 4)] [(.int .i64),(.int .i64)] 123) (m138 (zah n) rc):=by kernel_rfl
theorem q139 (n:Nat) (rc:Unit) (at':Int) (code:Int): @Eq (Option (((Unit)×(Unit))⊕(Int×Int×Unit))) ((zah (n+1)).e 139 [.int .i64 at',.int .i64 code] [] [] rc [] [(.int .i64),(.int .i64)] 123) (m139 (zah n) rc at' code):=by kernel_rfl
theorem q140 (n:Nat) (l:(List Gt.LicenceRule)): @Eq (Option (Int×Unit)) ((zah (n+1)).d 140 [.sl (.st 5) l] [(.int .i64)]) (m140 (zah n) l):=by kernel_rfl
theorem q141 (n:Nat) (c:Gt.Catalog) (x:Gt.Exception): @Eq (Option (Int×Unit)) ((zah (n+1)).d 141 [.st 2 c,.st 3 x] [(.int .i64)]) (m141 (zah n) c x):=by kernel_rfl
theorem q142 (n:Nat) (s:(List Gt.A2_string)) (v:Gt.A2_string): @Eq (Option (Bool×Unit)) ((zah (n+1)).d 142 [.sl (.st 0) s,.st 0 v] [.bool]) (m142 (zah n) s v):=by kernel_rfl
theorem q143 (n:Nat) (l:(List Gt.LicenceRule)) (i:Int): @Eq (Option (Int×Unit)) ((zah (n+1)).d 143 [.sl (.st 5) l,.int .i64 i] [(.int .i64)]) (m143 (zah n) l i):=by kernel_rfl
theorem q144 (n:Nat) (c:Gt.Catalog) (i:Int): @Eq (Option (Int×Unit)) ((zah (n+1)).d 144 [.st 2 c,.int .i64 i] [(.int .i64)]) (m144 (zah n) c i):=by kernel_rfl
theorem q150 (n:Nat) (c:Gt.Catalog) (e:LicSpec.Ex): @Eq (Option (List (Gt.Use)×Unit)) ((zah (n+1)).d 150 [.st 2 c,.st 4 e] [(.sl (.st 6))]) (m150 (zah n) c e):=by kernel_rfl
theorem q151 (n:Nat) (l:List (List (Gt.Use))): @Eq (Option ((List (List (Gt.Use))×Bool×Unit)⊕(Unit))) ((zah (n+1)).l 151 sg151 ((l,()):List (List (Gt.Use))×Unit)) (m151 (zah n) l):=by kernel_rfl
theorem q152 (n:Nat) (a:List (List (Gt.Use))) (b:List (List (Gt.Use))): @Eq (Option ((List (List (Gt.Use))×Unit)⊕(Unit))) ((zah (n+1)).l 152 sg152 ((a,b,()):List (List (Gt.Use))×List (List (Gt.Use))×Unit)) (m152 (zah n) a b):=by kernel_rfl
theorem q153 (n:Nat) (l:(List (List Gt.Use))): @Eq (Option (List (List (Gt.Use))×Unit)) ((zah (n+1)).d 153 [.sl (.sl (.st 6)) l] [(.sl (.sl (.st 6)))]) (m153 (zah n) l):=by kernel_rfl
theorem q154 (n:Nat) (c:Gt.Catalog) (e:LicSpec.Ex): @Eq (Option (List (Int)×Unit)) ((zah (n+1)).d 154 [.st 2 c,.st 4 e] [(.sl (.int .i64))]) (m154 (zah n) c e):=by kernel_rfl
theorem q155 (n:Nat) (a:(List Gt.Use)) (b:(List Gt.Use)): @Eq (Option (Int×Unit)) ((zah (n+1)).d 155 [.sl (.st 6) a,.sl (.st 6) b] [(.int .i64)]) (m155 (zah n) a b):=by kernel_rfl
theorem q156 (n:Nat) (a:Gt.Use) (b:Gt.Use): @Eq (Option (Int×Unit)) ((zah (n+1)).d 156 [.st 6 a,.st 6 b] [(.int .i64)]) (m156 (zah n) a b):=by kernel_rfl
theorem q168 (nD:Nat) (n:Int): @Eq (Option ((List (List UInt8)×Unit)⊕(Unit))) ((zah (nD+1)).l 168 sg168 ((n,()):Int×Unit)) (m168 (zah nD) n):=by kernel_rfl
theorem q170 (n:Nat) (s:(List UInt8)): @Eq (Option (List UInt8×Unit)) ((zah (n+1)).d 170 [.str s] [.str]) (m170 (zah n) s):=by kernel_rfl
theorem q171 (n:Nat) (b:Int): @Eq (Option (Bool×Unit)) ((zah (n+1)).d 171 [.int .u8 b] [.bool]) (m171 (zah n) b):=by kernel_rfl
theorem q174 (n:Nat) (rc:Gt.Rdr×Unit): @Eq (Option (((Gt.Rdr×Unit)×(LicSpec.Ex×Unit))⊕(Int×Int×Unit))) ((zah (n+1)).e 174 [.ptr 0 0] [162] [(.st 9)] rc [(.st 4)] [(.int .i64),(.int .i64)] 123) (m174 (zah n) rc):=by kernel_rfl
theorem q175 (n:Nat) (l:(List (List UInt8))): @Eq (Option (Int×Unit)) ((zah (n+1)).d 175 [.sl .str l] [(.int .i64)]) (m175 (zah n) l):=by kernel_rfl
theorem q176 (n:Nat) (l:(List (List UInt8))) (i:Int): @Eq (Option (Bool×Unit)) ((zah (n+1)).d 176 [.sl .str l,.int .i64 i] [.bool]) (m176 (zah n) l i):=by kernel_rfl
theorem q177 (n:Nat) (s:(List Gt.A2_string)) (v:Gt.A2_string): @Eq (Option (Int×Unit)) ((zah (n+1)).d 177 [.sl (.st 0) s,.st 0 v] [(.int .i64)]) (m177 (zah n) s v):=by kernel_rfl
theorem q178 (n:Nat) (l:(List (List UInt8))) (most:Int): @Eq (Option (Int×Unit)) ((zah (n+1)).d 178 [.sl .str l,.int .i64 most] [(.int .i64)]) (m178 (zah n) l most):=by kernel_rfl
theorem q180 (n:Nat) (a:(List Gt.Use)) (b:(List Gt.Use)): @Eq (Option (Int×Unit)) ((zah (n+1)).d 180 [.sl (.st 6) a,.sl (.st 6) b] [(.int .i64)]) (m180 (zah n) a b):=by kernel_rfl
theorem q181 (n:Nat) (s:List (List (Gt.Use))): @Eq (Option ((List (List (Gt.Use))×Unit)⊕(Unit))) ((zah (n+1)).l 181 sg181 ((s,()):List (List (Gt.Use))×Unit)) (m181 (zah n) s):=by kernel_rfl
theorem q182 (n:Nat) (a:(List Gt.Use)) (b:(List Gt.Use)): @Eq (Option (Bool×Unit)) ((zah (n+1)).d 182 [.sl (.st 6) a,.sl (.st 6) b] [.bool]) (m182 (zah n) a b):=by kernel_rfl
theorem q184 (n:Nat) (a:Gt.Use) (b:Gt.Use): @Eq (Option (Int×Unit)) ((zah (n+1)).d 184 [.st 6 a,.st 6 b] [(.int .i64)]) (m184 (zah n) a b):=by kernel_rfl
theorem q203 (n:Nat) (rc:Gt.Rdr×Unit) (word:(List UInt8)): @Eq (Option (((Gt.Rdr×Unit)×(Bool×Unit))⊕(Int×Int×Unit))) ((zah (n+1)).e 203 [.ptr 0 0,.str word] [162] [(.st 9)] rc [.bool] [(.int .i64),(.int .i64)] 123) (m203 (zah n) rc word):=by kernel_rfl
theorem q204 (n:Nat) (rc:Gt.Rdr×Unit): @Eq (Option (((Gt.Rdr×Unit)×(LicSpec.Ex×Unit))⊕(Int×Int×Unit))) ((zah (n+1)).e 204 [.ptr 0 0] [162] [(.st 9)] rc [(.st 4)] [(.int .i64),(.int .i64)] 123) (m204 (zah n) rc):=by kernel_rfl
theorem q206 (n:Nat) (vals:(List Int)): @Eq (Option (Int×Unit)) ((zah (n+1)).d 206 [.sl (.int .i64) vals] [(.int .i64)]) (m206 (zah n) vals):=by kernel_rfl
theorem q207 (n:Nat) (x:Int) (y:Int): @Eq (Option (Int×Unit)) ((zah (n+1)).d 207 [.int .i64 x,.int .i64 y] [(.int .i64)]) (m207 (zah n) x y):=by kernel_rfl
theorem q209 (n:Nat) (slices:List (List (Gt.Use))): @Eq (Option ((List (Gt.Use)×Unit)⊕(Unit))) ((zah (n+1)).l 209 sg209 ((slices,()):List (List (Gt.Use))×Unit)) (m209 (zah n) slices):=by kernel_rfl
theorem q211 (n:Nat) (s:List (Gt.Use)): @Eq (Option ((List (Gt.Use)×Unit)⊕(Unit))) ((zah (n+1)).l 211 sg211 ((s,()):List (Gt.Use)×Unit)) (m211 (zah n) s):=by kernel_rfl
theorem q221 (n:Nat) (rc:Gt.Rdr×Unit): @Eq (Option (((Gt.Rdr×Unit)×(List UInt8×Unit))⊕(Int×Int×Unit))) ((zah (n+1)).e 221 [.ptr 0 0] [162] [(.st 9)] rc [.str] [(.int .i64),(.int .i64)] 123) (m221 (zah n) rc):=by kernel_rfl
theorem q230 (n:Nat) (x:Int): @Eq (Option (Bool×Unit)) ((zah (n+1)).d 230 [.int .i64 x] [.bool]) (m230 (zah n) x):=by kernel_rfl
theorem q231 (nD:Nat) (n:Int): @Eq (Option ((List (Gt.Use)×Unit)⊕(Unit))) ((zah (nD+1)).l 231 sg231 ((n,()):Int×Unit)) (m231 (zah nD) n):=by kernel_rfl
end Pe.Tryz
end
