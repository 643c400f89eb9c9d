/- PROVED HERE: a part of the seat's proofs; see the text that holds the claim's theorem. -/
import Derived.Test.YtdmdigejjdianaaGreatDoorNm
import Derived.Test.YtdmdigejjdianaaGreatDoorPtD
import Derived.Test.YtdmdigejjdianaaGreatDoorPtA
section
/- What is known of functions that are not read: strings.Join, IndexByte, Contains and Split at one byte, SortStableFunc at no element. -/
set_option maxRecDepth 100000
namespace Pe.Tryz
open Go Go.Proofs Pe Go.RowKit
theorem zpF{nu:Nu}{D:Dat}{w:World}{s:List UInt8}{v:Value}(h:Rep (S:=Sx) un nu D w (.str s) v):v= .string ⟨s.toArray⟩:=by simpa only[Rep] using h
noncomputable def e27(_:Orc Sx):Entry Sx:=⟨[.str,.int .u8],[.int .i64],λt=>some (Lib.indexByte t.1 (UInt8.ofNat (Int.toNat t.2.1)),())⟩
theorem hok27(o:Orc Sx)(_:SoundO Tryz.prog un o):Entry.Ok Tryz.prog un 27 (e27 o):=by
 intro t r h D w vs _ hD ha;cases h
 match vs,ha with
 |[v,u],ha =>
   simp only[e27,zcp,RepL,inj,Rep] at ha;obtain ⟨rfl,rfl,_⟩:=ha;refine (Tryz.strings_IndexByte ⟨List.toArray t.1⟩ t.2.1 w).mono ?_
   rintro x w' ⟨rfl,rfl⟩
   exact ⟨_,rfl,Below.refl _ _,by simp only[e27,zcp,zfx,inj,Rep]⟩
 |[],ha=>simp[e27,zcp,RepL] at ha|[_],ha=>simp[e27,zcp,RepL] at ha|_::_::_::_,ha=>simp[e27,zcp,RepL] at ha
def has1(s:List UInt8):List UInt8->Option (Bool×Unit)|[c]=>some (decide (0<=Lib.indexByte s c),())|_=>none
theorem zmK{s sub:List UInt8}{r:Bool×Unit}(h:has1 s sub=some r):∃c,sub=[c]/\r=(decide (0<=Lib.indexByte s c),()):=by
 match sub,h with
 |[c],h=>exact ⟨c,rfl,(yAy h).symm⟩
noncomputable def e15(_:Orc Sx):Entry Sx:=⟨[.str,.str],[.bool],λt=>has1 t.1 t.2.1⟩
theorem hok15(o:Orc Sx)(_:SoundO Tryz.prog un o):Entry.Ok Tryz.prog un 15 (e15 o):=by
 intro t r h D w vs _ hD ha;obtain ⟨s,sub,t2⟩:=t;obtain ⟨c,h1,h2⟩:=zmK (show has1 s sub=some r from h)
 ·subst h1;subst h2
  match vs,ha with
  |[v,u],ha =>
    simp only[e15,zcp,RepL,inj,Rep] at ha;obtain ⟨rfl,rfl,_⟩:=ha;refine (Tryz.strings_Contains_one ⟨List.toArray s⟩ c w).mono ?_
    rintro x w' ⟨rfl,rfl⟩
    exact ⟨_,rfl,Below.refl _ _,by simp only[e15,zcp,zfx,inj,Rep]⟩
  |[],ha=>simp[e15,zcp,RepL] at ha|[_],ha=>simp[e15,zcp,RepL] at ha|_::_::_::_,ha=>simp[e15,zcp,RepL] at ha
def zbN(c:UInt8)(s:List UInt8):List (List UInt8):=(Lib.splitB ⟨#[c]⟩ 0 (Lib.countB ⟨s.toArray⟩ ⟨#[c]⟩) ⟨s.toArray⟩).map (·.data.toList)
def zkq(s:List UInt8):List UInt8->Option (List (List UInt8)×Unit)|[c]=>bif Nat.ble s.length 4000000000 then some (zbN c s,()) else none|_=>none
theorem zjO{s sub:List UInt8}{r:List (List UInt8)×Unit}(h:zkq s sub=some r):∃c,sub=[c]/\(bif Nat.ble s.length 4000000000 then some (zbN c s,()) else none)=some r:=by
 match sub,h with
 |[c],h=>exact ⟨c,rfl,h⟩
noncomputable def e50(_:Orc Sx):Entry Sx:=⟨[.str,.str],[.cs .str],λt=>zkq t.1 t.2.1⟩
theorem hok50(o:Orc Sx)(_:SoundO Tryz.prog un o):Entry.Ok Tryz.prog un 50 (e50 o):=by
 intro t r h D w vs _ hD ha;obtain ⟨s,sub,t2⟩:=t;obtain ⟨c,h0,h⟩:=zjO (show zkq s sub=some r from h)
 ·subst h0;obtain ⟨h1,h2⟩:=zac h;cases h2;simp only[yAP] at h1
  match vs,ha with
  |[v,u],ha =>
    simp only[e50,zcp,RepL,inj,Rep] at ha;obtain ⟨rfl,rfl,_⟩:=ha;have hsz:(ByteArray.mk (List.toArray s)).size=List.length (α:=UInt8) s:=rfl;refine (Any.split_one Tryz.lays146 (by kernel_rfl) ⟨List.toArray s⟩ c w (by rw[hsz];omega)).mono ?_
    rintro x w' ⟨rfl,hw⟩
    have hb:Below w.heap.size w w':=(by rw[hw];exact (Below.refl _ _).alloc (yAl _) _);refine ⟨_,rfl,hb,?_⟩;simp only[e50,zcp,zfx,inj,Rep];have hlen:=Lib.splitB_all ⟨#[c]⟩ (yAl 1) 0 _ ⟨List.toArray s⟩ rfl;have hl2:(zbN c s).length=Lib.countB ⟨List.toArray s⟩ ⟨#[c]⟩+1:=by unfold zbN;rw[yCe];exact hlen
    have hcell:∀(i:Nat)(x:List UInt8),(zbN c s)[i]?=some x->w'.cell? ⟨w.heap.size,i,none⟩=some (.string ⟨x.toArray⟩):=(by intro i x hi;unfold zbN at hi;rw[yAg,yAT] at hi;obtain ⟨y,hy,rfl⟩:=hi;rw[hw];have:(w.alloc (.cells ((Lib.splitB ⟨#[c]⟩ 0 (Lib.countB ⟨List.toArray s⟩ ⟨#[c]⟩) ⟨List.toArray s⟩).map Value.string).toArray (Tryz.lays146_ren.t 9))).heap[w.heap.size]?=_:=heap_alloc_new w _;rw[cell_of_row _ _ _ _ _ _ this];simp[hy]);have key:DR (S:=Sx) un (zi0 D w w') w' [.cs .str] (sg (u:= .cs .str) (zbN c s)) [.slice (some ⟨w.heap.size,0,none⟩) (zbN c s).length (zbN c s).length]:=by
     refine .cs (t:=sg (u:= .cs .str) (zbN c s)) w.heap.size 0 (λi=>[match (zbN c s)[i]? with|some x=>.string ⟨x.toArray⟩|none=>undef]) (λi x hi=>?_) (λi x hi=>?_) .nil
     ·intro j v hj;have hx:(zbN c s)[i]?=some x:=hi;cases j with
      |zero =>
        simp[hx] at hj;subst hj;refine ⟨.inr ⟨by simp,?_⟩,?_⟩;·rw[hw];simp
        ·simpa[U.size] using hcell i x hx
      |succ j=>simp at hj
     ·have hx:(zbN c s)[i]?=some x:=hi;simp only[hx];exact .str .nil
    rw[hl2] at key;exact key
  |[],ha=>simp[e50,zcp,RepL] at ha|[_],ha=>simp[e50,zcp,RepL] at ha|_::_::_::_,ha=>simp[e50,zcp,RepL] at ha
theorem zoW{D:Dat}{w:World}{x:List UInt8}{cc:List Value}(h:DR (S:=Sx) un D w [.str] (sg (u:= .str) x) cc):cc=[.string ⟨x.toArray⟩]:=by
 cases h with
 |str h'=>cases h';rfl
theorem zli{D:Dat}{w:World}{xs:List (List UInt8)}{v:Value}(hv:DR (S:=Sx) un D w [.sl .str] (sg (u:= .sl .str) xs) [v]) :
  (xs=[]/\∃A c,v= .slice A 0 c)\/(xs≠[]/\∃b off c,v= .slice (some ⟨b,off,none⟩) xs.length c/\xs.length<=c/\∀(j:Nat)(x:List UInt8),xs[j]?=some x->D b (off+j)/\w.cell? ⟨b,off+j,none⟩=some (.string ⟨x.toArray⟩)):=by
 cases hv with
 |sl0 A c h0 h=>exact .inl ⟨h0,A,c,rfl⟩|sl b off c cs hc k1 k2 h =>
   by_cases hx:xs=[];·subst hx;exact .inl ⟨rfl,some ⟨b,off,none⟩,c,rfl⟩
   ·refine .inr ⟨hx,b,off,c,rfl,hc,λj x hj=>?_⟩;have e1:=k1 j x hj;have e2:=zoW (k2 j x hj);rw[e2] at e1;simpa[U.size] using e1 0 _ rfl
theorem zmG{D:Dat}{w:World}(hD:∀k o,D k o->k<w.heap.size){xs:List (List UInt8)}{sep:List UInt8}{v:Value}(hv:DR (S:=Sx) un D w [.sl .str] (sg (u:= .sl .str) xs) [v])(h1:xs.length<=1000000)(h2:(Lib.join xs sep).length<=100000000) :
  Calls Tryz.prog 60 #[v,.string ⟨sep.toArray⟩] w λx w'=>x= .returned (.string ⟨(Lib.join xs sep).toArray⟩)/\Below w.heap.size w w':=by
 rcases zli hv with ⟨rfl,A,c,rfl⟩|⟨hx,b,off,c,rfl,hc,hcell⟩
 ·refine (Tryz.strings_Join_none A c ⟨sep.toArray⟩ w).mono ?_
  rintro x w' ⟨rfl,rfl⟩
  exact ⟨rfl,Below.refl _ _⟩
 ·have hb:b<w.heap.size:=by
   obtain ⟨y,ys,rfl⟩:=List.exists_cons_of_ne_nil hx;exact hD _ _ (hcell 0 y rfl).1
  have hmap:(xs.map λx=>ByteArray.mk x.toArray).map (·.data.toList)=xs:=by rw[List.map_map];simp[Function.comp_def]
  have hlen:(xs.map λx=>ByteArray.mk x.toArray).length=xs.length:=by simp
  have:=Tryz.strings_Join b off c (xs.map λx=>ByteArray.mk x.toArray) ⟨sep.toArray⟩ w (λj x hj=>by
   rw[yAg] at hj;cases hxj:xs[j]? with
   |none=>rw[hxj] at hj;cases hj|some y=>rw[hxj] at hj;cases hj;exact (hcell j y hxj).2) hb (by rw[hlen];omega) (by rw[hlen];exact hc) (by rw[hmap];exact yAG h2 (by decide))
  rw[hmap,hlen] at this;exact this
noncomputable def e60(_:Orc Sx):Entry Sx:=⟨[.sl .str,.str],[.str],λt=>bif Nat.ble (List.length (α:=List UInt8) t.1) 1000000&&Nat.ble (Lib.join t.1 t.2.1).length 100000000 then some (Lib.join t.1 t.2.1,()) else none⟩
theorem hok60(o:Orc Sx)(_:SoundO Tryz.prog un o):Entry.Ok Tryz.prog un 60 (e60 o):=by
 intro t r h D w vs _ hD ha;obtain ⟨h1,h2⟩:=zac h;cases h2;simp only[yAd,yAP] at h1
 match vs,ha with
 |[v,u],ha =>
   simp only[e60,zcp,RepL,inj] at ha;have hu:=zpF ha.2.1;subst hu;have hv:=ha.1;simp only[Rep] at hv;refine (zmG hD hv h1.1 h1.2).mono ?_
   rintro x w' ⟨rfl,hb⟩
   exact ⟨_,rfl,hb,by simp only[e60,zcp,zfx,inj,Rep]⟩
 |[],ha=>simp[e60,zcp,RepL] at ha|[_],ha=>simp[e60,zcp,RepL] at ha|_::_::_::_,ha=>simp[e60,zcp,RepL] at ha
end Pe.Tryz
end
section
set_option maxRecDepth 100000
namespace Pe.Tryz
open Go Go.Proofs Pe
noncomputable def tabN(o:Orc Sx):Tr (Entry Sx):=(.node (.node (.node (.node (.node (.node .leaf 3 ⟨[(.st 6)],[.bool],λt=>m3 o t.1⟩ .leaf) 4 ⟨[(.st 6)],[(.st 6),(.int .i64)],λt=>m4 o t.1⟩ (.node .leaf 5 ⟨[(.st 6)],[(.int .i64)],λt=>m5 o t.1⟩ .leaf)) 6 ⟨[],[.bool],λ_=>m6 o ⟩ (.node (.node .leaf 7 ⟨[(.st 6),(.st 6)],[(.int .i64),(.int .i64)],λt=>m7 o t.1 t.2.1⟩ .leaf) 8 ⟨[(.st 6),(.st 6)],[.bool,(.int .i64)],λt=>m8 o t.1 t.2.1⟩ .leaf)) 9 ⟨[(.st 6),(.st 6)],[.bool],λt=>m9 o t.1 t.2.1⟩ (.node (.node (.node .leaf 10 ⟨[(.st 6)],[(.int .i64)],λt=>m10 o t.1⟩ .leaf) 11 ⟨[(.st 6)],[(.st 6)],λt=>m11 o t.1⟩ (.node .leaf 12 ⟨[.str],[(.st 4),(.int .i64)],λt=>m12 o t.1⟩ .leaf)) 13 ⟨[(.sl .str)],[.bool],λt=>m13 o t.1⟩ (.node (.node .leaf 14 ⟨[.str,.bool],[.bool],λt=>m14 o t.1 t.2.1⟩ .leaf) 15 (e15 o) .leaf))) 16 ⟨[.str],[.bool],λt=>m16 o t.1⟩ (.node (.node (.node (.node .leaf 17 ⟨[.str],[.bool],λt=>m17 o t.1⟩ .leaf) 18 ⟨[.str],[(.st 6),(.int .i64),(.int .i64)],λt=>m18 o t.1⟩ (.node .leaf 19 ⟨[(.st 6)],[.str,(.int .i64)],λt=>m19 o t.1⟩ .leaf)) 20 ⟨[(.st 6),(.st 6)],[(.int .i64)],λt=>m20 o t.1 t.2.1⟩ (.node (.node .leaf 21 ⟨[(.st 6),(.st 6)],[(.int .i64)],λt=>m21 o t.1 t.2.1⟩ .leaf) 22 ⟨[(.sl (.st 5)),(.sl (.st 5))],[.bool],λt=>m22 o t.1 t.2.1⟩ .leaf)) 23 ⟨[.str],[(.st 4),(.int .i64)],λt=>m23 o t.1⟩ (.node (.node (.node .leaf 24 ⟨[(.st 6)],[.bool],λt=>m24 o t.1⟩ .leaf) 25 ⟨[(.sl .str),.bool],[.bool],λt=>m25 o t.1 t.2.1⟩ .leaf) 26 ⟨[.str],[(.cs .str)],λt=>m26 o t.1⟩ (.node (.node .leaf 27 (e27 o) .leaf) 28 ⟨[(.sl (.st 5))],[(.int .i64)],λt=>m28 o t.1⟩ .leaf)))) 29 ⟨[.str],[.bool],λt=>m29 o t.1⟩ (.node (.node (.node (.node (.node .leaf 30 ⟨[.str],[.str],λt=>m30 o t.1⟩ .leaf) 31 ⟨[.str],[.str],λt=>m31 o t.1⟩ (.node .leaf 32 ⟨[.str],[(.int .i64)],λt=>m32 o t.1⟩ .leaf)) 33 ⟨[],[(.sl (.st 4))],λ_=>m33 o ⟩ (.node (.node .leaf 34 ⟨[.str],[(.sl .str)],λt=>m34 o t.1⟩ .leaf) 38 ⟨[(.st 5),(.st 5)],[(.int .i64)],λt=>m38 o t.1 t.2.1⟩ .leaf)) 39 ⟨[.str,.str],[(.int .i64)],λt=>m39 o t.1 t.2.1⟩ (.node (.node (.node .leaf 40 ⟨[(.st 6)],[.str],λt=>m40 o t.1⟩ .leaf) 41 ⟨[.str],[.str],λt=>m41 o t.1⟩ (.node .leaf 42 ⟨[.str],[.str],λt=>m42 o t.1⟩ .leaf)) 43 ⟨[(.sl (.int .i64))],[(.int .i64)],λt=>m43 o t.1⟩ (.node (.node .leaf 44 ⟨[(.int .i64),(.int .i64)],[(.int .i64)],λt=>m44 o t.1 t.2.1⟩ .leaf) 45 ⟨[.str],[(.int .i64)],λt=>m45 o t.1⟩ .leaf))) 46 ⟨[(.int .i64),.str,.str],[(.int .i64)],λt=>m46 o t.1 t.2.1 t.2.2.1⟩ (.node (.node (.node (.node .leaf 48 ⟨[(.st 5),(.st 5)],[(.int .i64)],λt=>m48 o t.1 t.2.1⟩ .leaf) 49 ⟨[],[(.st 2)],λ_=>m49 o ⟩ (.node .leaf 50 (e50 o) .leaf)) 52 ⟨[.str],[.bool],λt=>m52 o t.1⟩ (.node (.node .leaf 53 ⟨[(.int .u8)],[.bool],λt=>m53 o t.1⟩ .leaf) 56 ⟨[],[(.sl .str)],λ_=>m56 o ⟩ .leaf)) 60 (e60 o) (.node (.node (.node .leaf 66 ⟨[.str],[.bool],λt=>m66 o t.1⟩ .leaf) 67 ⟨[(.int .u8)],[.bool],λt=>m67 o t.1⟩ .leaf) 69 ⟨[(.int .i64)],[.bool],λt=>m69 o t.1⟩ (.node (.node .leaf 74 ⟨[(.int .u8),.bool],[.bool],λt=>m74 o t.1 t.2.1⟩ .leaf) 90 ⟨[(.int .u8)],[(.int .i64)],λt=>m90 o t.1⟩ .leaf)))))
noncomputable def tabE(o:Orc Sx):Tr (EntryE Sx):=(.node (.node (.node .leaf 58 ⟨1,[.bool],[66],[(.st 7)],[.str],[],0,λc t=>m58 o c t.1⟩ .leaf) 59 ⟨1,[],[66],[(.st 7)],[(.sl .str)],[],0,λc _=>m59 o c ⟩ (.node .leaf 62 ⟨1,[],[66],[(.st 7)],[.str],[],0,λc _=>m62 o c ⟩ .leaf)) 63 ⟨1,[],[66],[(.st 7)],[(.st 5)],[],0,λc _=>m63 o c ⟩ (.node (.node .leaf 64 ⟨1,[(.int .i64)],[66],[(.st 7)],[],[],0,λc t=>m64 o c t.1⟩ .leaf) 80 ⟨1,[],[66],[(.st 7)],[(.int .u8),.bool],[],0,λc _=>m80 o c ⟩ .leaf))
noncomputable def tabL(o:Orc Sx):Tr (EntryL Sx):=(.node (.node (.node .leaf 36 ⟨sg36,λt=>m36 o t.1 t.2.1 t.2.2.1⟩ .leaf) 65 ⟨sg65,λt=>m65 o t.1 t.2.1⟩ (.node .leaf 81 ⟨sg81,λt=>m81 o t.1 t.2.1 t.2.2.1⟩ .leaf)) 82 ⟨sg82,λt=>m82 o t.1 t.2.1 t.2.2.1 t.2.2.2.1⟩ (.node (.node .leaf 91 ⟨sg91,λt=>m91 o t.1 t.2.1 t.2.2.1 t.2.2.2.1⟩ .leaf) 102 ⟨sg102,λt=>m102 o t.1 t.2.1 t.2.2.1 t.2.2.2.1⟩ .leaf))
theorem zoJ(o:Orc Sx)(h:SoundO Tryz.prog un o):(tabN o).All (Entry.Ok Tryz.prog un):=⟨⟨⟨⟨⟨⟨trivial,ok3 o h,trivial⟩,ok4 o h,⟨trivial,ok5 o h,trivial⟩⟩,ok6 o h,⟨⟨trivial,ok7 o h,trivial⟩,ok8 o h,trivial⟩⟩,ok9 o h,⟨⟨⟨trivial,ok10 o h,trivial⟩,ok11 o h,⟨trivial,ok12 o h,trivial⟩⟩,ok13 o h,⟨⟨trivial,ok14 o h,trivial⟩,hok15 o h,trivial⟩⟩⟩,ok16 o h,⟨⟨⟨⟨trivial,ok17 o h,trivial⟩,ok18 o h,⟨trivial,ok19 o h,trivial⟩⟩,ok20 o h,⟨⟨trivial,ok21 o h,trivial⟩,ok22 o h,trivial⟩⟩,ok23 o h,⟨⟨⟨trivial,ok24 o h,trivial⟩,ok25 o h,trivial⟩,ok26 o h,⟨⟨trivial,hok27 o h,trivial⟩,ok28 o h,trivial⟩⟩⟩⟩,ok29 o h,⟨⟨⟨⟨⟨trivial,ok30 o h,trivial⟩,ok31 o h,⟨trivial,ok32 o h,trivial⟩⟩,ok33 o h,⟨⟨trivial,ok34 o h,trivial⟩,ok38 o h,trivial⟩⟩,ok39 o h,⟨⟨⟨trivial,ok40 o h,trivial⟩,ok41 o h,⟨trivial,ok42 o h,trivial⟩⟩,ok43 o h,⟨⟨trivial,ok44 o h,trivial⟩,ok45 o h,trivial⟩⟩⟩,ok46 o h,⟨⟨⟨⟨trivial,ok48 o h,trivial⟩,ok49 o h,⟨trivial,hok50 o h,trivial⟩⟩,ok52 o h,⟨⟨trivial,ok53 o h,trivial⟩,ok56 o h,trivial⟩⟩,hok60 o h,⟨⟨⟨trivial,ok66 o h,trivial⟩,ok67 o h,trivial⟩,ok69 o h,⟨⟨trivial,ok74 o h,trivial⟩,ok90 o h,trivial⟩⟩⟩⟩⟩
theorem zoL(o:Orc Sx)(h:SoundO Tryz.prog un o):(tabE o).All (EntryE.Ok Tryz.prog un):=⟨⟨⟨trivial,ok58 o h,trivial⟩,ok59 o h,⟨trivial,ok62 o h,trivial⟩⟩,ok63 o h,⟨⟨trivial,ok64 o h,trivial⟩,ok80 o h,trivial⟩⟩
noncomputable def tabP(o:Orc Sx):Tr (List (EntryP Sx)):=(.node .leaf 37 [e37 o] .leaf)
theorem zoI(o:Orc Sx)(h:SoundO Tryz.prog un o):(tabP o).All (EntryPs.Ok Tryz.prog un):=⟨trivial,λe he=>(show e=e37 o from yA9.1 he)▸hok37 o h,trivial⟩
theorem zoK(o:Orc Sx)(h:SoundO Tryz.prog un o):(tabL o).All (EntryL.Ok Tryz.prog un):=⟨⟨⟨trivial,ok36 o h,trivial⟩,ok65 o h,⟨trivial,ok81 o h,trivial⟩⟩,ok82 o h,⟨⟨trivial,ok91 o h,trivial⟩,ok102 o h,trivial⟩⟩
noncomputable def zam:Nat->Orc Sx|0=>⟨λ_ _ _=>none,λ_ _ _ _ _ _ _ _=>none,λ_ _ _=>none,λ_ _ _ _ _=>none⟩|n+1=>zps (tabN (zam n)) (tabE (zam n)) (tabL (zam n)) (tabP (zam n))
theorem zc9:∀n,SoundO Tryz.prog un (zam n)|0=>⟨λ_ _ _ _ h=>(by cases h),λ_ _ _ _ _ _ _ _ _ h=>(by cases h),λ_ _ _ _ h=>(by cases h),λ_ _ _ _ _ _ h=>(by cases h)⟩|n+1=>zly (zoJ _ (zc9 n)) (zoL _ (zc9 n)) (zoK _ (zc9 n)) (zoI _ (zc9 n))
end Pe.Tryz
end
section
set_option maxRecDepth 100000
namespace Pe.Tryz
open Go Go.Proofs Pe
theorem q4(n:Nat)(p:Gt.Purl): @Eq (Option (Gt.Purl×Int×Unit)) ((zam (n+1)).d 4 [.st 6 p] [(.st 6),(.int .i64)]) (m4 (zam n) p):=by kernel_rfl
theorem q5(n:Nat)(p:Gt.Purl): @Eq (Option (Int×Unit)) ((zam (n+1)).d 5 [.st 6 p] [(.int .i64)]) (m5 (zam n) p):=by kernel_rfl
theorem q6(n:Nat)  : @Eq (Option (Bool×Unit)) ((zam (n+1)).d 6 [] [.bool]) (m6 (zam n) ):=by kernel_rfl
theorem q7(n:Nat)(a:Gt.Purl)(b:Gt.Purl): @Eq (Option (Int×Int×Unit)) ((zam (n+1)).d 7 [.st 6 a,.st 6 b] [(.int .i64),(.int .i64)]) (m7 (zam n) a b):=by kernel_rfl
theorem q8(n:Nat)(a:Gt.Purl)(b:Gt.Purl): @Eq (Option (Bool×Int×Unit)) ((zam (n+1)).d 8 [.st 6 a,.st 6 b] [.bool,(.int .i64)]) (m8 (zam n) a b):=by kernel_rfl
theorem q9(n:Nat)(a:Gt.Purl)(b:Gt.Purl): @Eq (Option (Bool×Unit)) ((zam (n+1)).d 9 [.st 6 a,.st 6 b] [.bool]) (m9 (zam n) a b):=by kernel_rfl
theorem q10(n:Nat)(p:Gt.Purl): @Eq (Option (Int×Unit)) ((zam (n+1)).d 10 [.st 6 p] [(.int .i64)]) (m10 (zam n) p):=by kernel_rfl
theorem q11(n:Nat)(p:Gt.Purl): @Eq (Option (Gt.Purl×Unit)) ((zam (n+1)).d 11 [.st 6 p] [(.st 6)]) (m11 (zam n) p):=by kernel_rfl
theorem q12(n:Nat)(kind:(List UInt8)): @Eq (Option (Gt.KindRule×Int×Unit)) ((zam (n+1)).d 12 [.str kind] [(.st 4),(.int .i64)]) (m12 (zam n) kind):=by kernel_rfl
theorem q13(n:Nat)(l:(List (List UInt8))): @Eq (Option (Bool×Unit)) ((zam (n+1)).d 13 [.sl .str l] [.bool]) (m13 (zam n) l):=by kernel_rfl
theorem q14(n:Nat)(s:(List UInt8))(dots:Bool): @Eq (Option (Bool×Unit)) ((zam (n+1)).d 14 [.str s,.bool dots] [.bool]) (m14 (zam n) s dots):=by kernel_rfl
theorem q16(n:Nat)(s:(List UInt8)): @Eq (Option (Bool×Unit)) ((zam (n+1)).d 16 [.str s] [.bool]) (m16 (zam n) s):=by kernel_rfl
theorem q17(n:Nat)(s:(List UInt8)): @Eq (Option (Bool×Unit)) ((zam (n+1)).d 17 [.str s] [.bool]) (m17 (zam n) s):=by kernel_rfl
theorem q18(n:Nat)(s:(List UInt8)): @Eq (Option (Gt.Purl×Int×Int×Unit)) ((zam (n+1)).d 18 [.str s] [(.st 6),(.int .i64),(.int .i64)]) (m18 (zam n) s):=by kernel_rfl
theorem q19(n:Nat)(p:Gt.Purl): @Eq (Option (List UInt8×Int×Unit)) ((zam (n+1)).d 19 [.st 6 p] [.str,(.int .i64)]) (m19 (zam n) p):=by kernel_rfl
theorem q20(n:Nat)(a:Gt.Purl)(b:Gt.Purl): @Eq (Option (Int×Unit)) ((zam (n+1)).d 20 [.st 6 a,.st 6 b] [(.int .i64)]) (m20 (zam n) a b):=by kernel_rfl
theorem q21(n:Nat)(a:Gt.Purl)(b:Gt.Purl): @Eq (Option (Int×Unit)) ((zam (n+1)).d 21 [.st 6 a,.st 6 b] [(.int .i64)]) (m21 (zam n) a b):=by kernel_rfl
theorem q22(n:Nat)(s1':(List Gt.Pair))(s2':(List Gt.Pair)): @Eq (Option (Bool×Unit)) ((zam (n+1)).d 22 [.sl (.st 5) s1',.sl (.st 5) s2'] [.bool]) (m22 (zam n) s1' s2'):=by kernel_rfl
theorem q23(n:Nat)(kind:(List UInt8)): @Eq (Option (Gt.KindRule×Int×Unit)) ((zam (n+1)).d 23 [.str kind] [(.st 4),(.int .i64)]) (m23 (zam n) kind):=by kernel_rfl
theorem q24(n:Nat)(p:Gt.Purl): @Eq (Option (Bool×Unit)) ((zam (n+1)).d 24 [.st 6 p] [.bool]) (m24 (zam n) p):=by kernel_rfl
theorem q25(n:Nat)(l:(List (List UInt8)))(dots:Bool): @Eq (Option (Bool×Unit)) ((zam (n+1)).d 25 [.sl .str l,.bool dots] [.bool]) (m25 (zam n) l dots):=by kernel_rfl
theorem q26(n:Nat)(s:(List UInt8)): @Eq (Option (List (List UInt8)×Unit)) ((zam (n+1)).d 26 [.str s] [(.cs .str)]) (m26 (zam n) s):=by kernel_rfl
theorem q28(n:Nat)(l:(List Gt.Pair)): @Eq (Option (Int×Unit)) ((zam (n+1)).d 28 [.sl (.st 5) l] [(.int .i64)]) (m28 (zam n) l):=by kernel_rfl
theorem q29(n:Nat)(s:(List UInt8)): @Eq (Option (Bool×Unit)) ((zam (n+1)).d 29 [.str s] [.bool]) (m29 (zam n) s):=by kernel_rfl
theorem q30(n:Nat)(s:(List UInt8)): @Eq (Option (List UInt8×Unit)) ((zam (n+1)).d 30 [.str s] [.str]) (m30 (zam n) s):=by kernel_rfl
theorem q31(n:Nat)(s:(List UInt8)): @Eq (Option (List UInt8×Unit)) ((zam (n+1)).d 31 [.str s] [.str]) (m31 (zam n) s):=by kernel_rfl
theorem q32(n:Nat)(kind:(List UInt8)): @Eq (Option (Int×Unit)) ((zam (n+1)).d 32 [.str kind] [(.int .i64)]) (m32 (zam n) kind):=by kernel_rfl
theorem q33(n:Nat)  : @Eq (Option (List (Gt.KindRule)×Unit)) ((zam (n+1)).d 33 [] [(.sl (.st 4))]) (m33 (zam n) ):=by kernel_rfl
theorem q34(n:Nat)(s:(List UInt8)): @Eq (Option (List (List UInt8)×Unit)) ((zam (n+1)).d 34 [.str s] [(.sl .str)]) (m34 (zam n) s):=by kernel_rfl
theorem q36(n:Nat)(b0_0:List UInt8)(b0_1:Int)(b0_2:Int): @Eq (Option ((List UInt8×Int×Int×List UInt8×List UInt8×List UInt8×List UInt8×List (Gt.Pair)×List UInt8×Unit)⊕(Unit))) ((zam (n+1)).l 36 sg36 ((b0_0,b0_1,b0_2,()):List UInt8×Int×Int×Unit)) (m36 (zam n) b0_0 b0_1 b0_2):=by kernel_rfl
theorem q37(n:Nat)(l:List (Gt.Pair)): @Eq (Option (List (Gt.Pair))) ((zam (n+1)).p 37 (.st 5) 43 [.func (.func 38) [] []] l) (inl1 (m37 (zam n) l)):=(show _=opt1 (inl1 (m37 (zam n) l)) by kernel_rfl).trans (zoV _)
theorem q39(n:Nat)(x:(List UInt8))(y:(List UInt8)): @Eq (Option (Int×Unit)) ((zam (n+1)).d 39 [.str x,.str y] [(.int .i64)]) (m39 (zam n) x y):=by kernel_rfl
theorem q40(n:Nat)(p:Gt.Purl): @Eq (Option (List UInt8×Unit)) ((zam (n+1)).d 40 [.st 6 p] [.str]) (m40 (zam n) p):=by kernel_rfl
theorem q41(n:Nat)(s:(List UInt8)): @Eq (Option (List UInt8×Unit)) ((zam (n+1)).d 41 [.str s] [.str]) (m41 (zam n) s):=by kernel_rfl
theorem q42(n:Nat)(s:(List UInt8)): @Eq (Option (List UInt8×Unit)) ((zam (n+1)).d 42 [.str s] [.str]) (m42 (zam n) s):=by kernel_rfl
theorem q43(n:Nat)(vals:(List Int)): @Eq (Option (Int×Unit)) ((zam (n+1)).d 43 [.sl (.int .i64) vals] [(.int .i64)]) (m43 (zam n) vals):=by kernel_rfl
theorem q44(n:Nat)(x:Int)(y:Int): @Eq (Option (Int×Unit)) ((zam (n+1)).d 44 [.int .i64 x,.int .i64 y] [(.int .i64)]) (m44 (zam n) x y):=by kernel_rfl
theorem q45(n:Nat)(kind:(List UInt8)): @Eq (Option (Int×Unit)) ((zam (n+1)).d 45 [.str kind] [(.int .i64)]) (m45 (zam n) kind):=by kernel_rfl
theorem q46(n:Nat)(kind:Int)(a:(List UInt8))(b:(List UInt8)): @Eq (Option (Int×Unit)) ((zam (n+1)).d 46 [.int .i64 kind,.str a,.str b] [(.int .i64)]) (m46 (zam n) kind a b):=by kernel_rfl
theorem q48(n:Nat)(a:Gt.Pair)(b:Gt.Pair): @Eq (Option (Int×Unit)) ((zam (n+1)).d 48 [.st 5 a,.st 5 b] [(.int .i64)]) (m48 (zam n) a b):=by kernel_rfl
theorem q49(n:Nat)  : @Eq (Option (Gt.A5_×Unit)) ((zam (n+1)).d 49 [] [(.st 2)]) (m49 (zam n) ):=by kernel_rfl
theorem q52(n:Nat)(s:(List UInt8)): @Eq (Option (Bool×Unit)) ((zam (n+1)).d 52 [.str s] [.bool]) (m52 (zam n) s):=by kernel_rfl
theorem q53(n:Nat)(c:Int): @Eq (Option (Bool×Unit)) ((zam (n+1)).d 53 [.int .u8 c] [.bool]) (m53 (zam n) c):=by kernel_rfl
theorem q56(n:Nat)  : @Eq (Option (List (List UInt8)×Unit)) ((zam (n+1)).d 56 [] [(.sl .str)]) (m56 (zam n) ):=by kernel_rfl
theorem q58(n:Nat)(rc:Gt.Rd_×Unit)(star:Bool): @Eq (Option (((Gt.Rd_×Unit)×(List UInt8×Unit))⊕(Unit))) ((zam (n+1)).e 58 [.ptr 0 0,.bool star] [66] [(.st 7)] rc [.str] [] 0) (m58 (zam n) rc star):=by kernel_rfl
theorem q59(n:Nat)(rc:Gt.Rd_×Unit): @Eq (Option (((Gt.Rd_×Unit)×(List (List UInt8)×Unit))⊕(Unit))) ((zam (n+1)).e 59 [.ptr 0 0] [66] [(.st 7)] rc [(.sl .str)] [] 0) (m59 (zam n) rc):=by kernel_rfl
theorem q62(n:Nat)(rc:Gt.Rd_×Unit): @Eq (Option (((Gt.Rd_×Unit)×(List UInt8×Unit))⊕(Unit))) ((zam (n+1)).e 62 [.ptr 0 0] [66] [(.st 7)] rc [.str] [] 0) (m62 (zam n) rc):=by kernel_rfl
theorem q63(n:Nat)(rc:Gt.Rd_×Unit): @Eq (Option (((Gt.Rd_×Unit)×(Gt.Pair×Unit))⊕(Unit))) ((zam (n+1)).e 63 [.ptr 0 0] [66] [(.st 7)] rc [(.st 5)] [] 0) (m63 (zam n) rc):=by kernel_rfl
theorem q64(n:Nat)(rc:Gt.Rd_×Unit)(at':Int): @Eq (Option (((Gt.Rd_×Unit)×(Unit))⊕(Unit))) ((zam (n+1)).e 64 [.ptr 0 0,.int .i64 at'] [66] [(.st 7)] rc [] [] 0) (m64 (zam n) rc at'):=by kernel_rfl
theorem q65(nD:Nat)(b0_0:List (Gt.Pair))(n:Int): @Eq (Option ((List (Gt.Pair)×Unit)⊕(Unit))) ((zam (nD+1)).l 65 sg65 ((b0_0,n,()):List (Gt.Pair)×Int×Unit)) (m65 (zam nD) b0_0 n):=by kernel_rfl
theorem q66(n:Nat)(x:(List UInt8)): @Eq (Option (Bool×Unit)) ((zam (n+1)).d 66 [.str x] [.bool]) (m66 (zam n) x):=by kernel_rfl
theorem q67(n:Nat)(c:Int): @Eq (Option (Bool×Unit)) ((zam (n+1)).d 67 [.int .u8 c] [.bool]) (m67 (zam n) c):=by kernel_rfl
theorem q69(n:Nat)(x:Int): @Eq (Option (Bool×Unit)) ((zam (n+1)).d 69 [.int .i64 x] [.bool]) (m69 (zam n) x):=by kernel_rfl
theorem q74(n:Nat)(c:Int)(first:Bool): @Eq (Option (Bool×Unit)) ((zam (n+1)).d 74 [.int .u8 c,.bool first] [.bool]) (m74 (zam n) c first):=by kernel_rfl
theorem q80(n:Nat)(rc:Gt.Rd_×Unit): @Eq (Option (((Gt.Rd_×Unit)×(Int×Bool×Unit))⊕(Unit))) ((zam (n+1)).e 80 [.ptr 0 0] [66] [(.st 7)] rc [(.int .u8),.bool] [] 0) (m80 (zam n) rc):=by kernel_rfl
theorem q81(n:Nat)(b0_0:List (Gt.Pair))(a:Int)(b:Int): @Eq (Option ((List (Gt.Pair)×Unit)⊕(Unit))) ((zam (n+1)).l 81 sg81 ((b0_0,a,b,()):List (Gt.Pair)×Int×Int×Unit)) (m81 (zam n) b0_0 a b):=by kernel_rfl
theorem q90(n:Nat)(c:Int): @Eq (Option (Int×Unit)) ((zam (n+1)).d 90 [.int .u8 c] [(.int .i64)]) (m90 (zam n) c):=by kernel_rfl
end Pe.Tryz
end
