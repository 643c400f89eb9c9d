/- PROVED HERE: a part of the seat's proofs; see the text that holds the claim's theorem. -/
import Derived.Test.YtbkjohfobibmlaaGreatDoorNm
import Derived.Test.YtbkjohfobibmlaaGreatDoorPtD
import Derived.Test.YtbkjohfobibmlaaGreatDoorPtA
section
/- What is known of functions that are not read: strings.Join, IndexByte, Contains and Split at one byte, SortStableFunc at no element. -/
set_option maxRecDepth 100000
namespace Pe.Tryz
open Go Go.Proofs Pe Go.RowKit
theorem ztP{nu:Nu}{D:Dat}{w:World}{s:List UInt8}{v:Value}(h:Rep (S:=Sx) un nu D w (.str s) v):v= .string ⟨s.toArray⟩:=by simpa only[Rep] using h
noncomputable def e47(_:Orc Sx):Entry Sx:=⟨[.str,.int .u8],[.int .i64],λt=>some (Lib.indexByte t.1 (UInt8.ofNat (Int.toNat t.2.1)),())⟩
theorem hok47(o:Orc Sx)(_:SoundO Tryz.prog un o):Entry.Ok Tryz.prog un 47 (e47 o):=by
 intro t r h D w vs _ hD ha;cases h
 match vs,ha with
 |[v,u],ha =>
   simp only[e47,zcN,RepL,inj,Rep] at ha;obtain ⟨rfl,rfl,_⟩:=ha;refine (Tryz.strings_IndexByte ⟨List.toArray t.1⟩ t.2.1 w).mono ?_
   rintro x w' ⟨rfl,rfl⟩
   exact ⟨_,rfl,Below.refl _ _,by simp only[e47,zcN,zgY,inj,Rep]⟩
 |[],ha=>simp[e47,zcN,RepL] at ha|[_],ha=>simp[e47,zcN,RepL] at ha|_::_::_::_,ha=>simp[e47,zcN,RepL] at ha
def has1(s:List UInt8):List UInt8->Option (Bool×Unit)|[c]=>some (decide (0<=Lib.indexByte s c),())|_=>none
theorem zp6{s sub:List UInt8}{r:Bool×Unit}(h:has1 s sub=some r):∃c,sub=[c]/\r=(decide (0<=Lib.indexByte s c),()):=by
 match sub,h with
 |[c],h=>exact ⟨c,rfl,(yAp h).symm⟩
noncomputable def e63(_:Orc Sx):Entry Sx:=⟨[.str,.str],[.bool],λt=>has1 t.1 t.2.1⟩
theorem hok63(o:Orc Sx)(_:SoundO Tryz.prog un o):Entry.Ok Tryz.prog un 63 (e63 o):=by
 intro t r h D w vs _ hD ha;obtain ⟨s,sub,t2⟩:=t;obtain ⟨c,h1,h2⟩:=zp6 (show has1 s sub=some r from h)
 ·subst h1;subst h2
  match vs,ha with
  |[v,u],ha =>
    simp only[e63,zcN,RepL,inj,Rep] at ha;obtain ⟨rfl,rfl,_⟩:=ha;refine (Tryz.strings_Contains_one ⟨List.toArray s⟩ c w).mono ?_
    rintro x w' ⟨rfl,rfl⟩
    exact ⟨_,rfl,Below.refl _ _,by simp only[e63,zcN,zgY,inj,Rep]⟩
  |[],ha=>simp[e63,zcN,RepL] at ha|[_],ha=>simp[e63,zcN,RepL] at ha|_::_::_::_,ha=>simp[e63,zcN,RepL] at ha
def zb2(c:UInt8)(s:List UInt8):List (List UInt8):=(Lib.splitB ⟨#[c]⟩ 0 (Lib.countB ⟨s.toArray⟩ ⟨#[c]⟩) ⟨s.toArray⟩).map (·.data.toList)
def zm3(s:List UInt8):List UInt8->Option (List (List UInt8)×Unit)|[c]=>bif Nat.ble s.length 4000000000 then some (zb2 c s,()) else none|_=>none
theorem zmg{s sub:List UInt8}{r:List (List UInt8)×Unit}(h:zm3 s sub=some r):∃c,sub=[c]/\(bif Nat.ble s.length 4000000000 then some (zb2 c s,()) else none)=some r:=by
 match sub,h with
 |[c],h=>exact ⟨c,rfl,h⟩
noncomputable def e100(_:Orc Sx):Entry Sx:=⟨[.str,.str],[.cs .str],λt=>zm3 t.1 t.2.1⟩
theorem hok100(o:Orc Sx)(_:SoundO Tryz.prog un o):Entry.Ok Tryz.prog un 100 (e100 o):=by
 intro t r h D w vs _ hD ha;obtain ⟨s,sub,t2⟩:=t;obtain ⟨c,h0,h⟩:=zmg (show zm3 s sub=some r from h)
 ·subst h0;obtain ⟨h1,h2⟩:=zae h;cases h2;simp only[yAX] at h1
  match vs,ha with
  |[v,u],ha =>
    simp only[e100,zcN,RepL,inj,Rep] at ha;obtain ⟨rfl,rfl,_⟩:=ha;have hsz:(ByteArray.mk (List.toArray s)).size=List.length (α:=UInt8) s:=rfl;refine (Any.split_one Tryz.lays146 (by kernel_rfl) ⟨List.toArray s⟩ c w (by rw[hsz];omega)).mono ?_
    rintro x w' ⟨rfl,hw⟩
    have hb:Below w.heap.size w w':=(by rw[hw];exact (Below.refl _ _).alloc (yAj _) _);refine ⟨_,rfl,hb,?_⟩;simp only[e100,zcN,zgY,inj,Rep];have hlen:=Lib.splitB_all ⟨#[c]⟩ (yAj 1) 0 _ ⟨List.toArray s⟩ rfl;have hl2:(zb2 c s).length=Lib.countB ⟨List.toArray s⟩ ⟨#[c]⟩+1:=by unfold zb2;rw[yBs];exact hlen
    have hcell:∀(i:Nat)(x:List UInt8),(zb2 c s)[i]?=some x->w'.cell? ⟨w.heap.size,i,none⟩=some (.string ⟨x.toArray⟩):=(by intro i x hi;unfold zb2 at hi;rw[yAg,yA3] at hi;obtain ⟨y,hy,rfl⟩:=hi;rw[hw];have:(w.alloc (.cells ((Lib.splitB ⟨#[c]⟩ 0 (Lib.countB ⟨List.toArray s⟩ ⟨#[c]⟩) ⟨List.toArray s⟩).map Value.string).toArray (Tryz.lays146_ren.t 9))).heap[w.heap.size]?=_:=heap_alloc_new w _;rw[cell_of_row _ _ _ _ _ _ this];simp[hy]);have key:DR (S:=Sx) un (zlo D w w') w' [.cs .str] (sg (u:= .cs .str) (zb2 c s)) [.slice (some ⟨w.heap.size,0,none⟩) (zb2 c s).length (zb2 c s).length]:=by
     refine .cs (t:=sg (u:= .cs .str) (zb2 c s)) w.heap.size 0 (λi=>[match (zb2 c s)[i]? with|some x=>.string ⟨x.toArray⟩|none=>undef]) (λi x hi=>?_) (λi x hi=>?_) .nil
     ·intro j v hj;have hx:(zb2 c s)[i]?=some x:=hi;cases j with
      |zero =>
        simp[hx] at hj;subst hj;refine ⟨.inr ⟨by simp,?_⟩,?_⟩;·rw[hw];simp
        ·simpa[U.size] using hcell i x hx
      |succ j=>simp at hj
     ·have hx:(zb2 c s)[i]?=some x:=hi;simp only[hx];exact .str .nil
    rw[hl2] at key;exact key
  |[],ha=>simp[e100,zcN,RepL] at ha|[_],ha=>simp[e100,zcN,RepL] at ha|_::_::_::_,ha=>simp[e100,zcN,RepL] at ha
theorem zsI{D:Dat}{w:World}{x:List UInt8}{cc:List Value}(h:DR (S:=Sx) un D w [.str] (sg (u:= .str) x) cc):cc=[.string ⟨x.toArray⟩]:=by
 cases h with
 |str h'=>cases h';rfl
theorem zn8{D:Dat}{w:World}{xs:List (List UInt8)}{v:Value}(hv:DR (S:=Sx) un D w [.sl .str] (sg (u:= .sl .str) xs) [v]) :
  (xs=[]/\∃A c,v= .slice A 0 c)\/(xs≠[]/\∃b off c,v= .slice (some ⟨b,off,none⟩) xs.length c/\xs.length<=c/\∀(j:Nat)(x:List UInt8),xs[j]?=some x->D b (off+j)/\w.cell? ⟨b,off+j,none⟩=some (.string ⟨x.toArray⟩)):=by
 cases hv with
 |sl0 A c h0 h=>exact .inl ⟨h0,A,c,rfl⟩|sl b off c cs hc k1 k2 h =>
   by_cases hx:xs=[];·subst hx;exact .inl ⟨rfl,some ⟨b,off,none⟩,c,rfl⟩
   ·refine .inr ⟨hx,b,off,c,rfl,hc,λj x hj=>?_⟩;have e1:=k1 j x hj;have e2:=zsI (k2 j x hj);rw[e2] at e1;simpa[U.size] using e1 0 _ rfl
theorem zpY{D:Dat}{w:World}(hD:∀k o,D k o->k<w.heap.size){xs:List (List UInt8)}{sep:List UInt8}{v:Value}(hv:DR (S:=Sx) un D w [.sl .str] (sg (u:= .sl .str) xs) [v])(h1:xs.length<=1000000)(h2:(Lib.join xs sep).length<=100000000) :
  Calls Tryz.prog 118 #[v,.string ⟨sep.toArray⟩] w λx w'=>x= .returned (.string ⟨(Lib.join xs sep).toArray⟩)/\Below w.heap.size w w':=by
 rcases zn8 hv with ⟨rfl,A,c,rfl⟩|⟨hx,b,off,c,rfl,hc,hcell⟩
 ·refine (Tryz.strings_Join_none A c ⟨sep.toArray⟩ w).mono ?_
  rintro x w' ⟨rfl,rfl⟩
  exact ⟨rfl,Below.refl _ _⟩
 ·have hb:b<w.heap.size:=by
   obtain ⟨y,ys,rfl⟩:=List.exists_cons_of_ne_nil hx;exact hD _ _ (hcell 0 y rfl).1
  have hmap:(xs.map λx=>ByteArray.mk x.toArray).map (·.data.toList)=xs:=by rw[List.map_map];simp[Function.comp_def]
  have hlen:(xs.map λx=>ByteArray.mk x.toArray).length=xs.length:=by simp
  have:=Tryz.strings_Join b off c (xs.map λx=>ByteArray.mk x.toArray) ⟨sep.toArray⟩ w (λj x hj=>by
   rw[yAg] at hj;cases hxj:xs[j]? with
   |none=>rw[hxj] at hj;cases hj|some y=>rw[hxj] at hj;cases hj;exact (hcell j y hxj).2) hb (by rw[hlen];omega) (by rw[hlen];exact hc) (by rw[hmap];exact yAJ h2 (by decide))
  rw[hmap,hlen] at this;exact this
noncomputable def e118(_:Orc Sx):Entry Sx:=⟨[.sl .str,.str],[.str],λt=>bif Nat.ble (List.length (α:=List UInt8) t.1) 1000000&&Nat.ble (Lib.join t.1 t.2.1).length 100000000 then some (Lib.join t.1 t.2.1,()) else none⟩
theorem hok118(o:Orc Sx)(_:SoundO Tryz.prog un o):Entry.Ok Tryz.prog un 118 (e118 o):=by
 intro t r h D w vs _ hD ha;obtain ⟨h1,h2⟩:=zae h;cases h2;simp only[yAd,yAX] at h1
 match vs,ha with
 |[v,u],ha =>
   simp only[e118,zcN,RepL,inj] at ha;have hu:=ztP ha.2.1;subst hu;have hv:=ha.1;simp only[Rep] at hv;refine (zpY hD hv h1.1 h1.2).mono ?_
   rintro x w' ⟨rfl,hb⟩
   exact ⟨_,rfl,hb,by simp only[e118,zcN,zgY,inj,Rep]⟩
 |[],ha=>simp[e118,zcN,RepL] at ha|[_],ha=>simp[e118,zcN,RepL] at ha|_::_::_::_,ha=>simp[e118,zcN,RepL] at ha
end Pe.Tryz
end
section
set_option maxRecDepth 100000
namespace Pe.Tryz
open Go Go.Proofs Pe
noncomputable def tabN(o:Orc Sx):Tr (Entry Sx):=(.node (.node (.node (.node (.node (.node (.node .leaf 3 ⟨[.str,(.st 3)],[.bool],λt=>m3 o t.1 t.2.1⟩ .leaf) 7 ⟨[.str],[(.int .i64),(.int .i64)],λt=>m7 o t.1⟩ .leaf) 8 ⟨[.str],[(.int .i64),(.int .i64)],λt=>m8 o t.1⟩ (.node .leaf 9 ⟨[.str,(.st 3)],[.bool,(.int .i64)],λt=>m9 o t.1 t.2.1⟩ .leaf)) 10 ⟨[.str,(.st 3)],[.bool,(.int .i64)],λt=>m10 o t.1 t.2.1⟩ (.node (.node .leaf 11 ⟨[],[.bool],λ_=>m11 o ⟩ .leaf) 16 ⟨[(.st 3)],[(.int .i64)],λt=>m16 o t.1⟩ (.node .leaf 17 ⟨[.str],[(.st 11),(.int .i64),(.int .i64)],λt=>m17 o t.1⟩ .leaf))) 18 ⟨[.str],[(.st 5),(.int .i64),(.int .i64)],λt=>m18 o t.1⟩ (.node (.node (.node .leaf 19 ⟨[(.st 3)],[(.st 3)],λt=>m19 o t.1⟩ .leaf) 20 ⟨[(.st 11)],[(.fm (.st 14) .bool)],λt=>m20 o t.1⟩ (.node .leaf 21 ⟨[(.st 3)],[(.sl (.int .i64))],λt=>m21 o t.1⟩ .leaf)) 22 ⟨[(.st 11),(.fm (.st 14) .bool),(.int .i64)],[(.fm (.st 14) .bool)],λt=>m22 o t.1 t.2.1 t.2.2.1⟩ (.node (.node .leaf 23 ⟨[(.st 11),(.st 14)],[.bool],λt=>m23 o t.1 t.2.1⟩ .leaf) 24 ⟨[(.st 3)],[(.int .i64)],λt=>m24 o t.1⟩ (.node .leaf 25 ⟨[(.st 5),(.st 3)],[.bool],λt=>m25 o t.1 t.2.1⟩ .leaf)))) 26 ⟨[.str],[(.st 3),(.int .i64),(.int .i64)],λt=>m26 o t.1⟩ (.node (.node (.node (.node .leaf 27 ⟨[(.st 3)],[.str,(.int .i64)],λt=>m27 o t.1⟩ .leaf) 29 ⟨[],[(.st 0)],λ_=>m29 o ⟩ (.node .leaf 33 ⟨[.str],[(.st 1),(.int .i64)],λt=>m33 o t.1⟩ .leaf)) 40 ⟨[],[(.sl .str)],λ_=>m40 o ⟩ (.node (.node .leaf 43 ⟨[.str],[(.st 1),(.int .i64)],λt=>m43 o t.1⟩ .leaf) 44 ⟨[(.st 3)],[.bool],λt=>m44 o t.1⟩ (.node .leaf 45 ⟨[(.sl .str),.bool],[.bool],λt=>m45 o t.1 t.2.1⟩ .leaf))) 46 ⟨[.str],[(.cs .str)],λt=>m46 o t.1⟩ (.node (.node (.node .leaf 47 (e47 o) .leaf) 48 ⟨[(.sl (.st 2))],[(.int .i64)],λt=>m48 o t.1⟩ (.node .leaf 49 ⟨[.str],[.bool],λt=>m49 o t.1⟩ .leaf)) 51 ⟨[.str],[(.int .i64)],λt=>m51 o t.1⟩ (.node (.node .leaf 56 ⟨[.str],[(.int .i64)],λt=>m56 o t.1⟩ .leaf) 57 ⟨[.str],[.str],λt=>m57 o t.1⟩ (.node .leaf 58 ⟨[.str],[.str],λt=>m58 o t.1⟩ .leaf))))) 59 ⟨[(.st 11),(.fm (.st 14) .bool)],[(.fm (.st 14) .bool)],λt=>m59 o t.1 t.2.1⟩ (.node (.node (.node (.node (.node .leaf 60 ⟨[(.st 11),(.st 14),(.int .i64)],[(.st 14),.bool],λt=>m60 o t.1 t.2.1 t.2.2.1⟩ .leaf) 61 ⟨[(.sl .str)],[.bool],λt=>m61 o t.1⟩ (.node .leaf 62 ⟨[.str,.bool],[.bool],λt=>m62 o t.1 t.2.1⟩ .leaf)) 63 (e63 o) (.node (.node .leaf 64 ⟨[.str],[.bool],λt=>m64 o t.1⟩ .leaf) 65 ⟨[.str],[.bool],λt=>m65 o t.1⟩ (.node .leaf 66 ⟨[(.st 3)],[(.st 3)],λt=>m66 o t.1⟩ .leaf))) 67 ⟨[(.st 5),(.sl .str)],[.bool],λt=>m67 o t.1 t.2.1⟩ (.node (.node (.node .leaf 68 ⟨[.str],[(.sl .str)],λt=>m68 o t.1⟩ .leaf) 69 ⟨[(.sl (.st 4)),.str],[.bool],λt=>m69 o t.1 t.2.1⟩ (.node .leaf 72 ⟨[(.st 2),(.st 2)],[(.int .i64)],λt=>m72 o t.1 t.2.1⟩ .leaf)) 73 ⟨[.str,.str],[(.int .i64)],λt=>m73 o t.1 t.2.1⟩ (.node (.node .leaf 74 ⟨[(.st 3)],[.str],λt=>m74 o t.1⟩ .leaf) 75 ⟨[.str],[.str],λt=>m75 o t.1⟩ (.node .leaf 76 ⟨[.str],[.str],λt=>m76 o t.1⟩ .leaf)))) 83 ⟨[],[(.sl (.st 1))],λ_=>m83 o ⟩ (.node (.node (.node (.node .leaf 100 (e100 o) .leaf) 102 ⟨[.str],[.bool],λt=>m102 o t.1⟩ (.node .leaf 108 ⟨[.str],[.str],λt=>m108 o t.1⟩ .leaf)) 110 ⟨[(.int .u8)],[.bool],λt=>m110 o t.1⟩ (.node (.node .leaf 113 ⟨[(.fm (.st 14) .bool),(.st 14)],[(.fm (.st 14) .bool)],λt=>m113 o t.1 t.2.1⟩ .leaf) 115 ⟨[.str],[.str],λt=>m115 o t.1⟩ (.node .leaf 116 ⟨[(.st 5),(.int .i64),(.sl .str)],[.bool],λt=>m116 o t.1 t.2.1 t.2.2.1⟩ .leaf))) 118 (e118 o) (.node (.node (.node .leaf 122 ⟨[.str],[.bool],λt=>m122 o t.1⟩ .leaf) 123 ⟨[(.int .u8)],[.bool],λt=>m123 o t.1⟩ (.node .leaf 139 ⟨[(.int .u8),.bool],[.bool],λt=>m139 o t.1 t.2.1⟩ .leaf)) 141 ⟨[.str,.str],[.bool],λt=>m141 o t.1 t.2.1⟩ (.node (.node .leaf 142 ⟨[(.int .u8)],[(.int .i64)],λt=>m142 o t.1⟩ .leaf) 156 ⟨[(.int .u8)],[(.int .i64)],λt=>m156 o t.1⟩ (.node .leaf 157 ⟨[.str,.str],[.bool],λt=>m157 o t.1 t.2.1⟩ .leaf))))))
noncomputable def tabE(o:Orc Sx):Tr (EntryE Sx):=(.node (.node (.node (.node .leaf 50 ⟨1,[],[98],[(.st 12)],[(.st 11)],[],0,λc _=>m50 o c ⟩ .leaf) 52 ⟨1,[],[102],[(.st 6)],[.str],[],0,λc _=>m52 o c ⟩ (.node .leaf 53 ⟨1,[.bool],[102],[(.st 6)],[(.sl (.st 4)),.bool],[],0,λc t=>m53 o c t.1⟩ .leaf)) 54 ⟨1,[(.int .u8)],[102],[(.st 6)],[.bool],[],0,λc t=>m54 o c t.1⟩ (.node (.node .leaf 103 ⟨1,[.bool],[98],[(.st 12)],[.str],[],0,λc t=>m103 o c t.1⟩ .leaf) 104 ⟨1,[.bool],[98],[(.st 12)],[(.sl (.st 10)),.bool],[],0,λc t=>m104 o c t.1⟩ .leaf)) 106 ⟨1,[(.int .i64)],[98],[(.st 12)],[],[],0,λc t=>m106 o c t.1⟩ (.node (.node (.node .leaf 107 ⟨1,[.bool],[102],[(.st 6)],[],[],0,λc t=>m107 o c t.1⟩ .leaf) 109 ⟨1,[],[102],[(.st 6)],[(.int .u8)],[],0,λc _=>m109 o c ⟩ (.node .leaf 117 ⟨1,[],[98],[(.st 12)],[(.sl .str)],[],0,λc _=>m117 o c ⟩ .leaf)) 119 ⟨1,[],[98],[(.st 12)],[.str],[],0,λc _=>m119 o c ⟩ (.node (.node .leaf 120 ⟨1,[],[98],[(.st 12)],[(.st 2)],[],0,λc _=>m120 o c ⟩ .leaf) 140 ⟨1,[],[98],[(.st 12)],[(.int .u8),.bool],[],0,λc _=>m140 o c ⟩ .leaf)))
noncomputable def tabL(o:Orc Sx):Tr (EntryL Sx):=(.node (.node (.node .leaf 70 ⟨sg70,λt=>m70 o t.1 t.2.1 t.2.2.1⟩ .leaf) 121 ⟨sg121,λt=>m121 o t.1 t.2.1⟩ (.node .leaf 146 ⟨sg146,λt=>m146 o t.1 t.2.1 t.2.2.1⟩ .leaf)) 147 ⟨sg147,λt=>m147 o t.1 t.2.1 t.2.2.1 t.2.2.2.1⟩ (.node (.node .leaf 163 ⟨sg163,λt=>m163 o t.1 t.2.1 t.2.2.1 t.2.2.2.1⟩ .leaf) 189 ⟨sg189,λt=>m189 o t.1 t.2.1 t.2.2.1 t.2.2.2.1⟩ .leaf))
theorem zsu(o:Orc Sx)(h:SoundO Tryz.prog un o):(tabN o).All (Entry.Ok Tryz.prog un):=⟨⟨⟨⟨⟨⟨⟨trivial,ok3 o h,trivial⟩,ok7 o h,trivial⟩,ok8 o h,⟨trivial,ok9 o h,trivial⟩⟩,ok10 o h,⟨⟨trivial,ok11 o h,trivial⟩,ok16 o h,⟨trivial,ok17 o h,trivial⟩⟩⟩,ok18 o h,⟨⟨⟨trivial,ok19 o h,trivial⟩,ok20 o h,⟨trivial,ok21 o h,trivial⟩⟩,ok22 o h,⟨⟨trivial,ok23 o h,trivial⟩,ok24 o h,⟨trivial,ok25 o h,trivial⟩⟩⟩⟩,ok26 o h,⟨⟨⟨⟨trivial,ok27 o h,trivial⟩,ok29 o h,⟨trivial,ok33 o h,trivial⟩⟩,ok40 o h,⟨⟨trivial,ok43 o h,trivial⟩,ok44 o h,⟨trivial,ok45 o h,trivial⟩⟩⟩,ok46 o h,⟨⟨⟨trivial,hok47 o h,trivial⟩,ok48 o h,⟨trivial,ok49 o h,trivial⟩⟩,ok51 o h,⟨⟨trivial,ok56 o h,trivial⟩,ok57 o h,⟨trivial,ok58 o h,trivial⟩⟩⟩⟩⟩,ok59 o h,⟨⟨⟨⟨⟨trivial,ok60 o h,trivial⟩,ok61 o h,⟨trivial,ok62 o h,trivial⟩⟩,hok63 o h,⟨⟨trivial,ok64 o h,trivial⟩,ok65 o h,⟨trivial,ok66 o h,trivial⟩⟩⟩,ok67 o h,⟨⟨⟨trivial,ok68 o h,trivial⟩,ok69 o h,⟨trivial,ok72 o h,trivial⟩⟩,ok73 o h,⟨⟨trivial,ok74 o h,trivial⟩,ok75 o h,⟨trivial,ok76 o h,trivial⟩⟩⟩⟩,ok83 o h,⟨⟨⟨⟨trivial,hok100 o h,trivial⟩,ok102 o h,⟨trivial,ok108 o h,trivial⟩⟩,ok110 o h,⟨⟨trivial,ok113 o h,trivial⟩,ok115 o h,⟨trivial,ok116 o h,trivial⟩⟩⟩,hok118 o h,⟨⟨⟨trivial,ok122 o h,trivial⟩,ok123 o h,⟨trivial,ok139 o h,trivial⟩⟩,ok141 o h,⟨⟨trivial,ok142 o h,trivial⟩,ok156 o h,⟨trivial,ok157 o h,trivial⟩⟩⟩⟩⟩⟩
theorem zsw(o:Orc Sx)(h:SoundO Tryz.prog un o):(tabE o).All (EntryE.Ok Tryz.prog un):=⟨⟨⟨⟨trivial,ok50 o h,trivial⟩,ok52 o h,⟨trivial,ok53 o h,trivial⟩⟩,ok54 o h,⟨⟨trivial,ok103 o h,trivial⟩,ok104 o h,trivial⟩⟩,ok106 o h,⟨⟨⟨trivial,ok107 o h,trivial⟩,ok109 o h,⟨trivial,ok117 o h,trivial⟩⟩,ok119 o h,⟨⟨trivial,ok120 o h,trivial⟩,ok140 o h,trivial⟩⟩⟩
noncomputable def tabP(o:Orc Sx):Tr (List (EntryP Sx)):=(.node .leaf 71 [e71 o] .leaf)
theorem zst(o:Orc Sx)(h:SoundO Tryz.prog un o):(tabP o).All (EntryPs.Ok Tryz.prog un):=⟨trivial,λe he=>(show e=e71 o from yBk.1 he)▸hok71 o h,trivial⟩
theorem zsv(o:Orc Sx)(h:SoundO Tryz.prog un o):(tabL o).All (EntryL.Ok Tryz.prog un):=⟨⟨⟨trivial,ok70 o h,trivial⟩,ok121 o h,⟨trivial,ok146 o h,trivial⟩⟩,ok147 o h,⟨⟨trivial,ok163 o h,trivial⟩,ok189 o h,trivial⟩⟩
noncomputable def zal:Nat->Orc Sx|0=>⟨λ_ _ _=>none,λ_ _ _ _ _ _ _ _=>none,λ_ _ _=>none,λ_ _ _ _ _=>none⟩|n+1=>ztu (tabN (zal n)) (tabE (zal n)) (tabL (zal n)) (tabP (zal n))
theorem zdR:∀n,SoundO Tryz.prog un (zal n)|0=>⟨λ_ _ _ _ h=>(by cases h),λ_ _ _ _ _ _ _ _ _ h=>(by cases h),λ_ _ _ _ h=>(by cases h),λ_ _ _ _ _ _ h=>(by cases h)⟩|n+1=>zot (zsu _ (zdR n)) (zsw _ (zdR n)) (zsv _ (zdR n)) (zst _ (zdR n))
end Pe.Tryz
end
section
set_option maxRecDepth 100000
namespace Pe.Tryz
open Go Go.Proofs Pe
theorem q7(n:Nat)(s:(List UInt8)): @Eq (Option (Int×Int×Unit)) ((zal (n+1)).d 7 [.str s] [(.int .i64),(.int .i64)]) (m7 (zal n) s):=by kernel_rfl
theorem q8(n:Nat)(s:(List UInt8)): @Eq (Option (Int×Int×Unit)) ((zal (n+1)).d 8 [.str s] [(.int .i64),(.int .i64)]) (m8 (zal n) s):=by kernel_rfl
theorem q9(n:Nat)(s:(List UInt8))(p:Gt.Purl): @Eq (Option (Bool×Int×Unit)) ((zal (n+1)).d 9 [.str s,.st 3 p] [.bool,(.int .i64)]) (m9 (zal n) s p):=by kernel_rfl
theorem q10(n:Nat)(s:(List UInt8))(x:Gt.Purl): @Eq (Option (Bool×Int×Unit)) ((zal (n+1)).d 10 [.str s,.st 3 x] [.bool,(.int .i64)]) (m10 (zal n) s x):=by kernel_rfl
theorem q11(n:Nat)  : @Eq (Option (Bool×Unit)) ((zal (n+1)).d 11 [] [.bool]) (m11 (zal n) ):=by kernel_rfl
theorem q16(n:Nat)(p:Gt.Purl): @Eq (Option (Int×Unit)) ((zal (n+1)).d 16 [.st 3 p] [(.int .i64)]) (m16 (zal n) p):=by kernel_rfl
theorem q17(n:Nat)(s:(List UInt8)): @Eq (Option (Gt.Pt_×Int×Int×Unit)) ((zal (n+1)).d 17 [.str s] [(.st 11),(.int .i64),(.int .i64)]) (m17 (zal n) s):=by kernel_rfl
theorem q18(n:Nat)(s:(List UInt8)): @Eq (Option (Gt.Rp_×Int×Int×Unit)) ((zal (n+1)).d 18 [.str s] [(.st 5),(.int .i64),(.int .i64)]) (m18 (zal n) s):=by kernel_rfl
theorem q19(n:Nat)(p:Gt.Purl): @Eq (Option (Gt.Purl×Unit)) ((zal (n+1)).d 19 [.st 3 p] [(.st 3)]) (m19 (zal n) p):=by kernel_rfl
theorem q20(n:Nat)(p:Gt.Pt_): @Eq (Option (List ((Gt.Sp_)×(Bool))×Unit)) ((zal (n+1)).d 20 [.st 11 p] [(.fm (.st 14) .bool)]) (m20 (zal n) p):=by kernel_rfl
theorem q21(n:Nat)(p:Gt.Purl): @Eq (Option (List (Int)×Unit)) ((zal (n+1)).d 21 [.st 3 p] [(.sl (.int .i64))]) (m21 (zal n) p):=by kernel_rfl
theorem q22(n:Nat)(p:Gt.Pt_)(l:(List (Gt.Sp_×Bool)))(sign:Int): @Eq (Option (List ((Gt.Sp_)×(Bool))×Unit)) ((zal (n+1)).d 22 [.st 11 p,.cont (.fm (.st 14) .bool) l,.int .i64 sign] [(.fm (.st 14) .bool)]) (m22 (zal n) p l sign):=by kernel_rfl
theorem q23(n:Nat)(p:Gt.Pt_)(x:Gt.Sp_): @Eq (Option (Bool×Unit)) ((zal (n+1)).d 23 [.st 11 p,.st 14 x] [.bool]) (m23 (zal n) p x):=by kernel_rfl
theorem q24(n:Nat)(p:Gt.Purl): @Eq (Option (Int×Unit)) ((zal (n+1)).d 24 [.st 3 p] [(.int .i64)]) (m24 (zal n) p):=by kernel_rfl
theorem q25(n:Nat)(p:Gt.Rp_)(x:Gt.Purl): @Eq (Option (Bool×Unit)) ((zal (n+1)).d 25 [.st 5 p,.st 3 x] [.bool]) (m25 (zal n) p x):=by kernel_rfl
theorem q26(n:Nat)(s:(List UInt8)): @Eq (Option (Gt.Purl×Int×Int×Unit)) ((zal (n+1)).d 26 [.str s] [(.st 3),(.int .i64),(.int .i64)]) (m26 (zal n) s):=by kernel_rfl
theorem q27(n:Nat)(p:Gt.Purl): @Eq (Option (List UInt8×Int×Unit)) ((zal (n+1)).d 27 [.st 3 p] [.str,(.int .i64)]) (m27 (zal n) p):=by kernel_rfl
theorem q29(n:Nat)  : @Eq (Option (Gt.A5_×Unit)) ((zal (n+1)).d 29 [] [(.st 0)]) (m29 (zal n) ):=by kernel_rfl
theorem q33(n:Nat)(kind:(List UInt8)): @Eq (Option (Gt.KindRule×Int×Unit)) ((zal (n+1)).d 33 [.str kind] [(.st 1),(.int .i64)]) (m33 (zal n) kind):=by kernel_rfl
theorem q40(n:Nat)  : @Eq (Option (List (List UInt8)×Unit)) ((zal (n+1)).d 40 [] [(.sl .str)]) (m40 (zal n) ):=by kernel_rfl
theorem q43(n:Nat)(kind:(List UInt8)): @Eq (Option (Gt.KindRule×Int×Unit)) ((zal (n+1)).d 43 [.str kind] [(.st 1),(.int .i64)]) (m43 (zal n) kind):=by kernel_rfl
theorem q44(n:Nat)(p:Gt.Purl): @Eq (Option (Bool×Unit)) ((zal (n+1)).d 44 [.st 3 p] [.bool]) (m44 (zal n) p):=by kernel_rfl
theorem q45(n:Nat)(l:(List (List UInt8)))(dots:Bool): @Eq (Option (Bool×Unit)) ((zal (n+1)).d 45 [.sl .str l,.bool dots] [.bool]) (m45 (zal n) l dots):=by kernel_rfl
theorem q46(n:Nat)(s:(List UInt8)): @Eq (Option (List (List UInt8)×Unit)) ((zal (n+1)).d 46 [.str s] [(.cs .str)]) (m46 (zal n) s):=by kernel_rfl
theorem q48(n:Nat)(l:(List Gt.Pair)): @Eq (Option (Int×Unit)) ((zal (n+1)).d 48 [.sl (.st 2) l] [(.int .i64)]) (m48 (zal n) l):=by kernel_rfl
theorem q49(n:Nat)(s:(List UInt8)): @Eq (Option (Bool×Unit)) ((zal (n+1)).d 49 [.str s] [.bool]) (m49 (zal n) s):=by kernel_rfl
theorem q50(n:Nat)(rc:Gt.Rd_×Unit): @Eq (Option (((Gt.Rd_×Unit)×(Gt.Pt_×Unit))⊕(Unit))) ((zal (n+1)).e 50 [.ptr 0 0] [98] [(.st 12)] rc [(.st 11)] [] 0) (m50 (zal n) rc):=by kernel_rfl
theorem q51(n:Nat)(kind:(List UInt8)): @Eq (Option (Int×Unit)) ((zal (n+1)).d 51 [.str kind] [(.int .i64)]) (m51 (zal n) kind):=by kernel_rfl
theorem q52(n:Nat)(rc:Gt.Rr_×Unit): @Eq (Option (((Gt.Rr_×Unit)×(List UInt8×Unit))⊕(Unit))) ((zal (n+1)).e 52 [.ptr 0 0] [102] [(.st 6)] rc [.str] [] 0) (m52 (zal n) rc):=by kernel_rfl
theorem q53(n:Nat)(rc:Gt.Rr_×Unit)(segment:Bool): @Eq (Option (((Gt.Rr_×Unit)×(List (Gt.Ra_)×Bool×Unit))⊕(Unit))) ((zal (n+1)).e 53 [.ptr 0 0,.bool segment] [102] [(.st 6)] rc [(.sl (.st 4)),.bool] [] 0) (m53 (zal n) rc segment):=by kernel_rfl
theorem q54(n:Nat)(rc:Gt.Rr_×Unit)(c:Int): @Eq (Option (((Gt.Rr_×Unit)×(Bool×Unit))⊕(Unit))) ((zal (n+1)).e 54 [.ptr 0 0,.int .u8 c] [102] [(.st 6)] rc [.bool] [] 0) (m54 (zal n) rc c):=by kernel_rfl
theorem q56(n:Nat)(kind:(List UInt8)): @Eq (Option (Int×Unit)) ((zal (n+1)).d 56 [.str kind] [(.int .i64)]) (m56 (zal n) kind):=by kernel_rfl
theorem q57(n:Nat)(s:(List UInt8)): @Eq (Option (List UInt8×Unit)) ((zal (n+1)).d 57 [.str s] [.str]) (m57 (zal n) s):=by kernel_rfl
theorem q58(n:Nat)(s:(List UInt8)): @Eq (Option (List UInt8×Unit)) ((zal (n+1)).d 58 [.str s] [.str]) (m58 (zal n) s):=by kernel_rfl
theorem q59(n:Nat)(p:Gt.Pt_)(l:(List (Gt.Sp_×Bool))): @Eq (Option (List ((Gt.Sp_)×(Bool))×Unit)) ((zal (n+1)).d 59 [.st 11 p,.cont (.fm (.st 14) .bool) l] [(.fm (.st 14) .bool)]) (m59 (zal n) p l):=by kernel_rfl
theorem q60(n:Nat)(p:Gt.Pt_)(x:Gt.Sp_)(sign:Int): @Eq (Option (Gt.Sp_×Bool×Unit)) ((zal (n+1)).d 60 [.st 11 p,.st 14 x,.int .i64 sign] [(.st 14),.bool]) (m60 (zal n) p x sign):=by kernel_rfl
theorem q61(n:Nat)(l:(List (List UInt8))): @Eq (Option (Bool×Unit)) ((zal (n+1)).d 61 [.sl .str l] [.bool]) (m61 (zal n) l):=by kernel_rfl
theorem q62(n:Nat)(s:(List UInt8))(dots:Bool): @Eq (Option (Bool×Unit)) ((zal (n+1)).d 62 [.str s,.bool dots] [.bool]) (m62 (zal n) s dots):=by kernel_rfl
theorem q64(n:Nat)(s:(List UInt8)): @Eq (Option (Bool×Unit)) ((zal (n+1)).d 64 [.str s] [.bool]) (m64 (zal n) s):=by kernel_rfl
theorem q65(n:Nat)(s:(List UInt8)): @Eq (Option (Bool×Unit)) ((zal (n+1)).d 65 [.str s] [.bool]) (m65 (zal n) s):=by kernel_rfl
theorem q66(n:Nat)(p:Gt.Purl): @Eq (Option (Gt.Purl×Unit)) ((zal (n+1)).d 66 [.st 3 p] [(.st 3)]) (m66 (zal n) p):=by kernel_rfl
theorem q67(n:Nat)(p:Gt.Rp_)(l:(List (List UInt8))): @Eq (Option (Bool×Unit)) ((zal (n+1)).d 67 [.st 5 p,.sl .str l] [.bool]) (m67 (zal n) p l):=by kernel_rfl
theorem q68(n:Nat)(s:(List UInt8)): @Eq (Option (List (List UInt8)×Unit)) ((zal (n+1)).d 68 [.str s] [(.sl .str)]) (m68 (zal n) s):=by kernel_rfl
theorem q69(n:Nat)(l:(List Gt.Ra_))(s:(List UInt8)): @Eq (Option (Bool×Unit)) ((zal (n+1)).d 69 [.sl (.st 4) l,.str s] [.bool]) (m69 (zal n) l s):=by kernel_rfl
theorem q70(n:Nat)(b0_0:List UInt8)(b0_1:Int)(b0_2:Int): @Eq (Option ((List UInt8×Int×Int×List UInt8×List UInt8×List UInt8×List UInt8×List (Gt.Pair)×List UInt8×Unit)⊕(Unit))) ((zal (n+1)).l 70 sg70 ((b0_0,b0_1,b0_2,()):List UInt8×Int×Int×Unit)) (m70 (zal n) b0_0 b0_1 b0_2):=by kernel_rfl
theorem q71(n:Nat)(l:List (Gt.Pair)): @Eq (Option (List (Gt.Pair))) ((zal (n+1)).p 71 (.st 2) 95 [.func (.func 72) [] []] l) (inl1 (m71 (zal n) l)):=(show _=opt1 (inl1 (m71 (zal n) l)) by kernel_rfl).trans (zsH _)
theorem q74(n:Nat)(p:Gt.Purl): @Eq (Option (List UInt8×Unit)) ((zal (n+1)).d 74 [.st 3 p] [.str]) (m74 (zal n) p):=by kernel_rfl
theorem q75(n:Nat)(s:(List UInt8)): @Eq (Option (List UInt8×Unit)) ((zal (n+1)).d 75 [.str s] [.str]) (m75 (zal n) s):=by kernel_rfl
theorem q76(n:Nat)(s:(List UInt8)): @Eq (Option (List UInt8×Unit)) ((zal (n+1)).d 76 [.str s] [.str]) (m76 (zal n) s):=by kernel_rfl
theorem q83(n:Nat)  : @Eq (Option (List (Gt.KindRule)×Unit)) ((zal (n+1)).d 83 [] [(.sl (.st 1))]) (m83 (zal n) ):=by kernel_rfl
theorem q102(n:Nat)(s:(List UInt8)): @Eq (Option (Bool×Unit)) ((zal (n+1)).d 102 [.str s] [.bool]) (m102 (zal n) s):=by kernel_rfl
theorem q103(n:Nat)(rc:Gt.Rd_×Unit)(star:Bool): @Eq (Option (((Gt.Rd_×Unit)×(List UInt8×Unit))⊕(Unit))) ((zal (n+1)).e 103 [.ptr 0 0,.bool star] [98] [(.st 12)] rc [.str] [] 0) (m103 (zal n) rc star):=by kernel_rfl
theorem q104(n:Nat)(rc:Gt.Rd_×Unit)(space:Bool): @Eq (Option (((Gt.Rd_×Unit)×(List (Gt.Nd_)×Bool×Unit))⊕(Unit))) ((zal (n+1)).e 104 [.ptr 0 0,.bool space] [98] [(.st 12)] rc [(.sl (.st 10)),.bool] [] 0) (m104 (zal n) rc space):=by kernel_rfl
theorem q106(n:Nat)(rc:Gt.Rd_×Unit)(at':Int): @Eq (Option (((Gt.Rd_×Unit)×(Unit))⊕(Unit))) ((zal (n+1)).e 106 [.ptr 0 0,.int .i64 at'] [98] [(.st 12)] rc [] [] 0) (m106 (zal n) rc at'):=by kernel_rfl
theorem q107(n:Nat)(rc:Gt.Rr_×Unit)(ok:Bool): @Eq (Option (((Gt.Rr_×Unit)×(Unit))⊕(Unit))) ((zal (n+1)).e 107 [.ptr 0 0,.bool ok] [102] [(.st 6)] rc [] [] 0) (m107 (zal n) rc ok):=by kernel_rfl
theorem q108(n:Nat)(s:(List UInt8)): @Eq (Option (List UInt8×Unit)) ((zal (n+1)).d 108 [.str s] [.str]) (m108 (zal n) s):=by kernel_rfl
theorem q109(n:Nat)(rc:Gt.Rr_×Unit): @Eq (Option (((Gt.Rr_×Unit)×(Int×Unit))⊕(Unit))) ((zal (n+1)).e 109 [.ptr 0 0] [102] [(.st 6)] rc [(.int .u8)] [] 0) (m109 (zal n) rc):=by kernel_rfl
theorem q110(n:Nat)(c:Int): @Eq (Option (Bool×Unit)) ((zal (n+1)).d 110 [.int .u8 c] [.bool]) (m110 (zal n) c):=by kernel_rfl
theorem q113(n:Nat)(l:(List (Gt.Sp_×Bool)))(x:Gt.Sp_): @Eq (Option (List ((Gt.Sp_)×(Bool))×Unit)) ((zal (n+1)).d 113 [.cont (.fm (.st 14) .bool) l,.st 14 x] [(.fm (.st 14) .bool)]) (m113 (zal n) l x):=by kernel_rfl
theorem q115(n:Nat)(s:(List UInt8)): @Eq (Option (List UInt8×Unit)) ((zal (n+1)).d 115 [.str s] [.str]) (m115 (zal n) s):=by kernel_rfl
theorem q116(n:Nat)(p:Gt.Rp_)(k:Int)(l:(List (List UInt8))): @Eq (Option (Bool×Unit)) ((zal (n+1)).d 116 [.st 5 p,.int .i64 k,.sl .str l] [.bool]) (m116 (zal n) p k l):=by kernel_rfl
theorem q117(n:Nat)(rc:Gt.Rd_×Unit): @Eq (Option (((Gt.Rd_×Unit)×(List (List UInt8)×Unit))⊕(Unit))) ((zal (n+1)).e 117 [.ptr 0 0] [98] [(.st 12)] rc [(.sl .str)] [] 0) (m117 (zal n) rc):=by kernel_rfl
theorem q119(n:Nat)(rc:Gt.Rd_×Unit): @Eq (Option (((Gt.Rd_×Unit)×(List UInt8×Unit))⊕(Unit))) ((zal (n+1)).e 119 [.ptr 0 0] [98] [(.st 12)] rc [.str] [] 0) (m119 (zal n) rc):=by kernel_rfl
theorem q120(n:Nat)(rc:Gt.Rd_×Unit): @Eq (Option (((Gt.Rd_×Unit)×(Gt.Pair×Unit))⊕(Unit))) ((zal (n+1)).e 120 [.ptr 0 0] [98] [(.st 12)] rc [(.st 2)] [] 0) (m120 (zal n) rc):=by kernel_rfl
theorem q121(nD:Nat)(b0_0:List (Gt.Pair))(n:Int): @Eq (Option ((List (Gt.Pair)×Unit)⊕(Unit))) ((zal (nD+1)).l 121 sg121 ((b0_0,n,()):List (Gt.Pair)×Int×Unit)) (m121 (zal nD) b0_0 n):=by kernel_rfl
theorem q123(n:Nat)(c:Int): @Eq (Option (Bool×Unit)) ((zal (n+1)).d 123 [.int .u8 c] [.bool]) (m123 (zal n) c):=by kernel_rfl
theorem q139(n:Nat)(c:Int)(first:Bool): @Eq (Option (Bool×Unit)) ((zal (n+1)).d 139 [.int .u8 c,.bool first] [.bool]) (m139 (zal n) c first):=by kernel_rfl
theorem q140(n:Nat)(rc:Gt.Rd_×Unit): @Eq (Option (((Gt.Rd_×Unit)×(Int×Bool×Unit))⊕(Unit))) ((zal (n+1)).e 140 [.ptr 0 0] [98] [(.st 12)] rc [(.int .u8),.bool] [] 0) (m140 (zal n) rc):=by kernel_rfl
theorem q141(n:Nat)(s:(List UInt8))(xprefix:(List UInt8)): @Eq (Option (Bool×Unit)) ((zal (n+1)).d 141 [.str s,.str xprefix] [.bool]) (m141 (zal n) s xprefix):=by kernel_rfl
theorem q142(n:Nat)(c:Int): @Eq (Option (Int×Unit)) ((zal (n+1)).d 142 [.int .u8 c] [(.int .i64)]) (m142 (zal n) c):=by kernel_rfl
theorem q146(n:Nat)(b0_0:List (Gt.Pair))(a:Int)(b:Int): @Eq (Option ((List (Gt.Pair)×Unit)⊕(Unit))) ((zal (n+1)).l 146 sg146 ((b0_0,a,b,()):List (Gt.Pair)×Int×Int×Unit)) (m146 (zal n) b0_0 a b):=by kernel_rfl
theorem q156(n:Nat)(c:Int): @Eq (Option (Int×Unit)) ((zal (n+1)).d 156 [.int .u8 c] [(.int .i64)]) (m156 (zal n) c):=by kernel_rfl
theorem q157(n:Nat)(s:(List UInt8))(xprefix:(List UInt8)): @Eq (Option (Bool×Unit)) ((zal (n+1)).d 157 [.str s,.str xprefix] [.bool]) (m157 (zal n) s xprefix):=by kernel_rfl
end Pe.Tryz
end
