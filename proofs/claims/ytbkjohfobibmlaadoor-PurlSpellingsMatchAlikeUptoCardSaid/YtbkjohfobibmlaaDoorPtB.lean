/- PROVED HERE: a part of the seat's proofs; see the text that holds the claim's theorem. -/
import Derived.Test.YtbkjohfobibmlaaDoorNm
import Derived.Test.YtbkjohfobibmlaaDoorPtD
import Derived.Test.YtbkjohfobibmlaaDoorPtA
section
/- What is known of functions that are not read: strings.Join, IndexByte, Contains and Split at one byte, SortStableFunc at no element. -/
set_option maxRecDepth 100000
namespace Pe.Tryd
open Go Go.Proofs Pe Go.RowKit
theorem zrw{nu:Nu}{D:Dat}{w:World}{s:List UInt8}{v:Value}(h:Rep (S:=Sx) un nu D w (.str s) v):v= .string ⟨s.toArray⟩:=by simpa only[Rep] using h
noncomputable def e27(_:Orc Sx):Entry Sx:=⟨[.str,.int .u8],[.int .i64],λt=>some (Lib.indexByte t.1 (UInt8.ofNat (Int.toNat t.2.1)),())⟩
theorem hok27(o:Orc Sx)(_:SoundO Tryd.prog un o):Entry.Ok Tryd.prog un 27 (e27 o):=by
 intro t r h D w vs _ hD ha;cases h
 match vs,ha with
 |[v,u],ha =>
   simp only[e27,zcA,RepL,inj,Rep] at ha;obtain ⟨rfl,rfl,_⟩:=ha;refine (Tryd.strings_IndexByte ⟨List.toArray t.1⟩ t.2.1 w).mono ?_
   rintro x w' ⟨rfl,rfl⟩
   exact ⟨_,rfl,Below.refl _ _,by simp only[e27,zcA,zf4,inj,Rep]⟩
 |[],ha=>simp[e27,zcA,RepL] at ha|[_],ha=>simp[e27,zcA,RepL] at ha|_::_::_::_,ha=>simp[e27,zcA,RepL] at ha
def has1(s:List UInt8):List UInt8->Option (Bool×Unit)|[c]=>some (decide (0<=Lib.indexByte s c),())|_=>none
theorem zoj{s sub:List UInt8}{r:Bool×Unit}(h:has1 s sub=some r):∃c,sub=[c]/\r=(decide (0<=Lib.indexByte s c),()):=by
 match sub,h with
 |[c],h=>exact ⟨c,rfl,(yAt h).symm⟩
noncomputable def e13(_:Orc Sx):Entry Sx:=⟨[.str,.str],[.bool],λt=>has1 t.1 t.2.1⟩
theorem hok13(o:Orc Sx)(_:SoundO Tryd.prog un o):Entry.Ok Tryd.prog un 13 (e13 o):=by
 intro t r h D w vs _ hD ha;obtain ⟨s,sub,t2⟩:=t;obtain ⟨c,h1,h2⟩:=zoj (show has1 s sub=some r from h)
 ·subst h1;subst h2
  match vs,ha with
  |[v,u],ha =>
    simp only[e13,zcA,RepL,inj,Rep] at ha;obtain ⟨rfl,rfl,_⟩:=ha;refine (Tryd.strings_Contains_one ⟨List.toArray s⟩ c w).mono ?_
    rintro x w' ⟨rfl,rfl⟩
    exact ⟨_,rfl,Below.refl _ _,by simp only[e13,zcA,zf4,inj,Rep]⟩
  |[],ha=>simp[e13,zcA,RepL] at ha|[_],ha=>simp[e13,zcA,RepL] at ha|_::_::_::_,ha=>simp[e13,zcA,RepL] at ha
def zbQ(c:UInt8)(s:List UInt8):List (List UInt8):=(Lib.splitB ⟨#[c]⟩ 0 (Lib.countB ⟨s.toArray⟩ ⟨#[c]⟩) ⟨s.toArray⟩).map (·.data.toList)
def zlK(s:List UInt8):List UInt8->Option (List (List UInt8)×Unit)|[c]=>bif Nat.ble s.length 4000000000 then some (zbQ c s,()) else none|_=>none
theorem zkX{s sub:List UInt8}{r:List (List UInt8)×Unit}(h:zlK s sub=some r):∃c,sub=[c]/\(bif Nat.ble s.length 4000000000 then some (zbQ c s,()) else none)=some r:=by
 match sub,h with
 |[c],h=>exact ⟨c,rfl,h⟩
noncomputable def e48(_:Orc Sx):Entry Sx:=⟨[.str,.str],[.cs .str],λt=>zlK t.1 t.2.1⟩
theorem hok48(o:Orc Sx)(_:SoundO Tryd.prog un o):Entry.Ok Tryd.prog un 48 (e48 o):=by
 intro t r h D w vs _ hD ha;obtain ⟨s,sub,t2⟩:=t;obtain ⟨c,h0,h⟩:=zkX (show zlK s sub=some r from h)
 ·subst h0;obtain ⟨h1,h2⟩:=zac h;cases h2;simp only[yAP] at h1
  match vs,ha with
  |[v,u],ha =>
    simp only[e48,zcA,RepL,inj,Rep] at ha;obtain ⟨rfl,rfl,_⟩:=ha;have hsz:(ByteArray.mk (List.toArray s)).size=List.length (α:=UInt8) s:=rfl;refine (Any.split_one Tryd.lays146 (by kernel_rfl) ⟨List.toArray s⟩ c w (by rw[hsz];omega)).mono ?_
    rintro x w' ⟨rfl,hw⟩
    have hb:Below w.heap.size w w':=(by rw[hw];exact (Below.refl _ _).alloc (yAj _) _);refine ⟨_,rfl,hb,?_⟩;simp only[e48,zcA,zf4,inj,Rep];have hlen:=Lib.splitB_all ⟨#[c]⟩ (yAj 1) 0 _ ⟨List.toArray s⟩ rfl;have hl2:(zbQ c s).length=Lib.countB ⟨List.toArray s⟩ ⟨#[c]⟩+1:=by unfold zbQ;rw[yCp];exact hlen
    have hcell:∀(i:Nat)(x:List UInt8),(zbQ c s)[i]?=some x->w'.cell? ⟨w.heap.size,i,none⟩=some (.string ⟨x.toArray⟩):=(by intro i x hi;unfold zbQ at hi;rw[yAg,yAX] at hi;obtain ⟨y,hy,rfl⟩:=hi;rw[hw];have:(w.alloc (.cells ((Lib.splitB ⟨#[c]⟩ 0 (Lib.countB ⟨List.toArray s⟩ ⟨#[c]⟩) ⟨List.toArray s⟩).map Value.string).toArray (Tryd.lays146_ren.t 9))).heap[w.heap.size]?=_:=heap_alloc_new w _;rw[cell_of_row _ _ _ _ _ _ this];simp[hy]);have key:DR (S:=Sx) un (zkb D w w') w' [.cs .str] (sg (u:= .cs .str) (zbQ c s)) [.slice (some ⟨w.heap.size,0,none⟩) (zbQ c s).length (zbQ c s).length]:=by
     refine .cs (t:=sg (u:= .cs .str) (zbQ c s)) w.heap.size 0 (λi=>[match (zbQ c s)[i]? with|some x=>.string ⟨x.toArray⟩|none=>undef]) (λi x hi=>?_) (λi x hi=>?_) .nil
     ·intro j v hj;have hx:(zbQ c s)[i]?=some x:=hi;cases j with
      |zero =>
        simp[hx] at hj;subst hj;refine ⟨.inr ⟨by simp,?_⟩,?_⟩;·rw[hw];simp
        ·simpa[U.size] using hcell i x hx
      |succ j=>simp at hj
     ·have hx:(zbQ c s)[i]?=some x:=hi;simp only[hx];exact .str .nil
    rw[hl2] at key;exact key
  |[],ha=>simp[e48,zcA,RepL] at ha|[_],ha=>simp[e48,zcA,RepL] at ha|_::_::_::_,ha=>simp[e48,zcA,RepL] at ha
theorem zqI{D:Dat}{w:World}{x:List UInt8}{cc:List Value}(h:DR (S:=Sx) un D w [.str] (sg (u:= .str) x) cc):cc=[.string ⟨x.toArray⟩]:=by
 cases h with
 |str h'=>cases h';rfl
theorem zmF{D:Dat}{w:World}{xs:List (List UInt8)}{v:Value}(hv:DR (S:=Sx) un D w [.sl .str] (sg (u:= .sl .str) xs) [v]) :
  (xs=[]/\∃A c,v= .slice A 0 c)\/(xs≠[]/\∃b off c,v= .slice (some ⟨b,off,none⟩) xs.length c/\xs.length<=c/\∀(j:Nat)(x:List UInt8),xs[j]?=some x->D b (off+j)/\w.cell? ⟨b,off+j,none⟩=some (.string ⟨x.toArray⟩)):=by
 cases hv with
 |sl0 A c h0 h=>exact .inl ⟨h0,A,c,rfl⟩|sl b off c cs hc k1 k2 h =>
   by_cases hx:xs=[];·subst hx;exact .inl ⟨rfl,some ⟨b,off,none⟩,c,rfl⟩
   ·refine .inr ⟨hx,b,off,c,rfl,hc,λj x hj=>?_⟩;have e1:=k1 j x hj;have e2:=zqI (k2 j x hj);rw[e2] at e1;simpa[U.size] using e1 0 _ rfl
theorem zoc{D:Dat}{w:World}(hD:∀k o,D k o->k<w.heap.size){xs:List (List UInt8)}{sep:List UInt8}{v:Value}(hv:DR (S:=Sx) un D w [.sl .str] (sg (u:= .sl .str) xs) [v])(h1:xs.length<=1000000)(h2:(Lib.join xs sep).length<=100000000) :
  Calls Tryd.prog 58 #[v,.string ⟨sep.toArray⟩] w λx w'=>x= .returned (.string ⟨(Lib.join xs sep).toArray⟩)/\Below w.heap.size w w':=by
 rcases zmF hv with ⟨rfl,A,c,rfl⟩|⟨hx,b,off,c,rfl,hc,hcell⟩
 ·refine (Tryd.strings_Join_none A c ⟨sep.toArray⟩ w).mono ?_
  rintro x w' ⟨rfl,rfl⟩
  exact ⟨rfl,Below.refl _ _⟩
 ·have hb:b<w.heap.size:=by
   obtain ⟨y,ys,rfl⟩:=List.exists_cons_of_ne_nil hx;exact hD _ _ (hcell 0 y rfl).1
  have hmap:(xs.map λx=>ByteArray.mk x.toArray).map (·.data.toList)=xs:=by rw[List.map_map];simp[Function.comp_def]
  have hlen:(xs.map λx=>ByteArray.mk x.toArray).length=xs.length:=by simp
  have:=Tryd.strings_Join b off c (xs.map λx=>ByteArray.mk x.toArray) ⟨sep.toArray⟩ w (λj x hj=>by
   rw[yAg] at hj;cases hxj:xs[j]? with
   |none=>rw[hxj] at hj;cases hj|some y=>rw[hxj] at hj;cases hj;exact (hcell j y hxj).2) hb (by rw[hlen];omega) (by rw[hlen];exact hc) (by rw[hmap];exact yAH h2 (by decide))
  rw[hmap,hlen] at this;exact this
noncomputable def e58(_:Orc Sx):Entry Sx:=⟨[.sl .str,.str],[.str],λt=>bif Nat.ble (List.length (α:=List UInt8) t.1) 1000000&&Nat.ble (Lib.join t.1 t.2.1).length 100000000 then some (Lib.join t.1 t.2.1,()) else none⟩
theorem hok58(o:Orc Sx)(_:SoundO Tryd.prog un o):Entry.Ok Tryd.prog un 58 (e58 o):=by
 intro t r h D w vs _ hD ha;obtain ⟨h1,h2⟩:=zac h;cases h2;simp only[yAd,yAP] at h1
 match vs,ha with
 |[v,u],ha =>
   simp only[e58,zcA,RepL,inj] at ha;have hu:=zrw ha.2.1;subst hu;have hv:=ha.1;simp only[Rep] at hv;refine (zoc hD hv h1.1 h1.2).mono ?_
   rintro x w' ⟨rfl,hb⟩
   exact ⟨_,rfl,hb,by simp only[e58,zcA,zf4,inj,Rep]⟩
 |[],ha=>simp[e58,zcA,RepL] at ha|[_],ha=>simp[e58,zcA,RepL] at ha|_::_::_::_,ha=>simp[e58,zcA,RepL] at ha
end Pe.Tryd
end
section
set_option maxRecDepth 100000
namespace Pe.Tryd
open Go Go.Proofs Pe
noncomputable def tabN(o:Orc Sx):Tr (Entry Sx):=(.node (.node (.node (.node (.node (.node .leaf 3 ⟨[.str,(.st 3)],[.bool],λt=>m3 o t.1 t.2.1⟩ .leaf) 4 ⟨[(.st 3)],[(.st 3),(.int .i64)],λt=>m4 o t.1⟩ (.node .leaf 5 ⟨[(.st 3)],[(.int .i64)],λt=>m5 o t.1⟩ .leaf)) 6 ⟨[],[.bool],λ_=>m6 o ⟩ (.node (.node .leaf 7 ⟨[.str,(.st 3)],[.bool,(.int .i64)],λt=>m7 o t.1 t.2.1⟩ .leaf) 8 ⟨[(.st 3)],[(.int .i64)],λt=>m8 o t.1⟩ .leaf)) 9 ⟨[(.st 3)],[(.st 3)],λt=>m9 o t.1⟩ (.node (.node (.node .leaf 10 ⟨[.str],[(.st 1),(.int .i64)],λt=>m10 o t.1⟩ .leaf) 11 ⟨[(.sl .str)],[.bool],λt=>m11 o t.1⟩ (.node .leaf 12 ⟨[.str,.bool],[.bool],λt=>m12 o t.1 t.2.1⟩ .leaf)) 13 (e13 o) (.node (.node .leaf 14 ⟨[.str],[.bool],λt=>m14 o t.1⟩ .leaf) 15 ⟨[.str],[.bool],λt=>m15 o t.1⟩ .leaf))) 16 ⟨[.str],[(.st 3),(.int .i64),(.int .i64)],λt=>m16 o t.1⟩ (.node (.node (.node (.node .leaf 17 ⟨[(.st 3)],[.str,(.int .i64)],λt=>m17 o t.1⟩ .leaf) 18 ⟨[.str],[(.st 5),(.int .i64),(.int .i64)],λt=>m18 o t.1⟩ (.node .leaf 19 ⟨[(.st 5)],[(.fm (.st 7) .bool)],λt=>m19 o t.1⟩ .leaf)) 20 ⟨[(.st 3)],[(.sl (.int .i64))],λt=>m20 o t.1⟩ (.node (.node .leaf 21 ⟨[(.st 5),(.fm (.st 7) .bool),(.int .i64)],[(.fm (.st 7) .bool)],λt=>m21 o t.1 t.2.1 t.2.2.1⟩ .leaf) 22 ⟨[(.st 5),(.st 7)],[.bool],λt=>m22 o t.1 t.2.1⟩ .leaf)) 23 ⟨[.str],[(.st 1),(.int .i64)],λt=>m23 o t.1⟩ (.node (.node (.node .leaf 24 ⟨[(.st 3)],[.bool],λt=>m24 o t.1⟩ .leaf) 25 ⟨[(.sl .str),.bool],[.bool],λt=>m25 o t.1 t.2.1⟩ .leaf) 26 ⟨[.str],[(.cs .str)],λt=>m26 o t.1⟩ (.node (.node .leaf 27 (e27 o) .leaf) 28 ⟨[(.sl (.st 2))],[(.int .i64)],λt=>m28 o t.1⟩ .leaf)))) 29 ⟨[.str],[.bool],λt=>m29 o t.1⟩ (.node (.node (.node (.node (.node .leaf 30 ⟨[.str],[.str],λt=>m30 o t.1⟩ .leaf) 31 ⟨[.str],[.str],λt=>m31 o t.1⟩ (.node .leaf 32 ⟨[.str],[(.int .i64)],λt=>m32 o t.1⟩ .leaf)) 33 ⟨[],[(.sl (.st 1))],λ_=>m33 o ⟩ (.node (.node .leaf 34 ⟨[.str],[(.sl .str)],λt=>m34 o t.1⟩ .leaf) 38 ⟨[(.st 2),(.st 2)],[(.int .i64)],λt=>m38 o t.1 t.2.1⟩ .leaf)) 39 ⟨[.str,.str],[(.int .i64)],λt=>m39 o t.1 t.2.1⟩ (.node (.node (.node .leaf 40 ⟨[(.st 3)],[.str],λt=>m40 o t.1⟩ .leaf) 41 ⟨[.str],[.str],λt=>m41 o t.1⟩ (.node .leaf 42 ⟨[.str],[.str],λt=>m42 o t.1⟩ .leaf)) 44 ⟨[.str],[(.int .i64)],λt=>m44 o t.1⟩ (.node (.node .leaf 45 ⟨[(.st 5),(.fm (.st 7) .bool)],[(.fm (.st 7) .bool)],λt=>m45 o t.1 t.2.1⟩ .leaf) 46 ⟨[(.st 5),(.st 7),(.int .i64)],[(.st 7),.bool],λt=>m46 o t.1 t.2.1 t.2.2.1⟩ .leaf))) 47 ⟨[],[(.st 0)],λ_=>m47 o ⟩ (.node (.node (.node (.node .leaf 48 (e48 o) .leaf) 50 ⟨[.str],[.bool],λt=>m50 o t.1⟩ (.node .leaf 51 ⟨[(.int .u8)],[.bool],λt=>m51 o t.1⟩ .leaf)) 54 ⟨[],[(.sl .str)],λ_=>m54 o ⟩ (.node (.node .leaf 58 (e58 o) .leaf) 64 ⟨[.str],[.bool],λt=>m64 o t.1⟩ .leaf)) 65 ⟨[(.int .u8)],[.bool],λt=>m65 o t.1⟩ (.node (.node (.node .leaf 68 ⟨[(.fm (.st 7) .bool),(.st 7)],[(.fm (.st 7) .bool)],λt=>m68 o t.1 t.2.1⟩ .leaf) 71 ⟨[(.int .u8),.bool],[.bool],λt=>m71 o t.1 t.2.1⟩ .leaf) 80 ⟨[.str,.str],[.bool],λt=>m80 o t.1 t.2.1⟩ (.node (.node .leaf 86 ⟨[(.int .u8)],[(.int .i64)],λt=>m86 o t.1⟩ .leaf) 88 ⟨[.str,.str],[.bool],λt=>m88 o t.1 t.2.1⟩ .leaf)))))
noncomputable def tabE(o:Orc Sx):Tr (EntryE Sx):=(.node (.node (.node (.node .leaf 43 ⟨1,[],[74],[(.st 6)],[(.st 5)],[],0,λc _=>m43 o c ⟩ .leaf) 56 ⟨1,[.bool],[74],[(.st 6)],[.str],[],0,λc t=>m56 o c t.1⟩ .leaf) 57 ⟨1,[],[74],[(.st 6)],[(.sl .str)],[],0,λc _=>m57 o c ⟩ (.node .leaf 60 ⟨1,[],[74],[(.st 6)],[.str],[],0,λc _=>m60 o c ⟩ .leaf)) 61 ⟨1,[],[74],[(.st 6)],[(.st 2)],[],0,λc _=>m61 o c ⟩ (.node (.node .leaf 62 ⟨1,[(.int .i64)],[74],[(.st 6)],[],[],0,λc t=>m62 o c t.1⟩ .leaf) 67 ⟨1,[.bool],[74],[(.st 6)],[(.sl (.st 4)),.bool],[],0,λc t=>m67 o c t.1⟩ (.node .leaf 77 ⟨1,[],[74],[(.st 6)],[(.int .u8),.bool],[],0,λc _=>m77 o c ⟩ .leaf)))
noncomputable def tabL(o:Orc Sx):Tr (EntryL Sx):=(.node (.node (.node .leaf 36 ⟨sg36,λt=>m36 o t.1 t.2.1 t.2.2.1⟩ .leaf) 63 ⟨sg63,λt=>m63 o t.1 t.2.1⟩ (.node .leaf 78 ⟨sg78,λt=>m78 o t.1 t.2.1 t.2.2.1⟩ .leaf)) 79 ⟨sg79,λt=>m79 o t.1 t.2.1 t.2.2.1 t.2.2.2.1⟩ (.node (.node .leaf 87 ⟨sg87,λt=>m87 o t.1 t.2.1 t.2.2.1 t.2.2.2.1⟩ .leaf) 93 ⟨sg93,λt=>m93 o t.1 t.2.1 t.2.2.1 t.2.2.2.1⟩ .leaf))
theorem zqs(o:Orc Sx)(h:SoundO Tryd.prog un o):(tabN o).All (Entry.Ok Tryd.prog un):=⟨⟨⟨⟨⟨⟨trivial,ok3 o h,trivial⟩,ok4 o h,⟨trivial,ok5 o h,trivial⟩⟩,ok6 o h,⟨⟨trivial,ok7 o h,trivial⟩,ok8 o h,trivial⟩⟩,ok9 o h,⟨⟨⟨trivial,ok10 o h,trivial⟩,ok11 o h,⟨trivial,ok12 o h,trivial⟩⟩,hok13 o h,⟨⟨trivial,ok14 o h,trivial⟩,ok15 o h,trivial⟩⟩⟩,ok16 o h,⟨⟨⟨⟨trivial,ok17 o h,trivial⟩,ok18 o h,⟨trivial,ok19 o h,trivial⟩⟩,ok20 o h,⟨⟨trivial,ok21 o h,trivial⟩,ok22 o h,trivial⟩⟩,ok23 o h,⟨⟨⟨trivial,ok24 o h,trivial⟩,ok25 o h,trivial⟩,ok26 o h,⟨⟨trivial,hok27 o h,trivial⟩,ok28 o h,trivial⟩⟩⟩⟩,ok29 o h,⟨⟨⟨⟨⟨trivial,ok30 o h,trivial⟩,ok31 o h,⟨trivial,ok32 o h,trivial⟩⟩,ok33 o h,⟨⟨trivial,ok34 o h,trivial⟩,ok38 o h,trivial⟩⟩,ok39 o h,⟨⟨⟨trivial,ok40 o h,trivial⟩,ok41 o h,⟨trivial,ok42 o h,trivial⟩⟩,ok44 o h,⟨⟨trivial,ok45 o h,trivial⟩,ok46 o h,trivial⟩⟩⟩,ok47 o h,⟨⟨⟨⟨trivial,hok48 o h,trivial⟩,ok50 o h,⟨trivial,ok51 o h,trivial⟩⟩,ok54 o h,⟨⟨trivial,hok58 o h,trivial⟩,ok64 o h,trivial⟩⟩,ok65 o h,⟨⟨⟨trivial,ok68 o h,trivial⟩,ok71 o h,trivial⟩,ok80 o h,⟨⟨trivial,ok86 o h,trivial⟩,ok88 o h,trivial⟩⟩⟩⟩⟩
theorem zqu(o:Orc Sx)(h:SoundO Tryd.prog un o):(tabE o).All (EntryE.Ok Tryd.prog un):=⟨⟨⟨⟨trivial,ok43 o h,trivial⟩,ok56 o h,trivial⟩,ok57 o h,⟨trivial,ok60 o h,trivial⟩⟩,ok61 o h,⟨⟨trivial,ok62 o h,trivial⟩,ok67 o h,⟨trivial,ok77 o h,trivial⟩⟩⟩
noncomputable def tabP(o:Orc Sx):Tr (List (EntryP Sx)):=(.node .leaf 37 [e37 o] .leaf)
theorem zqr(o:Orc Sx)(h:SoundO Tryd.prog un o):(tabP o).All (EntryPs.Ok Tryd.prog un):=⟨trivial,λe he=>(show e=e37 o from yBf.1 he)▸hok37 o h,trivial⟩
theorem zqt(o:Orc Sx)(h:SoundO Tryd.prog un o):(tabL o).All (EntryL.Ok Tryd.prog un):=⟨⟨⟨trivial,ok36 o h,trivial⟩,ok63 o h,⟨trivial,ok78 o h,trivial⟩⟩,ok79 o h,⟨⟨trivial,ok87 o h,trivial⟩,ok93 o h,trivial⟩⟩
noncomputable def zam:Nat->Orc Sx|0=>⟨λ_ _ _=>none,λ_ _ _ _ _ _ _ _=>none,λ_ _ _=>none,λ_ _ _ _ _=>none⟩|n+1=>zrf (tabN (zam n)) (tabE (zam n)) (tabL (zam n)) (tabP (zam n))
theorem zdm:∀n,SoundO Tryd.prog un (zam n)|0=>⟨λ_ _ _ _ h=>(by cases h),λ_ _ _ _ _ _ _ _ _ h=>(by cases h),λ_ _ _ _ h=>(by cases h),λ_ _ _ _ _ _ h=>(by cases h)⟩|n+1=>zmZ (zqs _ (zdm n)) (zqu _ (zdm n)) (zqt _ (zdm n)) (zqr _ (zdm n))
end Pe.Tryd
end
section
set_option maxRecDepth 100000
namespace Pe.Tryd
open Go Go.Proofs Pe
theorem q4(n:Nat)(p:Gt.Purl): @Eq (Option (Gt.Purl×Int×Unit)) ((zam (n+1)).d 4 [.st 3 p] [(.st 3),(.int .i64)]) (m4 (zam n) p):=by kernel_rfl
theorem q5(n:Nat)(p:Gt.Purl): @Eq (Option (Int×Unit)) ((zam (n+1)).d 5 [.st 3 p] [(.int .i64)]) (m5 (zam n) p):=by kernel_rfl
theorem q6(n:Nat)  : @Eq (Option (Bool×Unit)) ((zam (n+1)).d 6 [] [.bool]) (m6 (zam n) ):=by kernel_rfl
theorem q7(n:Nat)(s:(List UInt8))(p:Gt.Purl): @Eq (Option (Bool×Int×Unit)) ((zam (n+1)).d 7 [.str s,.st 3 p] [.bool,(.int .i64)]) (m7 (zam n) s p):=by kernel_rfl
theorem q8(n:Nat)(p:Gt.Purl): @Eq (Option (Int×Unit)) ((zam (n+1)).d 8 [.st 3 p] [(.int .i64)]) (m8 (zam n) p):=by kernel_rfl
theorem q9(n:Nat)(p:Gt.Purl): @Eq (Option (Gt.Purl×Unit)) ((zam (n+1)).d 9 [.st 3 p] [(.st 3)]) (m9 (zam n) p):=by kernel_rfl
theorem q10(n:Nat)(kind:(List UInt8)): @Eq (Option (Gt.KindRule×Int×Unit)) ((zam (n+1)).d 10 [.str kind] [(.st 1),(.int .i64)]) (m10 (zam n) kind):=by kernel_rfl
theorem q11(n:Nat)(l:(List (List UInt8))): @Eq (Option (Bool×Unit)) ((zam (n+1)).d 11 [.sl .str l] [.bool]) (m11 (zam n) l):=by kernel_rfl
theorem q12(n:Nat)(s:(List UInt8))(dots:Bool): @Eq (Option (Bool×Unit)) ((zam (n+1)).d 12 [.str s,.bool dots] [.bool]) (m12 (zam n) s dots):=by kernel_rfl
theorem q14(n:Nat)(s:(List UInt8)): @Eq (Option (Bool×Unit)) ((zam (n+1)).d 14 [.str s] [.bool]) (m14 (zam n) s):=by kernel_rfl
theorem q15(n:Nat)(s:(List UInt8)): @Eq (Option (Bool×Unit)) ((zam (n+1)).d 15 [.str s] [.bool]) (m15 (zam n) s):=by kernel_rfl
theorem q16(n:Nat)(s:(List UInt8)): @Eq (Option (Gt.Purl×Int×Int×Unit)) ((zam (n+1)).d 16 [.str s] [(.st 3),(.int .i64),(.int .i64)]) (m16 (zam n) s):=by kernel_rfl
theorem q17(n:Nat)(p:Gt.Purl): @Eq (Option (List UInt8×Int×Unit)) ((zam (n+1)).d 17 [.st 3 p] [.str,(.int .i64)]) (m17 (zam n) p):=by kernel_rfl
theorem q18(n:Nat)(s:(List UInt8)): @Eq (Option (Gt.Pt_×Int×Int×Unit)) ((zam (n+1)).d 18 [.str s] [(.st 5),(.int .i64),(.int .i64)]) (m18 (zam n) s):=by kernel_rfl
theorem q19(n:Nat)(p:Gt.Pt_): @Eq (Option (List ((Gt.Sp_)×(Bool))×Unit)) ((zam (n+1)).d 19 [.st 5 p] [(.fm (.st 7) .bool)]) (m19 (zam n) p):=by kernel_rfl
theorem q20(n:Nat)(p:Gt.Purl): @Eq (Option (List (Int)×Unit)) ((zam (n+1)).d 20 [.st 3 p] [(.sl (.int .i64))]) (m20 (zam n) p):=by kernel_rfl
theorem q21(n:Nat)(p:Gt.Pt_)(l:(List (Gt.Sp_×Bool)))(sign:Int): @Eq (Option (List ((Gt.Sp_)×(Bool))×Unit)) ((zam (n+1)).d 21 [.st 5 p,.cont (.fm (.st 7) .bool) l,.int .i64 sign] [(.fm (.st 7) .bool)]) (m21 (zam n) p l sign):=by kernel_rfl
theorem q22(n:Nat)(p:Gt.Pt_)(x:Gt.Sp_): @Eq (Option (Bool×Unit)) ((zam (n+1)).d 22 [.st 5 p,.st 7 x] [.bool]) (m22 (zam n) p x):=by kernel_rfl
theorem q23(n:Nat)(kind:(List UInt8)): @Eq (Option (Gt.KindRule×Int×Unit)) ((zam (n+1)).d 23 [.str kind] [(.st 1),(.int .i64)]) (m23 (zam n) kind):=by kernel_rfl
theorem q24(n:Nat)(p:Gt.Purl): @Eq (Option (Bool×Unit)) ((zam (n+1)).d 24 [.st 3 p] [.bool]) (m24 (zam n) p):=by kernel_rfl
theorem q25(n:Nat)(l:(List (List UInt8)))(dots:Bool): @Eq (Option (Bool×Unit)) ((zam (n+1)).d 25 [.sl .str l,.bool dots] [.bool]) (m25 (zam n) l dots):=by kernel_rfl
theorem q26(n:Nat)(s:(List UInt8)): @Eq (Option (List (List UInt8)×Unit)) ((zam (n+1)).d 26 [.str s] [(.cs .str)]) (m26 (zam n) s):=by kernel_rfl
theorem q28(n:Nat)(l:(List Gt.Pair)): @Eq (Option (Int×Unit)) ((zam (n+1)).d 28 [.sl (.st 2) l] [(.int .i64)]) (m28 (zam n) l):=by kernel_rfl
theorem q29(n:Nat)(s:(List UInt8)): @Eq (Option (Bool×Unit)) ((zam (n+1)).d 29 [.str s] [.bool]) (m29 (zam n) s):=by kernel_rfl
theorem q30(n:Nat)(s:(List UInt8)): @Eq (Option (List UInt8×Unit)) ((zam (n+1)).d 30 [.str s] [.str]) (m30 (zam n) s):=by kernel_rfl
theorem q31(n:Nat)(s:(List UInt8)): @Eq (Option (List UInt8×Unit)) ((zam (n+1)).d 31 [.str s] [.str]) (m31 (zam n) s):=by kernel_rfl
theorem q32(n:Nat)(kind:(List UInt8)): @Eq (Option (Int×Unit)) ((zam (n+1)).d 32 [.str kind] [(.int .i64)]) (m32 (zam n) kind):=by kernel_rfl
theorem q33(n:Nat)  : @Eq (Option (List (Gt.KindRule)×Unit)) ((zam (n+1)).d 33 [] [(.sl (.st 1))]) (m33 (zam n) ):=by kernel_rfl
theorem q34(n:Nat)(s:(List UInt8)): @Eq (Option (List (List UInt8)×Unit)) ((zam (n+1)).d 34 [.str s] [(.sl .str)]) (m34 (zam n) s):=by kernel_rfl
theorem q36(n:Nat)(b0_0:List UInt8)(b0_1:Int)(b0_2:Int): @Eq (Option ((List UInt8×Int×Int×List UInt8×List UInt8×List UInt8×List UInt8×List (Gt.Pair)×List UInt8×Unit)⊕(Unit))) ((zam (n+1)).l 36 sg36 ((b0_0,b0_1,b0_2,()):List UInt8×Int×Int×Unit)) (m36 (zam n) b0_0 b0_1 b0_2):=by kernel_rfl
theorem q37(n:Nat)(l:List (Gt.Pair)): @Eq (Option (List (Gt.Pair))) ((zam (n+1)).p 37 (.st 2) 40 [.func (.func 38) [] []] l) (inl1 (m37 (zam n) l)):=(show _=opt1 (inl1 (m37 (zam n) l)) by kernel_rfl).trans (zqH _)
theorem q40(n:Nat)(p:Gt.Purl): @Eq (Option (List UInt8×Unit)) ((zam (n+1)).d 40 [.st 3 p] [.str]) (m40 (zam n) p):=by kernel_rfl
theorem q41(n:Nat)(s:(List UInt8)): @Eq (Option (List UInt8×Unit)) ((zam (n+1)).d 41 [.str s] [.str]) (m41 (zam n) s):=by kernel_rfl
theorem q42(n:Nat)(s:(List UInt8)): @Eq (Option (List UInt8×Unit)) ((zam (n+1)).d 42 [.str s] [.str]) (m42 (zam n) s):=by kernel_rfl
theorem q43(n:Nat)(rc:Gt.Rd_×Unit): @Eq (Option (((Gt.Rd_×Unit)×(Gt.Pt_×Unit))⊕(Unit))) ((zam (n+1)).e 43 [.ptr 0 0] [74] [(.st 6)] rc [(.st 5)] [] 0) (m43 (zam n) rc):=by kernel_rfl
theorem q44(n:Nat)(kind:(List UInt8)): @Eq (Option (Int×Unit)) ((zam (n+1)).d 44 [.str kind] [(.int .i64)]) (m44 (zam n) kind):=by kernel_rfl
theorem q45(n:Nat)(p:Gt.Pt_)(l:(List (Gt.Sp_×Bool))): @Eq (Option (List ((Gt.Sp_)×(Bool))×Unit)) ((zam (n+1)).d 45 [.st 5 p,.cont (.fm (.st 7) .bool) l] [(.fm (.st 7) .bool)]) (m45 (zam n) p l):=by kernel_rfl
theorem q46(n:Nat)(p:Gt.Pt_)(x:Gt.Sp_)(sign:Int): @Eq (Option (Gt.Sp_×Bool×Unit)) ((zam (n+1)).d 46 [.st 5 p,.st 7 x,.int .i64 sign] [(.st 7),.bool]) (m46 (zam n) p x sign):=by kernel_rfl
theorem q47(n:Nat)  : @Eq (Option (Gt.A5_×Unit)) ((zam (n+1)).d 47 [] [(.st 0)]) (m47 (zam n) ):=by kernel_rfl
theorem q50(n:Nat)(s:(List UInt8)): @Eq (Option (Bool×Unit)) ((zam (n+1)).d 50 [.str s] [.bool]) (m50 (zam n) s):=by kernel_rfl
theorem q51(n:Nat)(c:Int): @Eq (Option (Bool×Unit)) ((zam (n+1)).d 51 [.int .u8 c] [.bool]) (m51 (zam n) c):=by kernel_rfl
theorem q54(n:Nat)  : @Eq (Option (List (List UInt8)×Unit)) ((zam (n+1)).d 54 [] [(.sl .str)]) (m54 (zam n) ):=by kernel_rfl
theorem q56(n:Nat)(rc:Gt.Rd_×Unit)(star:Bool): @Eq (Option (((Gt.Rd_×Unit)×(List UInt8×Unit))⊕(Unit))) ((zam (n+1)).e 56 [.ptr 0 0,.bool star] [74] [(.st 6)] rc [.str] [] 0) (m56 (zam n) rc star):=by kernel_rfl
theorem q57(n:Nat)(rc:Gt.Rd_×Unit): @Eq (Option (((Gt.Rd_×Unit)×(List (List UInt8)×Unit))⊕(Unit))) ((zam (n+1)).e 57 [.ptr 0 0] [74] [(.st 6)] rc [(.sl .str)] [] 0) (m57 (zam n) rc):=by kernel_rfl
theorem q60(n:Nat)(rc:Gt.Rd_×Unit): @Eq (Option (((Gt.Rd_×Unit)×(List UInt8×Unit))⊕(Unit))) ((zam (n+1)).e 60 [.ptr 0 0] [74] [(.st 6)] rc [.str] [] 0) (m60 (zam n) rc):=by kernel_rfl
theorem q61(n:Nat)(rc:Gt.Rd_×Unit): @Eq (Option (((Gt.Rd_×Unit)×(Gt.Pair×Unit))⊕(Unit))) ((zam (n+1)).e 61 [.ptr 0 0] [74] [(.st 6)] rc [(.st 2)] [] 0) (m61 (zam n) rc):=by kernel_rfl
theorem q62(n:Nat)(rc:Gt.Rd_×Unit)(at':Int): @Eq (Option (((Gt.Rd_×Unit)×(Unit))⊕(Unit))) ((zam (n+1)).e 62 [.ptr 0 0,.int .i64 at'] [74] [(.st 6)] rc [] [] 0) (m62 (zam n) rc at'):=by kernel_rfl
theorem q63(nD:Nat)(b0_0:List (Gt.Pair))(n:Int): @Eq (Option ((List (Gt.Pair)×Unit)⊕(Unit))) ((zam (nD+1)).l 63 sg63 ((b0_0,n,()):List (Gt.Pair)×Int×Unit)) (m63 (zam nD) b0_0 n):=by kernel_rfl
theorem q65(n:Nat)(c:Int): @Eq (Option (Bool×Unit)) ((zam (n+1)).d 65 [.int .u8 c] [.bool]) (m65 (zam n) c):=by kernel_rfl
theorem q67(n:Nat)(rc:Gt.Rd_×Unit)(space:Bool): @Eq (Option (((Gt.Rd_×Unit)×(List (Gt.Nd_)×Bool×Unit))⊕(Unit))) ((zam (n+1)).e 67 [.ptr 0 0,.bool space] [74] [(.st 6)] rc [(.sl (.st 4)),.bool] [] 0) (m67 (zam n) rc space):=by kernel_rfl
theorem q68(n:Nat)(l:(List (Gt.Sp_×Bool)))(x:Gt.Sp_): @Eq (Option (List ((Gt.Sp_)×(Bool))×Unit)) ((zam (n+1)).d 68 [.cont (.fm (.st 7) .bool) l,.st 7 x] [(.fm (.st 7) .bool)]) (m68 (zam n) l x):=by kernel_rfl
theorem q71(n:Nat)(c:Int)(first:Bool): @Eq (Option (Bool×Unit)) ((zam (n+1)).d 71 [.int .u8 c,.bool first] [.bool]) (m71 (zam n) c first):=by kernel_rfl
theorem q77(n:Nat)(rc:Gt.Rd_×Unit): @Eq (Option (((Gt.Rd_×Unit)×(Int×Bool×Unit))⊕(Unit))) ((zam (n+1)).e 77 [.ptr 0 0] [74] [(.st 6)] rc [(.int .u8),.bool] [] 0) (m77 (zam n) rc):=by kernel_rfl
theorem q78(n:Nat)(b0_0:List (Gt.Pair))(a:Int)(b:Int): @Eq (Option ((List (Gt.Pair)×Unit)⊕(Unit))) ((zam (n+1)).l 78 sg78 ((b0_0,a,b,()):List (Gt.Pair)×Int×Int×Unit)) (m78 (zam n) b0_0 a b):=by kernel_rfl
theorem q80(n:Nat)(s:(List UInt8))(pfx':(List UInt8)): @Eq (Option (Bool×Unit)) ((zam (n+1)).d 80 [.str s,.str pfx'] [.bool]) (m80 (zam n) s pfx'):=by kernel_rfl
theorem q86(n:Nat)(c:Int): @Eq (Option (Int×Unit)) ((zam (n+1)).d 86 [.int .u8 c] [(.int .i64)]) (m86 (zam n) c):=by kernel_rfl
theorem q88(n:Nat)(s:(List UInt8))(pfx':(List UInt8)): @Eq (Option (Bool×Unit)) ((zam (n+1)).d 88 [.str s,.str pfx'] [.bool]) (m88 (zam n) s pfx'):=by kernel_rfl
end Pe.Tryd
end
