/- PROVED HERE: a part of the seat's proofs; see the text that holds the claim's theorem. -/
import Derived.Test.YtiapbmjlocfhgaaDoorNm
import Derived.Test.YtiapbmjlocfhgaaDoorPtD
import Derived.Test.YtiapbmjlocfhgaaDoorPtA
import Derived.Test.YtiapbmjlocfhgaaDoorDgHex
section
/- What is known of functions that are not read: strings.Join, IndexByte, Contains and Split at one byte, SortStableFunc at no element. -/
set_option maxRecDepth 100000
namespace Pe.Tryd
open Go Go.Proofs Pe Go.RowKit
theorem ztP{nu:Nu}{D:Dat}{w:World}{s:List UInt8}{v:Value}(h:Rep (S:=Sx) un nu D w (.str s) v):v= .string ⟨s.toArray⟩:=by simpa only[Rep] using h
noncomputable def e56(_:Orc Sx):Entry Sx:=⟨[.str,.int .u8],[.int .i64],λt=>some (Lib.indexByte t.1 (UInt8.ofNat (Int.toNat t.2.1)),())⟩
theorem hok56(o:Orc Sx)(_:SoundO Tryd.prog un o):Entry.Ok Tryd.prog un 56 (e56 o):=by
 intro t r h D w vs _ hD ha;cases h
 match vs,ha with
 |[v,u],ha =>
   simp only[e56,zcN,RepL,inj,Rep] at ha;obtain ⟨rfl,rfl,_⟩:=ha;refine (Tryd.strings_IndexByte ⟨List.toArray t.1⟩ t.2.1 w).mono ?_
   rintro x w' ⟨rfl,rfl⟩
   exact ⟨_,rfl,Below.refl _ _,by simp only[e56,zcN,zgY,inj,Rep]⟩
 |[],ha=>simp[e56,zcN,RepL] at ha|[_],ha=>simp[e56,zcN,RepL] at ha|_::_::_::_,ha=>simp[e56,zcN,RepL] at ha
def zb2(c:UInt8)(s:List UInt8):List (List UInt8):=(Lib.splitB ⟨#[c]⟩ 0 (Lib.countB ⟨s.toArray⟩ ⟨#[c]⟩) ⟨s.toArray⟩).map (·.data.toList)
def zm3(s:List UInt8):List UInt8->Option (List (List UInt8)×Unit)|[c]=>bif Nat.ble s.length 4000000000 then some (zb2 c s,()) else none|_=>none
theorem zmg{s sub:List UInt8}{r:List (List UInt8)×Unit}(h:zm3 s sub=some r):∃c,sub=[c]/\(bif Nat.ble s.length 4000000000 then some (zb2 c s,()) else none)=some r:=by
 match sub,h with
 |[c],h=>exact ⟨c,rfl,h⟩
noncomputable def e76(_:Orc Sx):Entry Sx:=⟨[.str,.str],[.cs .str],λt=>zm3 t.1 t.2.1⟩
theorem hok76(o:Orc Sx)(_:SoundO Tryd.prog un o):Entry.Ok Tryd.prog un 76 (e76 o):=by
 intro t r h D w vs _ hD ha;obtain ⟨s,sub,t2⟩:=t;obtain ⟨c,h0,h⟩:=zmg (show zm3 s sub=some r from h)
 ·subst h0;obtain ⟨h1,h2⟩:=zae h;cases h2;simp only[yAX] at h1
  match vs,ha with
  |[v,u],ha =>
    simp only[e76,zcN,RepL,inj,Rep] at ha;obtain ⟨rfl,rfl,_⟩:=ha;have hsz:(ByteArray.mk (List.toArray s)).size=List.length (α:=UInt8) s:=rfl;refine (Any.split_one Tryd.lays146 (by kernel_rfl) ⟨List.toArray s⟩ c w (by rw[hsz];omega)).mono ?_
    rintro x w' ⟨rfl,hw⟩
    have hb:Below w.heap.size w w':=(by rw[hw];exact (Below.refl _ _).alloc (yAj _) _);refine ⟨_,rfl,hb,?_⟩;simp only[e76,zcN,zgY,inj,Rep];have hlen:=Lib.splitB_all ⟨#[c]⟩ (yAj 1) 0 _ ⟨List.toArray s⟩ rfl;have hl2:(zb2 c s).length=Lib.countB ⟨List.toArray s⟩ ⟨#[c]⟩+1:=by unfold zb2;rw[yBs];exact hlen
    have hcell:∀(i:Nat)(x:List UInt8),(zb2 c s)[i]?=some x->w'.cell? ⟨w.heap.size,i,none⟩=some (.string ⟨x.toArray⟩):=(by intro i x hi;unfold zb2 at hi;rw[yAg,yA3] at hi;obtain ⟨y,hy,rfl⟩:=hi;rw[hw];have:(w.alloc (.cells ((Lib.splitB ⟨#[c]⟩ 0 (Lib.countB ⟨List.toArray s⟩ ⟨#[c]⟩) ⟨List.toArray s⟩).map Value.string).toArray (Tryd.lays146_ren.t 9))).heap[w.heap.size]?=_:=heap_alloc_new w _;rw[cell_of_row _ _ _ _ _ _ this];simp[hy]);have key:DR (S:=Sx) un (zlo D w w') w' [.cs .str] (sg (u:= .cs .str) (zb2 c s)) [.slice (some ⟨w.heap.size,0,none⟩) (zb2 c s).length (zb2 c s).length]:=by
     refine .cs (t:=sg (u:= .cs .str) (zb2 c s)) w.heap.size 0 (λi=>[match (zb2 c s)[i]? with|some x=>.string ⟨x.toArray⟩|none=>undef]) (λi x hi=>?_) (λi x hi=>?_) .nil
     ·intro j v hj;have hx:(zb2 c s)[i]?=some x:=hi;cases j with
      |zero =>
        simp[hx] at hj;subst hj;refine ⟨.inr ⟨by simp,?_⟩,?_⟩;·rw[hw];simp
        ·simpa[U.size] using hcell i x hx
      |succ j=>simp at hj
     ·have hx:(zb2 c s)[i]?=some x:=hi;simp only[hx];exact .str .nil
    rw[hl2] at key;exact key
  |[],ha=>simp[e76,zcN,RepL] at ha|[_],ha=>simp[e76,zcN,RepL] at ha|_::_::_::_,ha=>simp[e76,zcN,RepL] at ha
theorem zsI{D:Dat}{w:World}{x:List UInt8}{cc:List Value}(h:DR (S:=Sx) un D w [.str] (sg (u:= .str) x) cc):cc=[.string ⟨x.toArray⟩]:=by
 cases h with
 |str h'=>cases h';rfl
theorem zn8{D:Dat}{w:World}{xs:List (List UInt8)}{v:Value}(hv:DR (S:=Sx) un D w [.sl .str] (sg (u:= .sl .str) xs) [v]) :
  (xs=[]/\∃A c,v= .slice A 0 c)\/(xs≠[]/\∃b off c,v= .slice (some ⟨b,off,none⟩) xs.length c/\xs.length<=c/\∀(j:Nat)(x:List UInt8),xs[j]?=some x->D b (off+j)/\w.cell? ⟨b,off+j,none⟩=some (.string ⟨x.toArray⟩)):=by
 cases hv with
 |sl0 A c h0 h=>exact .inl ⟨h0,A,c,rfl⟩|sl b off c cs hc k1 k2 h =>
   by_cases hx:xs=[];·subst hx;exact .inl ⟨rfl,some ⟨b,off,none⟩,c,rfl⟩
   ·refine .inr ⟨hx,b,off,c,rfl,hc,λj x hj=>?_⟩;have e1:=k1 j x hj;have e2:=zsI (k2 j x hj);rw[e2] at e1;simpa[U.size] using e1 0 _ rfl
theorem zpY{D:Dat}{w:World}(hD:∀k o,D k o->k<w.heap.size){xs:List (List UInt8)}{sep:List UInt8}{v:Value}(hv:DR (S:=Sx) un D w [.sl .str] (sg (u:= .sl .str) xs) [v])(h1:xs.length<=1000000)(h2:(Lib.join xs sep).length<=100000000) :
  Calls Tryd.prog 45 #[v,.string ⟨sep.toArray⟩] w λx w'=>x= .returned (.string ⟨(Lib.join xs sep).toArray⟩)/\Below w.heap.size w w':=by
 rcases zn8 hv with ⟨rfl,A,c,rfl⟩|⟨hx,b,off,c,rfl,hc,hcell⟩
 ·refine (Tryd.strings_Join_none A c ⟨sep.toArray⟩ w).mono ?_
  rintro x w' ⟨rfl,rfl⟩
  exact ⟨rfl,Below.refl _ _⟩
 ·have hb:b<w.heap.size:=by
   obtain ⟨y,ys,rfl⟩:=List.exists_cons_of_ne_nil hx;exact hD _ _ (hcell 0 y rfl).1
  have hmap:(xs.map λx=>ByteArray.mk x.toArray).map (·.data.toList)=xs:=by rw[List.map_map];simp[Function.comp_def]
  have hlen:(xs.map λx=>ByteArray.mk x.toArray).length=xs.length:=by simp
  have:=Tryd.strings_Join b off c (xs.map λx=>ByteArray.mk x.toArray) ⟨sep.toArray⟩ w (λj x hj=>by
   rw[yAg] at hj;cases hxj:xs[j]? with
   |none=>rw[hxj] at hj;cases hj|some y=>rw[hxj] at hj;cases hj;exact (hcell j y hxj).2) hb (by rw[hlen];omega) (by rw[hlen];exact hc) (by rw[hmap];exact yAJ h2 (by decide))
  rw[hmap,hlen] at this;exact this
noncomputable def e45(_:Orc Sx):Entry Sx:=⟨[.sl .str,.str],[.str],λt=>bif Nat.ble (List.length (α:=List UInt8) t.1) 1000000&&Nat.ble (Lib.join t.1 t.2.1).length 100000000 then some (Lib.join t.1 t.2.1,()) else none⟩
theorem hok45(o:Orc Sx)(_:SoundO Tryd.prog un o):Entry.Ok Tryd.prog un 45 (e45 o):=by
 intro t r h D w vs _ hD ha;obtain ⟨h1,h2⟩:=zae h;cases h2;simp only[yAd,yAX] at h1
 match vs,ha with
 |[v,u],ha =>
   simp only[e45,zcN,RepL,inj] at ha;have hu:=ztP ha.2.1;subst hu;have hv:=ha.1;simp only[Rep] at hv;refine (zpY hD hv h1.1 h1.2).mono ?_
   rintro x w' ⟨rfl,hb⟩
   exact ⟨_,rfl,hb,by simp only[e45,zcN,zgY,inj,Rep]⟩
 |[],ha=>simp[e45,zcN,RepL] at ha|[_],ha=>simp[e45,zcN,RepL] at ha|_::_::_::_,ha=>simp[e45,zcN,RepL] at ha
theorem zu5(w:World)(k:Nat)(os:Array Obj):Below w.heap.size w (Sort.grow (w.drewN k) os) :=
 ⟨rfl,rfl,rfl,by show w.heap.size<=(w.heap++os).size;simp,λi hi=>by show (w.heap++os)[i]?=w.heap[i]?;rw[yCi hi]⟩
def zvx(u b:Int):Option (List UInt8×Unit):=bif decide (0<=u)&&(decide (u<18446744073709551616)&&(b==16)) then some (Go.Proofs.YtiapbmjlocfhgaaDoor.hexL u.toNat,()) else none
def zvw(s:List UInt8)(c:Int):Option (List UInt8×Unit):=bif decide (0<=c)&&(decide (c<=1000)&&Nat.ble s.length 1000) then some (Lib.repeatL s c.toNat,()) else none
theorem zu8{u b:Int}{r:List UInt8×Unit}(h:zvx u b=some r):∃n:Nat,n<18446744073709551616/\u=(n:Int)/\b=16/\r=(Go.Proofs.YtiapbmjlocfhgaaDoor.hexL n,()):=by obtain ⟨h1,h2⟩:=zae h;simp only[yAd,decide_eq_true_eq,beq_iff_eq] at h1;refine ⟨u.toNat,by omega,by omega,h1.2.2,?_⟩;cases h2;rfl
theorem zu7{s:List UInt8}{c:Int}{r:List UInt8×Unit}(h:zvw s c=some r):∃n:Nat,n<=1000/\s.length<=1000/\s.length*n<=1000000/\c=(n:Int)/\r=(Lib.repeatL s n,()):=by obtain ⟨h1,h2⟩:=zae h;simp only[yAd,decide_eq_true_eq,yAX] at h1;refine ⟨c.toNat,by omega,h1.2.2,yBG h1.2.2 (by omega:c.toNat<=1000),by omega,?_⟩;cases h2;rfl
noncomputable def e11(_:Orc Sx):Entry Sx:=⟨[.int .u64,.int .i64],[.str],λt=>zvx t.1 t.2.1⟩
theorem hok11(o:Orc Sx)(_:SoundO Tryd.prog un o):Entry.Ok Tryd.prog un 11 (e11 o):=by
 intro t r h D w vs htab hD ha;obtain ⟨u,b,t2⟩:=t;obtain ⟨n,hn,h1,h2,h3⟩:=zu8 (show zvx u b=some r from h);subst h1 h2 h3
 match vs,ha with
 |[v,x],ha =>
   simp only[e11,zcN,RepL,inj,Rep] at ha;obtain ⟨rfl,rfl,_⟩:=ha;obtain ⟨hlt,_,hc⟩:=htab _ (yBk.2 rfl);refine (Go.Proofs.YtiapbmjlocfhgaaDoor.fmtU n hn w hlt (hc 15 _ rfl)).mono ?_
   rintro x w' ⟨rfl,k,os,rfl⟩
   exact ⟨_,rfl,zu5 w k os,by simp only[e11,zcN,zgY,inj,Rep]⟩
 |[],ha=>simp[e11,zcN,RepL] at ha|[_],ha=>simp[e11,zcN,RepL] at ha|_::_::_::_,ha=>simp[e11,zcN,RepL] at ha
noncomputable def e12(_:Orc Sx):Entry Sx:=⟨[.str,.int .i64],[.str],λt=>zvw t.1 t.2.1⟩
theorem hok12(o:Orc Sx)(_:SoundO Tryd.prog un o):Entry.Ok Tryd.prog un 12 (e12 o):=by
 intro t r h D w vs _ hD ha;obtain ⟨s,c,t2⟩:=t;obtain ⟨n,hn,hs,hm,h1,h3⟩:=zu7 (show zvw s c=some r from h);subst h1 h3
 match vs,ha with
 |[v,x],ha =>
   simp only[e12,zcN,RepL,inj,Rep] at ha;obtain ⟨rfl,rfl,_⟩:=ha;have hsz:(ByteArray.mk (List.toArray s)).size=List.length (α:=UInt8) s:=rfl;refine (Tryd.strings_Repeat ⟨List.toArray s⟩ n w (by omega) (by rw[hsz];omega)).mono ?_
   rintro x w' ⟨rfl,hb⟩
   exact ⟨_,rfl,hb,by simp only[e12,zcN,zgY,inj,Rep]⟩
 |[],ha=>simp[e12,zcN,RepL] at ha|[_],ha=>simp[e12,zcN,RepL] at ha|_::_::_::_,ha=>simp[e12,zcN,RepL] at ha
end Pe.Tryd
end
section
set_option maxRecDepth 100000
namespace Pe.Tryd
open Go Go.Proofs Pe
noncomputable def tabN(o:Orc Sx):Tr (Entry Sx):=(.node (.node (.node (.node (.node (.node .leaf 3 ⟨[.str,(.sl (.st 1)),(.sl (.st 1))],[.bool],λt=>m3 o t.1 t.2.1 t.2.2.1⟩ .leaf) 4 ⟨[(.sl (.st 1)),(.sl (.st 1))],[(.int .i64),(.int .i64)],λt=>m4 o t.1 t.2.1⟩ .leaf) 5 ⟨[(.sl (.st 1)),(.sl (.st 1))],[(.int .i64),(.int .i64)],λt=>m5 o t.1 t.2.1⟩ (.node (.node .leaf 6 ⟨[.str],[.str],λt=>m6 o t.1⟩ .leaf) 7 ⟨[.str],[.str],λt=>m7 o t.1⟩ .leaf)) 8 ⟨[(.sl (.st 1))],[(.int .i64)],λt=>m8 o t.1⟩ (.node (.node (.node .leaf 9 ⟨[(.sl (.st 1))],[(.int .i64)],λt=>m9 o t.1⟩ .leaf) 10 ⟨[],[.bool],λ_=>m10 o ⟩ .leaf) 11 (e11 o) (.node .leaf 12 (e12 o) .leaf))) 13 ⟨[.str,(.int .i64)],[.bool],λt=>m13 o t.1 t.2.1⟩ (.node (.node (.node (.node .leaf 14 ⟨[.str,(.int .i64)],[.bool],λt=>m14 o t.1 t.2.1⟩ .leaf) 15 ⟨[.str],[(.st 4),(.int .i64),(.int .i64)],λt=>m15 o t.1⟩ .leaf) 16 ⟨[(.st 4)],[.str,(.int .i64)],λt=>m16 o t.1⟩ (.node .leaf 24 ⟨[(.int .u8)],[(.int .i64)],λt=>m24 o t.1⟩ .leaf)) 27 ⟨[(.st 3),(.st 3)],[(.int .i64)],λt=>m27 o t.1 t.2.1⟩ (.node (.node (.node .leaf 28 ⟨[.str,.str],[(.int .i64)],λt=>m28 o t.1 t.2.1⟩ .leaf) 29 ⟨[(.st 4)],[(.int .i64)],λt=>m29 o t.1⟩ .leaf) 30 ⟨[(.st 4)],[(.st 4)],λt=>m30 o t.1⟩ (.node .leaf 31 ⟨[(.st 4)],[.str],λt=>m31 o t.1⟩ .leaf)))) 32 ⟨[.str],[.str],λt=>m32 o t.1⟩ (.node (.node (.node (.node (.node .leaf 33 ⟨[.str],[.str],λt=>m33 o t.1⟩ .leaf) 45 (e45 o) .leaf) 51 ⟨[.str],[.bool],λt=>m51 o t.1⟩ (.node .leaf 52 ⟨[.str],[(.st 2),(.int .i64)],λt=>m52 o t.1⟩ .leaf)) 53 ⟨[(.st 4)],[.bool],λt=>m53 o t.1⟩ (.node (.node (.node .leaf 54 ⟨[(.sl .str),.bool],[.bool],λt=>m54 o t.1 t.2.1⟩ .leaf) 55 ⟨[.str],[(.cs .str)],λt=>m55 o t.1⟩ .leaf) 56 (e56 o) (.node .leaf 57 ⟨[(.sl (.st 3))],[(.int .i64)],λt=>m57 o t.1⟩ .leaf))) 58 ⟨[.str],[.bool],λt=>m58 o t.1⟩ (.node (.node (.node (.node .leaf 59 ⟨[.str],[.str],λt=>m59 o t.1⟩ .leaf) 60 ⟨[.str],[.str],λt=>m60 o t.1⟩ .leaf) 61 ⟨[(.int .u8)],[.bool],λt=>m61 o t.1⟩ (.node .leaf 71 ⟨[(.int .u8),.bool],[.bool],λt=>m71 o t.1 t.2.1⟩ .leaf)) 74 ⟨[.str],[(.int .i64)],λt=>m74 o t.1⟩ (.node (.node (.node .leaf 75 ⟨[],[(.st 0)],λ_=>m75 o ⟩ .leaf) 76 (e76 o) .leaf) 78 ⟨[.str],[.bool],λt=>m78 o t.1⟩ (.node .leaf 79 ⟨[(.int .u8)],[.bool],λt=>m79 o t.1⟩ .leaf)))))
noncomputable def tabE(o:Orc Sx):Tr (EntryE Sx):=(.node (.node (.node .leaf 43 ⟨1,[.bool],[62],[(.st 5)],[.str],[],0,λc t=>m43 o c t.1⟩ .leaf) 44 ⟨1,[],[62],[(.st 5)],[(.sl .str)],[],0,λc _=>m44 o c ⟩ (.node .leaf 47 ⟨1,[],[62],[(.st 5)],[.str],[],0,λc _=>m47 o c ⟩ .leaf)) 48 ⟨1,[],[62],[(.st 5)],[(.st 3)],[],0,λc _=>m48 o c ⟩ (.node (.node .leaf 49 ⟨1,[(.int .i64)],[62],[(.st 5)],[],[],0,λc t=>m49 o c t.1⟩ .leaf) 70 ⟨1,[],[62],[(.st 5)],[(.int .u8),.bool],[],0,λc _=>m70 o c ⟩ .leaf))
noncomputable def tabL(o:Orc Sx):Tr (EntryL Sx):=(.node (.node (.node .leaf 25 ⟨sg25,λt=>m25 o t.1 t.2.1 t.2.2.1⟩ .leaf) 50 ⟨sg50,λt=>m50 o t.1 t.2.1⟩ (.node .leaf 72 ⟨sg72,λt=>m72 o t.1 t.2.1 t.2.2.1⟩ .leaf)) 73 ⟨sg73,λt=>m73 o t.1 t.2.1 t.2.2.1 t.2.2.2.1⟩ (.node (.node .leaf 82 ⟨sg82,λt=>m82 o t.1 t.2.1 t.2.2.1 t.2.2.2.1⟩ .leaf) 85 ⟨sg85,λt=>m85 o t.1 t.2.1 t.2.2.1 t.2.2.2.1⟩ .leaf))
theorem zsu(o:Orc Sx)(h:SoundO Tryd.prog un o):(tabN o).All (Entry.Ok Tryd.prog un):=⟨⟨⟨⟨⟨⟨trivial,ok3 o h,trivial⟩,ok4 o h,trivial⟩,ok5 o h,⟨⟨trivial,ok6 o h,trivial⟩,ok7 o h,trivial⟩⟩,ok8 o h,⟨⟨⟨trivial,ok9 o h,trivial⟩,ok10 o h,trivial⟩,hok11 o h,⟨trivial,hok12 o h,trivial⟩⟩⟩,ok13 o h,⟨⟨⟨⟨trivial,ok14 o h,trivial⟩,ok15 o h,trivial⟩,ok16 o h,⟨trivial,ok24 o h,trivial⟩⟩,ok27 o h,⟨⟨⟨trivial,ok28 o h,trivial⟩,ok29 o h,trivial⟩,ok30 o h,⟨trivial,ok31 o h,trivial⟩⟩⟩⟩,ok32 o h,⟨⟨⟨⟨⟨trivial,ok33 o h,trivial⟩,hok45 o h,trivial⟩,ok51 o h,⟨trivial,ok52 o h,trivial⟩⟩,ok53 o h,⟨⟨⟨trivial,ok54 o h,trivial⟩,ok55 o h,trivial⟩,hok56 o h,⟨trivial,ok57 o h,trivial⟩⟩⟩,ok58 o h,⟨⟨⟨⟨trivial,ok59 o h,trivial⟩,ok60 o h,trivial⟩,ok61 o h,⟨trivial,ok71 o h,trivial⟩⟩,ok74 o h,⟨⟨⟨trivial,ok75 o h,trivial⟩,hok76 o h,trivial⟩,ok78 o h,⟨trivial,ok79 o h,trivial⟩⟩⟩⟩⟩
theorem zsw(o:Orc Sx)(h:SoundO Tryd.prog un o):(tabE o).All (EntryE.Ok Tryd.prog un):=⟨⟨⟨trivial,ok43 o h,trivial⟩,ok44 o h,⟨trivial,ok47 o h,trivial⟩⟩,ok48 o h,⟨⟨trivial,ok49 o h,trivial⟩,ok70 o h,trivial⟩⟩
noncomputable def tabP(o:Orc Sx):Tr (List (EntryP Sx)):=(.node .leaf 26 [e26 o] .leaf)
theorem zst(o:Orc Sx)(h:SoundO Tryd.prog un o):(tabP o).All (EntryPs.Ok Tryd.prog un):=⟨trivial,λe he=>(show e=e26 o from yBk.1 he)▸hok26 o h,trivial⟩
theorem zsv(o:Orc Sx)(h:SoundO Tryd.prog un o):(tabL o).All (EntryL.Ok Tryd.prog un):=⟨⟨⟨trivial,ok25 o h,trivial⟩,ok50 o h,⟨trivial,ok72 o h,trivial⟩⟩,ok73 o h,⟨⟨trivial,ok82 o h,trivial⟩,ok85 o h,trivial⟩⟩
noncomputable def zal:Nat->Orc Sx|0=>⟨λ_ _ _=>none,λ_ _ _ _ _ _ _ _=>none,λ_ _ _=>none,λ_ _ _ _ _=>none⟩|n+1=>ztu (tabN (zal n)) (tabE (zal n)) (tabL (zal n)) (tabP (zal n))
theorem zdR:∀n,SoundO Tryd.prog un (zal n)|0=>⟨λ_ _ _ _ h=>(by cases h),λ_ _ _ _ _ _ _ _ _ h=>(by cases h),λ_ _ _ _ h=>(by cases h),λ_ _ _ _ _ _ h=>(by cases h)⟩|n+1=>zot (zsu _ (zdR n)) (zsw _ (zdR n)) (zsv _ (zdR n)) (zst _ (zdR n))
end Pe.Tryd
end
section
set_option maxRecDepth 100000
namespace Pe.Tryd
open Go Go.Proofs Pe
theorem q4(n:Nat)(a:(List Gt.Digest))(b:(List Gt.Digest)): @Eq (Option (Int×Int×Unit)) ((zal (n+1)).d 4 [.sl (.st 1) a,.sl (.st 1) b] [(.int .i64),(.int .i64)]) (m4 (zal n) a b):=by kernel_rfl
theorem q5(n:Nat)(a:(List Gt.Digest))(b:(List Gt.Digest)): @Eq (Option (Int×Int×Unit)) ((zal (n+1)).d 5 [.sl (.st 1) a,.sl (.st 1) b] [(.int .i64),(.int .i64)]) (m5 (zal n) a b):=by kernel_rfl
theorem q6(n:Nat)(text:(List UInt8)): @Eq (Option (List UInt8×Unit)) ((zal (n+1)).d 6 [.str text] [.str]) (m6 (zal n) text):=by kernel_rfl
theorem q7(n:Nat)(text:(List UInt8)): @Eq (Option (List UInt8×Unit)) ((zal (n+1)).d 7 [.str text] [.str]) (m7 (zal n) text):=by kernel_rfl
theorem q8(n:Nat)(l:(List Gt.Digest)): @Eq (Option (Int×Unit)) ((zal (n+1)).d 8 [.sl (.st 1) l] [(.int .i64)]) (m8 (zal n) l):=by kernel_rfl
theorem q9(n:Nat)(l:(List Gt.Digest)): @Eq (Option (Int×Unit)) ((zal (n+1)).d 9 [.sl (.st 1) l] [(.int .i64)]) (m9 (zal n) l):=by kernel_rfl
theorem q10(n:Nat)  : @Eq (Option (Bool×Unit)) ((zal (n+1)).d 10 [] [.bool]) (m10 (zal n) ):=by kernel_rfl
theorem q13(nD:Nat)(s:(List UInt8))(n:Int): @Eq (Option (Bool×Unit)) ((zal (nD+1)).d 13 [.str s,.int .i64 n] [.bool]) (m13 (zal nD) s n):=by kernel_rfl
theorem q14(nD:Nat)(s:(List UInt8))(n:Int): @Eq (Option (Bool×Unit)) ((zal (nD+1)).d 14 [.str s,.int .i64 n] [.bool]) (m14 (zal nD) s n):=by kernel_rfl
theorem q15(n:Nat)(s:(List UInt8)): @Eq (Option (Gt.Purl×Int×Int×Unit)) ((zal (n+1)).d 15 [.str s] [(.st 4),(.int .i64),(.int .i64)]) (m15 (zal n) s):=by kernel_rfl
theorem q16(n:Nat)(p:Gt.Purl): @Eq (Option (List UInt8×Int×Unit)) ((zal (n+1)).d 16 [.st 4 p] [.str,(.int .i64)]) (m16 (zal n) p):=by kernel_rfl
theorem q24(n:Nat)(c:Int): @Eq (Option (Int×Unit)) ((zal (n+1)).d 24 [.int .u8 c] [(.int .i64)]) (m24 (zal n) c):=by kernel_rfl
theorem q25(n:Nat)(b0_0:List UInt8)(b0_1:Int)(b0_2:Int): @Eq (Option ((List UInt8×Int×Int×List UInt8×List UInt8×List UInt8×List UInt8×List (Gt.Pair)×List UInt8×Unit)⊕(Unit))) ((zal (n+1)).l 25 sg25 ((b0_0,b0_1,b0_2,()):List UInt8×Int×Int×Unit)) (m25 (zal n) b0_0 b0_1 b0_2):=by kernel_rfl
theorem q26(n:Nat)(l:List (Gt.Pair)): @Eq (Option (List (Gt.Pair))) ((zal (n+1)).p 26 (.st 3) 66 [.func (.func 27) [] []] l) (inl1 (m26 (zal n) l)):=(show _=opt1 (inl1 (m26 (zal n) l)) by kernel_rfl).trans (zsH _)
theorem q29(n:Nat)(p:Gt.Purl): @Eq (Option (Int×Unit)) ((zal (n+1)).d 29 [.st 4 p] [(.int .i64)]) (m29 (zal n) p):=by kernel_rfl
theorem q30(n:Nat)(p:Gt.Purl): @Eq (Option (Gt.Purl×Unit)) ((zal (n+1)).d 30 [.st 4 p] [(.st 4)]) (m30 (zal n) p):=by kernel_rfl
theorem q31(n:Nat)(p:Gt.Purl): @Eq (Option (List UInt8×Unit)) ((zal (n+1)).d 31 [.st 4 p] [.str]) (m31 (zal n) p):=by kernel_rfl
theorem q32(n:Nat)(s:(List UInt8)): @Eq (Option (List UInt8×Unit)) ((zal (n+1)).d 32 [.str s] [.str]) (m32 (zal n) s):=by kernel_rfl
theorem q33(n:Nat)(s:(List UInt8)): @Eq (Option (List UInt8×Unit)) ((zal (n+1)).d 33 [.str s] [.str]) (m33 (zal n) s):=by kernel_rfl
theorem q43(n:Nat)(rc:Gt.Rd_×Unit)(star:Bool): @Eq (Option (((Gt.Rd_×Unit)×(List UInt8×Unit))⊕(Unit))) ((zal (n+1)).e 43 [.ptr 0 0,.bool star] [62] [(.st 5)] rc [.str] [] 0) (m43 (zal n) rc star):=by kernel_rfl
theorem q44(n:Nat)(rc:Gt.Rd_×Unit): @Eq (Option (((Gt.Rd_×Unit)×(List (List UInt8)×Unit))⊕(Unit))) ((zal (n+1)).e 44 [.ptr 0 0] [62] [(.st 5)] rc [(.sl .str)] [] 0) (m44 (zal n) rc):=by kernel_rfl
theorem q47(n:Nat)(rc:Gt.Rd_×Unit): @Eq (Option (((Gt.Rd_×Unit)×(List UInt8×Unit))⊕(Unit))) ((zal (n+1)).e 47 [.ptr 0 0] [62] [(.st 5)] rc [.str] [] 0) (m47 (zal n) rc):=by kernel_rfl
theorem q48(n:Nat)(rc:Gt.Rd_×Unit): @Eq (Option (((Gt.Rd_×Unit)×(Gt.Pair×Unit))⊕(Unit))) ((zal (n+1)).e 48 [.ptr 0 0] [62] [(.st 5)] rc [(.st 3)] [] 0) (m48 (zal n) rc):=by kernel_rfl
theorem q49(n:Nat)(rc:Gt.Rd_×Unit)(at':Int): @Eq (Option (((Gt.Rd_×Unit)×(Unit))⊕(Unit))) ((zal (n+1)).e 49 [.ptr 0 0,.int .i64 at'] [62] [(.st 5)] rc [] [] 0) (m49 (zal n) rc at'):=by kernel_rfl
theorem q50(nD:Nat)(b0_0:List (Gt.Pair))(n:Int): @Eq (Option ((List (Gt.Pair)×Unit)⊕(Unit))) ((zal (nD+1)).l 50 sg50 ((b0_0,n,()):List (Gt.Pair)×Int×Unit)) (m50 (zal nD) b0_0 n):=by kernel_rfl
theorem q52(n:Nat)(kind:(List UInt8)): @Eq (Option (Gt.KindRule×Int×Unit)) ((zal (n+1)).d 52 [.str kind] [(.st 2),(.int .i64)]) (m52 (zal n) kind):=by kernel_rfl
theorem q53(n:Nat)(p:Gt.Purl): @Eq (Option (Bool×Unit)) ((zal (n+1)).d 53 [.st 4 p] [.bool]) (m53 (zal n) p):=by kernel_rfl
theorem q54(n:Nat)(l:(List (List UInt8)))(dots:Bool): @Eq (Option (Bool×Unit)) ((zal (n+1)).d 54 [.sl .str l,.bool dots] [.bool]) (m54 (zal n) l dots):=by kernel_rfl
theorem q55(n:Nat)(s:(List UInt8)): @Eq (Option (List (List UInt8)×Unit)) ((zal (n+1)).d 55 [.str s] [(.cs .str)]) (m55 (zal n) s):=by kernel_rfl
theorem q57(n:Nat)(l:(List Gt.Pair)): @Eq (Option (Int×Unit)) ((zal (n+1)).d 57 [.sl (.st 3) l] [(.int .i64)]) (m57 (zal n) l):=by kernel_rfl
theorem q58(n:Nat)(s:(List UInt8)): @Eq (Option (Bool×Unit)) ((zal (n+1)).d 58 [.str s] [.bool]) (m58 (zal n) s):=by kernel_rfl
theorem q59(n:Nat)(s:(List UInt8)): @Eq (Option (List UInt8×Unit)) ((zal (n+1)).d 59 [.str s] [.str]) (m59 (zal n) s):=by kernel_rfl
theorem q60(n:Nat)(s:(List UInt8)): @Eq (Option (List UInt8×Unit)) ((zal (n+1)).d 60 [.str s] [.str]) (m60 (zal n) s):=by kernel_rfl
theorem q61(n:Nat)(c:Int): @Eq (Option (Bool×Unit)) ((zal (n+1)).d 61 [.int .u8 c] [.bool]) (m61 (zal n) c):=by kernel_rfl
theorem q70(n:Nat)(rc:Gt.Rd_×Unit): @Eq (Option (((Gt.Rd_×Unit)×(Int×Bool×Unit))⊕(Unit))) ((zal (n+1)).e 70 [.ptr 0 0] [62] [(.st 5)] rc [(.int .u8),.bool] [] 0) (m70 (zal n) rc):=by kernel_rfl
theorem q71(n:Nat)(c:Int)(first:Bool): @Eq (Option (Bool×Unit)) ((zal (n+1)).d 71 [.int .u8 c,.bool first] [.bool]) (m71 (zal n) c first):=by kernel_rfl
theorem q72(n:Nat)(b0_0:List (Gt.Pair))(a:Int)(b:Int): @Eq (Option ((List (Gt.Pair)×Unit)⊕(Unit))) ((zal (n+1)).l 72 sg72 ((b0_0,a,b,()):List (Gt.Pair)×Int×Int×Unit)) (m72 (zal n) b0_0 a b):=by kernel_rfl
theorem q74(n:Nat)(kind:(List UInt8)): @Eq (Option (Int×Unit)) ((zal (n+1)).d 74 [.str kind] [(.int .i64)]) (m74 (zal n) kind):=by kernel_rfl
theorem q75(n:Nat)  : @Eq (Option (Gt.A5_×Unit)) ((zal (n+1)).d 75 [] [(.st 0)]) (m75 (zal n) ):=by kernel_rfl
theorem q78(n:Nat)(s:(List UInt8)): @Eq (Option (Bool×Unit)) ((zal (n+1)).d 78 [.str s] [.bool]) (m78 (zal n) s):=by kernel_rfl
theorem q79(n:Nat)(c:Int): @Eq (Option (Bool×Unit)) ((zal (n+1)).d 79 [.int .u8 c] [.bool]) (m79 (zal n) c):=by kernel_rfl
end Pe.Tryd
end
