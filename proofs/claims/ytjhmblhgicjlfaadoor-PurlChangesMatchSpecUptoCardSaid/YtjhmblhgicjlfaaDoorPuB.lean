/- PROVED HERE: a part of the seat's proofs; see the text that holds the claim's theorem. -/
import Derived.Test.YtjhmblhgicjlfaaDoorPuD
import Derived.Test.YtjhmblhgicjlfaaDoorPuA
import Derived.Test.YtjhmblhgicjlfaaDoorPuI
section
/- What is known of functions that are not read: strings.Join, IndexByte, Contains and Split at one byte, SortStableFunc at no element. -/
set_option maxRecDepth 100000
namespace Pe.Tryd
open Go Go.Proofs Pe Go.RowKit
theorem oneStr {nu:Nu} {D:Dat} {w:World} {s:List UInt8} {v:Value} (h:Rep (S:=Sx) un nu D w (.str s) v):v= .string ⟨s.toArray⟩:=by simpa only [Rep] using h
noncomputable def e64 (_:Orc Sx):Entry Sx:=⟨[.str,.int .u8],[.int .i64],fun t=>some (Lib.indexByte t.1 (UInt8.ofNat (Int.toNat t.2.1)),())⟩
theorem hok64 (o:Orc Sx) (_:SoundO Tryd.prog un o):Entry.Ok Tryd.prog un 64 (e64 o):=by
 intro t r h D w vs hD ha
 cases h
 match vs,ha with
 | [v,u],ha =>
   simp only [e64,injL,RepL,inj,Rep] at ha
   obtain ⟨rfl,rfl,_⟩:=ha
   refine (Tryd.strings_IndexByte ⟨List.toArray t.1⟩ t.2.1 w).mono ?_
   rintro x w' ⟨rfl,rfl⟩
   exact ⟨_,rfl,Below.refl _ _,by simp only [e64,injL,one?,inj,Rep]⟩
 | [],ha=>simp [e64,injL,RepL] at ha
 | [_],ha=>simp [e64,injL,RepL] at ha
 | _::_::_::_,ha=>simp [e64,injL,RepL] at ha
def has1 (s:List UInt8):List UInt8→Option (Bool×Unit)
 | [c]=>some (decide (0≤Lib.indexByte s c),())
 | _=>none
theorem has1_some {s sub:List UInt8} {r:Bool×Unit} (h:has1 s sub=some r):∃c,sub=[c]∧r=(decide (0≤Lib.indexByte s c),()):=by
 match sub,h with
 | [c],h=>exact ⟨c,rfl,(Option.some.inj h).symm⟩
noncomputable def e69 (_:Orc Sx):Entry Sx:=⟨[.str,.str],[.bool],fun t=>has1 t.1 t.2.1⟩
theorem hok69 (o:Orc Sx) (_:SoundO Tryd.prog un o):Entry.Ok Tryd.prog un 69 (e69 o):=by
 intro t r h D w vs hD ha
 obtain ⟨s,sub,t2⟩:=t
 obtain ⟨c,h1,h2⟩:=has1_some (show has1 s sub=some r from h)
 ·subst h1;subst h2
  match vs,ha with
  | [v,u],ha =>
    simp only [e69,injL,RepL,inj,Rep] at ha
    obtain ⟨rfl,rfl,_⟩:=ha
    refine (Tryd.strings_Contains_one ⟨List.toArray s⟩ c w).mono ?_
    rintro x w' ⟨rfl,rfl⟩
    exact ⟨_,rfl,Below.refl _ _,by simp only [e69,injL,one?,inj,Rep]⟩
  | [],ha=>simp [e69,injL,RepL] at ha
  | [_],ha=>simp [e69,injL,RepL] at ha
  | _::_::_::_,ha=>simp [e69,injL,RepL] at ha
def splitS (c:UInt8) (s:List UInt8):List (List UInt8):=(Lib.splitB ⟨#[c]⟩ 0 (Lib.countB ⟨s.toArray⟩ ⟨#[c]⟩) ⟨s.toArray⟩).map (·.data.toList)
def split1 (s:List UInt8):List UInt8→Option (List (List UInt8)×Unit)
 | [c]=>bif Nat.ble s.length 4000000000 then some (splitS c s,()) else none
 | _=>none
theorem split1_some {s sub:List UInt8} {r:List (List UInt8)×Unit} (h:split1 s sub=some r):∃c,sub=[c]∧(bif Nat.ble s.length 4000000000 then some (splitS c s,()) else none)=some r:=by
 match sub,h with
 | [c],h=>exact ⟨c,rfl,h⟩
noncomputable def e106 (_:Orc Sx):Entry Sx:=⟨[.str,.str],[.sl .str],fun t=>split1 t.1 t.2.1⟩
theorem hok106 (o:Orc Sx) (_:SoundO Tryd.prog un o):Entry.Ok Tryd.prog un 106 (e106 o):=by
 intro t r h D w vs hD ha
 obtain ⟨s,sub,t2⟩:=t
 obtain ⟨c,h0,h⟩:=split1_some (show split1 s sub=some r from h)
 ·subst h0
  obtain ⟨h1,h2⟩:=bif_some h
  cases h2
  simp only [Nat.ble_eq] at h1
  match vs,ha with
  | [v,u],ha =>
    simp only [e106,injL,RepL,inj,Rep] at ha
    obtain ⟨rfl,rfl,_⟩:=ha
    have hsz:(ByteArray.mk (List.toArray s)).size=List.length (α:=UInt8) s:=rfl
    refine (Any.split_one Tryd.lays146 (by kernel_rfl) ⟨List.toArray s⟩ c w (by rw [hsz];omega)).mono ?_
    rintro x w' ⟨rfl,hw⟩
    have hb:Below w.heap.size w w':=by rw [hw];exact (Below.refl _ _).alloc (Nat.le_refl _) _
    refine ⟨_,rfl,hb,?_⟩
    simp only [e106,injL,one?,inj,Rep]
    have hlen:=Lib.splitB_all ⟨#[c]⟩ (Nat.le_refl 1) 0 _ ⟨List.toArray s⟩ rfl
    have hl2:(splitS c s).length=Lib.countB ⟨List.toArray s⟩ ⟨#[c]⟩+1:=by unfold splitS;rw [List.length_map];exact hlen
    have hcell:∀(i:Nat) (x:List UInt8),(splitS c s)[i]? =some x→w'.cell? ⟨w.heap.size,i,none⟩=some (.string ⟨x.toArray⟩):=by
     intro i x hi
     unfold splitS at hi
     rw [List.getElem?_map,Option.map_eq_some_iff] at hi
     obtain ⟨y,hy,rfl⟩:=hi
     rw [hw]
     have:(w.alloc (.cells ((Lib.splitB ⟨#[c]⟩ 0 (Lib.countB ⟨List.toArray s⟩ ⟨#[c]⟩) ⟨List.toArray s⟩).map Value.string).toArray (Tryd.lays146_ren.t 9))).heap[w.heap.size]? =_:=heap_alloc_new w _
     rw [cell_of_row _ _ _ _ _ _ this]
     simp [hy]
    have key:DR (S:=Sx) un (newD D w w') w' [.sl .str] (sg (u:= .sl .str) (splitS c s)) [.slice (some ⟨w.heap.size,0,none⟩) (splitS c s).length (splitS c s).length]:=by
     refine .sl (t:=sg (u:= .sl .str) (splitS c s)) w.heap.size 0 (splitS c s).length (fun i=>[match (splitS c s)[i]? with | some x=> .string ⟨x.toArray⟩ | none=>undef]) (Nat.le_refl _) (fun i x hi=> ?_) (fun i x hi=> ?_) .nil
     ·intro j v hj
      have hx:(splitS c s)[i]? =some x:=hi
      cases j with
      | zero =>
        simp [hx] at hj
        subst hj
        refine ⟨.inr ⟨by simp,?_⟩,?_⟩
        ·rw [hw];simp
        ·simpa [U.size] using hcell i x hx
      | succ j=>simp at hj
     ·have hx:(splitS c s)[i]? =some x:=hi
      simp only [hx]
      exact .str .nil
    rw [hl2] at key
    exact key
  | [],ha=>simp [e106,injL,RepL] at ha
  | [_],ha=>simp [e106,injL,RepL] at ha
  | _::_::_::_,ha=>simp [e106,injL,RepL] at ha
theorem one_str {D:Dat} {w:World} {x:List UInt8} {cc:List Value} (h:DR (S:=Sx) un D w [.str] (sg (u:= .str) x) cc):cc=[.string ⟨x.toArray⟩]:=by
 cases h with
 | str h'=>cases h';rfl
theorem strs_cells {D:Dat} {w:World} {xs:List (List UInt8)} {v:Value} (hv:DR (S:=Sx) un D w [.sl .str] (sg (u:= .sl .str) xs) [v]) :
  (xs=[]∧∃A c,v= .slice A 0 c)∨(xs≠[]∧∃b off c,v= .slice (some ⟨b,off,none⟩) xs.length c∧xs.length≤c∧∀(j:Nat) (x:List UInt8),xs[j]? =some x→D b (off+j)∧w.cell? ⟨b,off+j,none⟩=some (.string ⟨x.toArray⟩)):=by
 cases hv with
 | sl0 A c h0 h=>exact .inl ⟨h0,A,c,rfl⟩
 | sl b off c cs hc k1 k2 h =>
   by_cases hx:xs=[]
   ·subst hx;exact .inl ⟨rfl,some ⟨b,off,none⟩,c,rfl⟩
   ·refine .inr ⟨hx,b,off,c,rfl,hc,fun j x hj=> ?_⟩
    have e1:=k1 j x hj
    have e2:=one_str (k2 j x hj)
    rw [e2] at e1
    simpa [U.size] using e1 0 _ rfl
theorem join_back {D:Dat} {w:World} (hD:∀k o,D k o→k<w.heap.size) {xs:List (List UInt8)} {sep:List UInt8} {v:Value} (hv:DR (S:=Sx) un D w [.sl .str] (sg (u:= .sl .str) xs) [v]) (h1:xs.length≤1000000) (h2:(Lib.join xs sep).length≤100000000) :
  Calls Tryd.prog 45 #[v,.string ⟨sep.toArray⟩] w fun x w'=>x= .returned (.string ⟨(Lib.join xs sep).toArray⟩)∧Below w.heap.size w w':=by
 rcases strs_cells hv with ⟨rfl,A,c,rfl⟩ | ⟨hx,b,off,c,rfl,hc,hcell⟩
 ·refine (Tryd.strings_Join_none A c ⟨sep.toArray⟩ w).mono ?_
  rintro x w' ⟨rfl,rfl⟩
  exact ⟨rfl,Below.refl _ _⟩
 ·have hb:b<w.heap.size:=by
   obtain ⟨y,ys,rfl⟩:=List.exists_cons_of_ne_nil hx
   exact hD _ _ (hcell 0 y rfl).1
  have hmap:(xs.map fun x=>ByteArray.mk x.toArray).map (·.data.toList)=xs:=by rw [List.map_map];simp [Function.comp_def]
  have hlen:(xs.map fun x=>ByteArray.mk x.toArray).length=xs.length:=by simp
  have:=Tryd.strings_Join b off c (xs.map fun x=>ByteArray.mk x.toArray) ⟨sep.toArray⟩ w (fun j x hj=>by
   rw [List.getElem?_map] at hj
   cases hxj:xs[j]? with
   | none=>rw [hxj] at hj;cases hj
   | some y=>rw [hxj] at hj;cases hj;exact (hcell j y hxj).2) hb (by rw [hlen];omega) (by rw [hlen];exact hc) (by rw [hmap];exact Nat.le_trans h2 (by decide))
  rw [hmap,hlen] at this
  exact this
noncomputable def e45 (_:Orc Sx):Entry Sx:=⟨[.sl .str,.str],[.str],fun t=>bif Nat.ble (List.length (α:=List UInt8) t.1) 1000000&&Nat.ble (Lib.join t.1 t.2.1).length 100000000 then some (Lib.join t.1 t.2.1,()) else none⟩
theorem hok45 (o:Orc Sx) (_:SoundO Tryd.prog un o):Entry.Ok Tryd.prog un 45 (e45 o):=by
 intro t r h D w vs hD ha
 obtain ⟨h1,h2⟩:=bif_some h
 cases h2
 simp only [Bool.and_eq_true,Nat.ble_eq] at h1
 match vs,ha with
 | [v,u],ha =>
   simp only [e45,injL,RepL,inj] at ha
   have hu:=oneStr ha.2.1
   subst hu
   have hv:=ha.1
   simp only [Rep] at hv
   refine (join_back hD hv h1.1 h1.2).mono ?_
   rintro x w' ⟨rfl,hb⟩
   exact ⟨_,rfl,hb,by simp only [e45,injL,one?,inj,Rep]⟩
 | [],ha=>simp [e45,injL,RepL] at ha
 | [_],ha=>simp [e45,injL,RepL] at ha
 | _::_::_::_,ha=>simp [e45,injL,RepL] at ha
end Pe.Tryd
end
section
/- What is known of slices.Delete and slices.Insert of pairs, where the rows are handed over. -/
set_option maxRecDepth 100000
namespace Go.Proofs
open Go.Shelf Go.RowKit Go.Lib
def Tryd.del74_ren:Go.Shelf.Ren:=⟨fun | 45=>74 | n=>n,fun | 22=>22 | 23=>63 | n=>n,fun n=>n⟩
theorem Tryd.del74:Go.Proofs.SlLaysE0.n45 Tryd.prog Tryd.del74_ren:={
 mixed:=by kernel_rfl
 f45:=⟨Tryd.f74.name,by decide,Tryd.func74.trans (congrArg some (by kernel_rfl))⟩
 t0:=Tryd.underlying0
 a0:=Tryd.isAgg0
 z0:=Tryd.sizeOf0
 v0:=Tryd.zeroValue0
 t3:=Tryd.underlying3
 a3:=Tryd.isAgg3
 z3:=Tryd.sizeOf3
 v3:=Tryd.zeroValue3
 t4:=Tryd.underlying4
 a4:=Tryd.isAgg4
 z4:=Tryd.sizeOf4
 v4:=Tryd.zeroValue4
 t22:=Tryd.underlying22
 a22:=Tryd.isAgg22
 z22:=Tryd.sizeOf22
 v22:=Tryd.zeroValue22
}
def Tryd.ins75_ren:Go.Shelf.Ren:=⟨fun | 22=>75 | 29=>111 | 30=>112 | 36=>132 | 17=>150 | n=>n,fun | 24=>22 | 9=>63 | n=>n,fun n=>n⟩
theorem Tryd.ins75:InsLays Tryd.prog Tryd.ins75_ren:={
 mixed:=by kernel_rfl
 f22:=⟨Tryd.f75.name,by decide,Tryd.func75.trans (congrArg some (by kernel_rfl))⟩
 f29:=run_callFunc_extern Tryd.func111 (by kernel_rfl) (by kernel_rfl) (by kernel_rfl) (e:=Extern.SlicesOverlaps.overlaps #[22,22] #[4]) (by kernel_rfl)
 t0:=Tryd.underlying0
 a0:=Tryd.isAgg0
 z0:=Tryd.sizeOf0
 v0:=Tryd.zeroValue0
 t3:=Tryd.underlying3
 a3:=Tryd.isAgg3
 z3:=Tryd.sizeOf3
 v3:=Tryd.zeroValue3
 t4:=Tryd.underlying4
 a4:=Tryd.isAgg4
 z4:=Tryd.sizeOf4
 v4:=Tryd.zeroValue4
 t24:=Tryd.underlying22
 a24:=Tryd.isAgg22
 z24:=Tryd.sizeOf22
 v24:=Tryd.zeroValue22
 z9:=Tryd.sizeOf63
}
end Go.Proofs
namespace Pe.Tryd
open Go Go.Proofs Pe Go.RowKit
theorem elPair:ElOk Tryd.prog un 63 (.st 3):=by
 obtain ⟨T,u,h1,h2,h3⟩:=(row22 _ rfl).slice rfl
 have h4:=Option.some.inj (h2.symm.trans Tryd.underlying22)
 cases h4
 cases h1
 exact h3
def cg74:Sg:=⟨[.one (.wr (.st 3) 63),.one (.fr (.int .i64)),.one (.fr (.int .i64))],[],[.one (.wr (.st 3) 63)],[],0⟩
theorem size3:U.size un (.st 3)=2:=by kernel_rfl
def delSpec (l:List Gt.Pair) (k j:Int):Option ((List Gt.Pair×Unit)⊕Unit):=bif (decide (0≤k)&&decide (j=k+1))&&Nat.blt (Int.toNat k) l.length then some (.inl (l.eraseIdx (Int.toNat k),())) else none
noncomputable def l74 (_:Orc Sx):EntryL Sx:=⟨cg74,fun t=>delSpec t.1 t.2.1 t.2.2.1⟩
theorem splice_take {cs vs:List Value} {off m:Nat} (h:off+vs.length=m) (hm:m≤cs.length):(fillL.spliceV cs off vs).take m=cs.take off++vs:=by
 apply List.ext_getElem?
 intro k
 rw [List.getElem?_take,List.getElem?_append,List.length_take]
 by_cases hk:k<m
 ·rw [if_pos hk,spliceV_get (by omega)]
  by_cases hk2:k<off
  ·rw [if_neg (by omega),if_pos (by omega),List.getElem?_take_of_lt hk2]
  ·rw [if_pos (by omega),if_neg (by omega)]
   congr 1;omega
 ·rw [if_neg hk]
  by_cases hk2:k<min off cs.length
  ·omega
  ·rw [if_neg hk2];symm;rw [List.getElem?_eq_none];omega
theorem splice_low {cs vs:List Value} {off m:Nat} (h:m≤off) (hm:off+vs.length≤cs.length):(fillL.spliceV cs off vs).take m=cs.take m:=by
 apply List.ext_getElem?
 intro k
 rw [List.getElem?_take,List.getElem?_take]
 by_cases hk:k<m
 ·rw [if_pos hk,if_pos hk,spliceV_get hm,if_neg (by omega)]
 ·rw [if_neg hk,if_neg hk]
def eps:Value:= .string ⟨#[]⟩
theorem zeroPair {inf:TypeInfo} {z:Value} (e1:Tryd.prog.info? 63=some inf) (e2:inf.zero=some z) (w:World):z= .agg #[eps,eps]:=by
 have:=Tryd.zeroValue63 w
 simp [zeroValue,typeInfo,e1,e2] at this
 exact this
theorem delete_back {D:Dat} {w:World} {l:List Gt.Pair} {v:Value} {xs:List Value} (hown:w.ownsRow 0 63 2 v l.length xs) (hel:∀(i:Nat) (x:Gt.Pair),l[i]? =some x→DR (S:=Sx) un D w [.st 3] (sg (u:= .st 3) x) ((xs.drop (i*2)).take 2)) {k:Nat} (hk:k<l.length) :
  Calls Tryd.prog 74 #[v,.int .i64 (k:Int),.int .i64 ((k+1:Nat):Int)] w fun e w'=>∃v',e= .returned v'∧w'.ownsRow 0 63 2 v' (l.length - 1) (xs.take (k*2)++xs.drop ((k+1)*2))∧w.grownBy w' v.ownBlock∧v'.ownBlock=v.ownBlock:=by
 obtain ⟨hlen,hh⟩:=hown
 rcases hh with ⟨_,hn⟩ | ⟨g,cap,cur,rfl,_,hgg,hnc,hcm,hcs,htk⟩
 ·omega
 obtain ⟨inf,z,e1,e2,e3,e4,e5,e6⟩:=elPair.info
 rw [size3] at e3 e4 e5
 have hz:=zeroPair e1 e2 w
 subst hz
 generalize hN:l.length=n at *
 obtain ⟨news,hnews⟩:∃news,news=xs.drop ((k+1)*2):=⟨_,rfl⟩
 have hnl:news.length=(n - (k+1))*2:=by rw [hnews,List.length_drop,hlen];omega
 have hcu:n*2≤cur.size:=by rw [hcs];exact Nat.mul_le_mul_right _ hnc
 have hxs:∀q,q<n*2→xs[q]? =cur[q]? :=fun q hq=>by rw [←htk,List.getElem?_take_of_lt hq];simp
 have hcell:∀q,w.drew.cell? ⟨g,q,none⟩=cur[q]? :=fun q=>by
  show w.cell? ⟨g,q,none⟩=_
  simp [World.cell?,hgg]
 have hone:∀u∈xs,u.oneCell'=true:=by
  intro u hu
  obtain ⟨q,hq⟩:=List.getElem?_of_mem hu
  have hql:q<n*2:=by have:=(List.getElem?_eq_some_iff.1 hq).1;omega
  have hqn:q / 2<l.length:=by omega
  refine (hel (q / 2) l[q / 2] (List.getElem?_eq_getElem hqn)).one u (List.mem_of_getElem? (i:=q % 2) ?_)
  rw [List.getElem?_take_of_lt (by omega),List.getElem?_drop,Nat.div_add_mod',hq]
 obtain ⟨W1,hW1⟩:∃W1,W1=w.drew.setCells g (0+k*2) news:=⟨_,rfl⟩
 have hg0:w.drew.heap[g]? =some (.cells cur.toList.toArray 63 (0,0)):=by show w.heap[g]? =_;simpa using hgg
 obtain ⟨a1,a2⟩:=setCells_cells g 63 (0,0) news cur.toList (0+k*2) w.drew hg0
 rw [←hW1] at a1 a2
 obtain ⟨c1,hc1⟩:∃c1,c1=fillL.spliceV cur.toList (0+k*2) news:=⟨_,rfl⟩
 rw [←hc1] at a1
 have hc1l:c1.length=cur.size:=by rw [hc1,spliceV_length];simp
 obtain ⟨b1,b2⟩:=setCells_cells g 63 (0,0) [eps,eps] c1 (0+(k+(n - (k+1)))*2) W1 a1
 have hst:=run_storeCells_cells (P:=Tryd.prog) g (0+(k+(n - (k+1)))*2) [eps,eps] 0 W1 (fun q hq=>by
  have hq:q<2:=hq
  have:W1.cell? ⟨g,0+(k+(n - (k+1)))*2+0+q,none⟩=c1[0+(k+(n - (k+1)))*2+0+q]? :=by simp [World.cell?,a1]
  rw [this,List.getElem?_eq_getElem (by omega)];rfl) (fun q hq=>by simp [World.frozen?,a1]) (fun v hv=>by
  have:v=eps:=by simpa using hv
  subst this;rfl)
 have hzc:(Builtin.zeroCells (Value.agg #[eps,eps]).cells 1).toList=[eps,eps]:=by
  show ((Array.range 2).map fun i=>(#[eps,eps]:Array Value)[i % 2]!).toList=_
  rw [Array.toList_map,Array.toList_range];rfl
 have hcl:∀ty,(Builtin.clear_ #[Tryd.del74_ren.t 22] ty #[.slice (some ⟨g,0+(k+(n - (k+1)))*2,none⟩) (n - (k+(n - (k+1)))) (cap - (k+(n - (k+1))))]).run Tryd.prog W1= .ok (.tuple #[]) (W1.setCells g (0+(k+(n - (k+1)))*2) [eps,eps]):=by
  intro ty
  rw [show n - (k+(n - (k+1)))=0+1 by omega]
  have hu:Tryd.prog.underlying 22=some (.slice 63):=Tryd.underlying22
  show (Builtin.clear_ #[22] ty #[_]).run Tryd.prog W1=_
  simp [Builtin.clear_,run_underlying hu,zeroValue,typeInfo,e1,e2,hzc]
  have hst':=hst
  simp only [Nat.add_zero] at hst'
  rw [show k+(n - (k+1))=n - 1 by omega] at hst' ⊢
  simp at hst' ⊢
  rw [hst'];rfl
 have hdel:=delete_any Tryd.del74 inf _ 2 e1 e2 e3 e4 e5 (fun w=>Tryd.sizeOf63 w) g 0 cap n k (k+1) w W1 news [eps,eps] hnc hcm (by omega) (by omega) hnl (fun t u hu=>by
  rw [hcell,←hu,hnews,List.getElem?_drop]
  have ht:t<(n - (k+1))*2:=by have:=(List.getElem?_eq_some_iff.1 hu).1;omega
  rw [hxs _ (by omega),Nat.zero_add]) (fun u hu=>hone u (by rw [hnews] at hu;exact List.mem_of_mem_drop hu)) (fun t ht=>by
  rw [hcell,Array.getElem?_eq_getElem (by omega)]
  exact ⟨rfl,by show w.frozen? _=false;simp [World.frozen?,hgg]⟩) hW1 hcl
 refine Calls.mono hdel ?_
 rintro x w' ⟨rfl,rfl⟩
 rw [show n - (k+1 - k)=n - 1 by omega]
 refine ⟨_,rfl,⟨?_,.inr ⟨g,cap,_,rfl,Nat.zero_le _,b1,by omega,hcm,?_,?_⟩⟩,?_,rfl⟩
 ·rw [List.length_append,List.length_take,←hnews,hnl];omega
 ·rw [List.size_toArray,spliceV_length,hc1l,hcs]
 ·rw [List.toList_toArray,splice_low (by omega) (by show _+2≤_;omega),hc1,splice_take (by omega) (by simp;omega),hnews,Nat.zero_add]
  congr 1
  rw [←htk,List.take_take,Nat.min_eq_left (by omega)]
 ·refine World.grownBy.trans (World.grownBy.trans (b:=w.drew) ⟨rfl,rfl,rfl,Nat.le_refl _,fun _ _ _=>rfl⟩ a2) b2
theorem hokl74 (o:Orc Sx) (_:SoundO Tryd.prog un o):EntryL.Ok Tryd.prog un 74 (l74 o):=by
 rintro ⟨l,k,j,⟨⟩⟩ r h D w vs H fx _ hin hbx ha
 obtain ⟨h1,h2⟩:=bif_some h
 cases h2
 simp only [Bool.and_eq_true,decide_eq_true_eq,Nat.blt_eq] at h1
 obtain ⟨⟨k0,kj⟩,kl⟩:=h1
 obtain ⟨kn,rfl⟩:∃kn:Nat,k=(kn:Int):=⟨Int.toNat k,(Int.toNat_of_nonneg k0).symm⟩
 have hj:j=((kn+1:Nat):Int):=kj
 subst hj
 have kl:kn<List.length (α:=Gt.Pair) l:=kl
 match H,hbx with
 | [],hbx=>exact hbx.elim
 | _::_::_,hbx=>exact hbx.2.elim
 | [r],hbx =>
   have hr2:=hbx.1
   cases r with
   | box=>simp [BoxRep] at hr2
   | own=>simp [BoxRep] at hr2
   | ref=>simp [BoxRep] at hr2
   | fix=>simp [BoxRep] at hr2
   | wr v0 T' size n xs =>
     simp only [BoxRep] at hr2
     obtain ⟨rfl,hsz,hn,hel⟩:=hr2
     rw [size3] at hsz
     subst hsz
     have hn:n=List.length (α:=Gt.Pair) l:=hn
     subst hn
     have hh:=hin.res _ (List.mem_singleton.2 rfl)
     match vs,ha with
     | [a,b,c],ha =>
       have hv:Rep un _ D w (.row 0) a:=ha.1
       have hb:Rep un _ D w (inj (S:=Sx) (.int .i64) ((kn:Nat):Int)) b:=ha.2.1
       have hc:Rep un _ D w (inj (S:=Sx) (.int .i64) (((kn+1:Nat):Nat):Int)) c:=ha.2.2.1
       simp only [Rep,inj] at hv hb hc
       obtain ⟨hv,_⟩:=hv
       have hv0:v0=a:=by
        simp only [ids,List.map_cons,List.map_nil,List.getElem?_cons_zero,resId,Option.some.injEq,Prod.mk.injEq,true_and] at hv
        exact hv
       subst hv0
       subst hb
       subst hc
       refine (delete_back hh.1 hel kl).mono ?_
       rintro x w' ⟨v',rfl,r1,r2,r4⟩
       obtain ⟨hin2,hge⟩:=wr_turn hin (b:=0) rfl r1 r2 (.inl r4)
       have hlen:=hh.1.1
       refine ⟨D,_,hin2,hge,fun k o hk=> .inl hk,⟨?_,trivial⟩,v',rfl,?_⟩
       ·simp only [BoxRep]
        refine ⟨trivial,size3.symm,?_,?_⟩
        ·show List.length (α:=Gt.Pair) l - 1=List.length (α:=Gt.Pair) (List.eraseIdx l kn)
         have q:=List.length_eraseIdx (α:=Gt.Pair) (l:=l) (i:=kn)
         rw [if_pos kl] at q
         exact q.symm
        ·intro i x hx
         have hx: @Eq (Option Gt.Pair) ((List.eraseIdx (α:=Gt.Pair) l kn)[i]?) (some x):=hx
         have hx:=(List.getElem?_eraseIdx (α:=Gt.Pair) (l:=l) (i:=kn) (j:=i)).symm.trans hx
         have htl:(xs.take (kn*2)).length=kn*2:=by rw [List.length_take];omega
         by_cases hi:i<kn
         ·rw [if_pos hi] at hx
          have:=(hel i x hx).mono hge
          rw [List.drop_append_of_le_length (by omega),List.take_append_of_le_length (by rw [List.length_drop];omega),List.drop_take,List.take_take,Nat.min_eq_left (by omega)]
          exact this
         ·rw [if_neg hi] at hx
          have:=(hel (i+1) x hx).mono hge
          have e9:(xs.take (kn*2)++xs.drop ((kn+1)*2)).drop (i*2)=xs.drop ((i+1)*2):=by
           rw [show i*2=(xs.take (kn*2)).length+(i - kn)*2 by omega,List.drop_append,List.drop_drop]
           rw [List.drop_of_length_le (by omega)]
           simp only [List.nil_append]
           congr 1;omega
          rw [e9];exact this
       ·show Rep un _ D w' (.row 0) v'
        simp only [Rep]
        exact ⟨rfl,own_one r1⟩
     | [],ha=>exact ha.elim
     | [_],ha=>exact ha.2.elim
     | [_,_],ha=>exact ha.2.2.elim
     | _::_::_::_::_,ha=>exact ha.2.2.2.elim
def cg75:Sg:=⟨[.one (.wr (.st 3) 63),.one (.fr (.int .i64)),.one (.fr (.sl (.st 3)))],[],[.one (.wr (.st 3) 63)],[],0⟩
def insSpec (l:List Gt.Pair) (i:Int) (vs:List Gt.Pair):Option ((List Gt.Pair×Unit)⊕Unit) :=
 bif (decide (0≤i)&&Nat.ble (Int.toNat i) l.length)&&(Nat.beq vs.length 1&&Nat.ble l.length 1000000) then some (.inl (l.take (Int.toNat i)++vs++l.drop (Int.toNat i),())) else none
noncomputable def l75 (_:Orc Sx):EntryL Sx:=⟨cg75,fun t=>insSpec t.1 t.2.1 t.2.2.1⟩
theorem ins_len {α:Type} {L:List α} {x:α} {kn:Nat} (hk:kn≤L.length):(L.take kn++[x]++L.drop kn).length=L.length+1:=by
 simp only [List.length_append,List.length_take,List.length_drop,List.length_singleton];omega
theorem ins_lo {α:Type} {L:List α} {x:α} {kn i:Nat} (hk:kn≤L.length) (hi:i<kn):(L.take kn++[x]++L.drop kn)[i]? =L[i]? :=by
 have htk:(L.take kn).length=kn:=by rw [List.length_take];omega
 rw [List.append_assoc,List.getElem?_append_left (by omega),List.getElem?_take_of_lt hi]
theorem ins_mid {α:Type} {L:List α} {x:α} {kn:Nat} (hk:kn≤L.length):(L.take kn++[x]++L.drop kn)[kn]? =some x:=by
 have htk:(L.take kn).length=kn:=by rw [List.length_take];omega
 rw [List.append_assoc,List.getElem?_append_right (by omega),htk,Nat.sub_self];rfl
theorem ins_hi {α:Type} {L:List α} {x:α} {kn i:Nat} (hk:kn≤L.length) (hi:kn<i):(L.take kn++[x]++L.drop kn)[i]? =L[i - 1]? :=by
 have htk:(L.take kn).length=kn:=by rw [List.length_take];omega
 rw [List.getElem?_append_right (by rw [List.length_append,htk];simp;omega),List.length_append,htk,List.getElem?_drop]
 congr 1
 simp;omega
theorem hokl75 (o:Orc Sx) (_:SoundO Tryd.prog un o):EntryL.Ok Tryd.prog un 75 (l75 o):=by
 rintro ⟨l,k,vs0,⟨⟩⟩ r h D w vs H fx _ hin hbx ha
 obtain ⟨h1,h2⟩:=bif_some h
 cases h2
 simp only [Bool.and_eq_true,decide_eq_true_eq,Nat.ble_eq,Nat.beq_eq] at h1
 obtain ⟨⟨k0,kl⟩,hv1,hl6⟩:=h1
 obtain ⟨kn,rfl⟩:∃kn:Nat,k=(kn:Int):=⟨Int.toNat k,(Int.toNat_of_nonneg k0).symm⟩
 have kl:kn≤List.length (α:=Gt.Pair) l:=kl
 obtain ⟨x,hx0⟩:∃x:Gt.Pair,vs0=([x]:List Gt.Pair):=by
  match vs0,hv1 with
  | [x],_=>exact ⟨x,rfl⟩
 subst hx0
 match H,hbx with
 | [],hbx=>exact hbx.elim
 | _::_::_,hbx=>exact hbx.2.elim
 | [r],hbx =>
   have hr2:=hbx.1
   cases r with
   | box=>simp [BoxRep] at hr2
   | own=>simp [BoxRep] at hr2
   | ref=>simp [BoxRep] at hr2
   | fix=>simp [BoxRep] at hr2
   | wr v0 T' size n xs =>
     simp only [BoxRep] at hr2
     obtain ⟨rfl,hsz,hn,hel⟩:=hr2
     rw [size3] at hsz
     subst hsz
     have hn:n=List.length (α:=Gt.Pair) l:=hn
     subst hn
     have hh:=hin.res _ (List.mem_singleton.2 rfl)
     match vs,ha with
     | [a,b,c],ha =>
       have hv:Rep un _ D w (.row 0) a:=ha.1
       have hb:Rep un _ D w (inj (S:=Sx) (.int .i64) ((kn:Nat):Int)) b:=ha.2.1
       have hc:Rep un _ D w (.sl (.st 3) ([x]:List Gt.Pair)) c:=ha.2.2.1
       simp only [Rep,inj] at hv hb
       obtain ⟨hv,_⟩:=hv
       have hv0:v0=a:=by
        simp only [ids,List.map_cons,List.map_nil,List.getElem?_cons_zero,resId,Option.some.injEq,Prod.mk.injEq,true_and] at hv
        exact hv
       subst hv0
       subst hb
       obtain ⟨A,cc,news,rfl,g1,g2,g3,g4,g5⟩:=Rep_src uniOk.flat hc
       obtain ⟨ad,rfl⟩:∃ad,A=some ad:=by
        cases A with
        | none=>exact absurd (g2 rfl) (by simp)
        | some ad=>exact ⟨ad,rfl⟩
       rw [size3] at g1 g4
       have hnl:news.length=2:=g1
       have hD:∃o,D ad.block o:=by
        simp only [Rep] at hc
        cases hc with
        | sl b off c0 cs hc1 q1 q2 q3 =>
          have e1:=q1 0 x rfl
          have e2:=(q2 0 x rfl).length uniOk.flat
          have e3:(cs 0).length=2:=e2.trans (by simp only [sizes,size3])
          exact ⟨_,(e1 0 _ (List.getElem?_eq_getElem (by omega))).1⟩
       obtain ⟨od,hD⟩:=hD
       have hva:∀g,v0.ownBlock=some g→ad.block≠g:=fun g hg he=>by
        subst he
        exact hin.apart _ (List.mem_singleton.2 rfl) ad.block hg od trivial hD
       have hlen:=hh.1.1
       obtain ⟨inf,z,e1,e2,e3,e4,e5,e6⟩:=elPair.info
       rw [size3] at e3 e4
       have hone:∀u∈xs,u.oneCell'=true:=by
        intro u hu
        obtain ⟨q,hq⟩:=List.getElem?_of_mem hu
        have hql:q<List.length (α:=Gt.Pair) l*2:=by have:=(List.getElem?_eq_some_iff.1 hq).1;omega
        have hqn:q / 2<List.length (α:=Gt.Pair) l:=by omega
        refine (hel (q / 2) _ (List.getElem?_eq_getElem (l:=(l:List Gt.Pair)) hqn)).one u (List.mem_of_getElem? (i:=q % 2) ?_)
        rw [List.getElem?_take_of_lt (by omega),List.getElem?_drop,Nat.div_add_mod',hq]
       refine (ins_own (vc:=cc) Tryd.ins75 e1 e2 e3 e4 e6 hh.1 hone (i:=kn) kl hl6 hnl (fun j u hj=>g3 ad rfl j u hj) g5 hva).mono ?_
       rintro y w' ⟨v',rfl,r1,r2,r4⟩
       obtain ⟨hin2,hge⟩:=wr_turn hin (b:=0) rfl r1 r2 r4
       refine ⟨D,_,hin2,hge,fun k o hk=> .inl hk,⟨?_,trivial⟩,v',rfl,?_⟩
       ·simp only [BoxRep]
        refine ⟨trivial,size3.symm,(ins_len (α:=Gt.Pair) kl).symm,?_⟩
        intro i y hi
        have htl:(xs.take (kn*2)).length=kn*2:=by rw [List.length_take];omega
        by_cases h3:i<kn
        ·have:=(hel i y ((ins_lo (α:=Gt.Pair) kl h3).symm.trans hi)).mono hge
         rw [List.append_assoc,List.drop_append_of_le_length (by omega),List.take_append_of_le_length (by rw [List.length_drop];omega),List.drop_take,List.take_take,Nat.min_eq_left (by omega)]
         exact this
        ·by_cases h4:i=kn
         ·subst h4
          have hxy:x=y:=Option.some.inj ((ins_mid (α:=Gt.Pair) kl).symm.trans hi)
          subst hxy
          have:=(g4 0 x rfl).mono hge
          have e8:(xs.take (i*2)++news++xs.drop (i*2)).drop (i*2)=news++xs.drop (i*2):=by
           rw [List.append_assoc,List.drop_append_of_le_length (by omega),List.drop_of_length_le (by omega),List.nil_append]
          rw [e8,List.take_append_of_le_length (by omega)]
          simpa using this
         ·have:=(hel (i - 1) y ((ins_hi (α:=Gt.Pair) kl (by omega)).symm.trans hi)).mono hge
          have e9:(xs.take (kn*2)++news++xs.drop (kn*2)).drop (i*2)=xs.drop ((i - 1)*2):=by
           rw [show i*2=(xs.take (kn*2)++news).length+(i - kn - 1)*2 by rw [List.length_append];omega,List.drop_append,List.drop_drop]
           rw [List.drop_of_length_le (by omega)]
           simp only [List.nil_append]
           congr 1;omega
          rw [e9];exact this
       ·show Rep un _ D w' (.row 0) v'
        simp only [Rep]
        exact ⟨rfl,own_one r1⟩
     | [],ha=>exact ha.elim
     | [_],ha=>exact ha.2.elim
     | [_,_],ha=>exact ha.2.2.elim
     | _::_::_::_::_,ha=>exact ha.2.2.2.elim
end Pe.Tryd
end
section
set_option maxRecDepth 100000
namespace Pe.Tryd
open Go Go.Proofs Pe
noncomputable def tabN (o:Orc Sx):Tr (Entry Sx):=(.node (.node (.node (.node (.node (.node .leaf 7 ⟨[(.st 4),.str,.str,.str],[.bool],fun t=>m7 o t.1 t.2.1 t.2.2.1 t.2.2.2.1⟩ .leaf) 10 ⟨[.str],[(.st 4),(.int .i64),(.int .i64)],fun t=>m10 o t.1⟩ (.node .leaf 12 ⟨[(.st 4),(.st 4)],[.bool],fun t=>m12 o t.1 t.2.1⟩ .leaf)) 13 ⟨[],[.bool],fun _=>m13 o ⟩ (.node (.node .leaf 14 ⟨[(.st 4)],[.str,(.int .i64)],fun t=>m14 o t.1⟩ .leaf) 15 ⟨[(.st 4)],[(.st 4),(.int .i64)],fun t=>m15 o t.1⟩ .leaf)) 16 ⟨[.str],[(.st 2),(.int .i64)],fun t=>m16 o t.1⟩ (.node (.node (.node .leaf 17 ⟨[.str],[(.st 2),(.int .i64)],fun t=>m17 o t.1⟩ .leaf) 20 ⟨[],[(.sl .str)],fun _=>m20 o ⟩ (.node .leaf 21 ⟨[(.st 4)],[(.st 4),(.int .i64)],fun t=>m21 o t.1⟩ .leaf)) 25 ⟨[(.st 4)],[(.int .i64)],fun t=>m25 o t.1⟩ (.node (.node .leaf 26 ⟨[(.st 4)],[(.int .i64)],fun t=>m26 o t.1⟩ .leaf) 27 ⟨[(.st 4),.str],[(.st 4),(.int .i64)],fun t=>m27 o t.1 t.2.1⟩ .leaf))) 28 ⟨[(.st 4),.str],[(.st 4),(.int .i64)],fun t=>m28 o t.1 t.2.1⟩ (.node (.node (.node (.node .leaf 29 ⟨[(.st 4),.str,.str],[(.st 4),(.int .i64)],fun t=>m29 o t.1 t.2.1 t.2.2.1⟩ .leaf) 30 ⟨[(.st 4),.str,.str],[(.st 4),(.int .i64)],fun t=>m30 o t.1 t.2.1 t.2.2.1⟩ (.node .leaf 40 ⟨[(.st 3),(.st 3)],[(.int .i64)],fun t=>m40 o t.1 t.2.1⟩ .leaf)) 41 ⟨[.str,.str],[(.int .i64)],fun t=>m41 o t.1 t.2.1⟩ (.node (.node .leaf 45 (e45 o) .leaf) 50 ⟨[(.st 4)],[(.st 4)],fun t=>m50 o t.1⟩ .leaf)) 51 ⟨[(.sl (.st 3)),(.sl (.st 3))],[.bool],fun t=>m51 o t.1 t.2.1⟩ (.node (.node (.node .leaf 52 ⟨[(.st 4)],[.str],fun t=>m52 o t.1⟩ .leaf) 53 ⟨[.str],[.str],fun t=>m53 o t.1⟩ .leaf) 54 ⟨[.str],[.str],fun t=>m54 o t.1⟩ (.node (.node .leaf 55 ⟨[.str],[(.int .i64)],fun t=>m55 o t.1⟩ .leaf) 56 ⟨[],[(.st 0)],fun _=>m56 o ⟩ .leaf)))) 57 ⟨[.str],[(.int .i64)],fun t=>m57 o t.1⟩ (.node (.node (.node (.node (.node .leaf 58 ⟨[],[(.sl (.st 2))],fun _=>m58 o ⟩ .leaf) 61 ⟨[(.st 4)],[.bool],fun t=>m61 o t.1⟩ (.node .leaf 62 ⟨[(.sl .str),.bool],[.bool],fun t=>m62 o t.1 t.2.1⟩ .leaf)) 63 ⟨[.str],[(.sl .str)],fun t=>m63 o t.1⟩ (.node (.node .leaf 64 (e64 o) .leaf) 65 ⟨[(.sl (.st 3))],[(.int .i64)],fun t=>m65 o t.1⟩ .leaf)) 66 ⟨[.str],[.bool],fun t=>m66 o t.1⟩ (.node (.node (.node .leaf 67 ⟨[(.sl .str)],[.bool],fun t=>m67 o t.1⟩ .leaf) 68 ⟨[.str,.bool],[.bool],fun t=>m68 o t.1 t.2.1⟩ .leaf) 69 (e69 o) (.node (.node .leaf 70 ⟨[.str],[.bool],fun t=>m70 o t.1⟩ .leaf) 71 ⟨[.str],[.bool],fun t=>m71 o t.1⟩ .leaf))) 73 ⟨[(.st 3),.str],[(.int .i64)],fun t=>m73 o t.1 t.2.1⟩ (.node (.node (.node (.node .leaf 92 ⟨[.str],[.bool],fun t=>m92 o t.1⟩ .leaf) 93 ⟨[.str],[.str],fun t=>m93 o t.1⟩ (.node .leaf 94 ⟨[.str],[.str],fun t=>m94 o t.1⟩ .leaf)) 96 ⟨[.str],[.str],fun t=>m96 o t.1⟩ (.node (.node .leaf 101 ⟨[.str],[.str],fun t=>m101 o t.1⟩ .leaf) 102 ⟨[(.int .u8)],[.bool],fun t=>m102 o t.1⟩ .leaf)) 106 (e106 o) (.node (.node (.node .leaf 108 ⟨[.str],[.bool],fun t=>m108 o t.1⟩ .leaf) 109 ⟨[.str],[(.sl .str)],fun t=>m109 o t.1⟩ .leaf) 120 ⟨[(.int .u8)],[(.int .i64)],fun t=>m120 o t.1⟩ (.node (.node .leaf 122 ⟨[(.int .u8),.bool],[.bool],fun t=>m122 o t.1 t.2.1⟩ .leaf) 125 ⟨[(.int .u8)],[.bool],fun t=>m125 o t.1⟩ .leaf)))))
noncomputable def tabE (o:Orc Sx):Tr (EntryE Sx):=(.node (.node (.node .leaf 85 ⟨1,[.bool],[59],[(.st 8)],[.str],[],0,fun c t=>m85 o c t.1⟩ .leaf) 86 ⟨1,[],[59],[(.st 8)],[(.sl .str)],[],0,fun c _=>m86 o c ⟩ (.node .leaf 88 ⟨1,[],[59],[(.st 8)],[.str],[],0,fun c _=>m88 o c ⟩ .leaf)) 89 ⟨1,[],[59],[(.st 8)],[(.st 3)],[],0,fun c _=>m89 o c ⟩ (.node (.node .leaf 90 ⟨1,[(.int .i64)],[59],[(.st 8)],[],[],0,fun c t=>m90 o c t.1⟩ .leaf) 121 ⟨1,[],[59],[(.st 8)],[(.int .u8),.bool],[],0,fun c _=>m121 o c ⟩ .leaf))
noncomputable def tabL (o:Orc Sx):Tr (EntryL Sx):=(.node (.node (.node (.node .leaf 38 ⟨sg38,fun t=>m38 o t.1 t.2.1 t.2.2.1⟩ .leaf) 42 ⟨sg42,fun t=>m42 o t.1⟩ .leaf) 74 (l74 o) (.node .leaf 75 (l75 o) .leaf)) 91 ⟨sg91,fun t=>m91 o t.1 t.2.1⟩ (.node (.node (.node .leaf 123 ⟨sg123,fun t=>m123 o t.1 t.2.1 t.2.2.1⟩ .leaf) 124 ⟨sg124,fun t=>m124 o t.1 t.2.1 t.2.2.1 t.2.2.2.1⟩ .leaf) 142 ⟨sg142,fun t=>m142 o t.1 t.2.1 t.2.2.1 t.2.2.2.1⟩ (.node .leaf 156 ⟨sg156,fun t=>m156 o t.1 t.2.1 t.2.2.1 t.2.2.2.1⟩ .leaf)))
theorem tabN_ok (o:Orc Sx) (h:SoundO Tryd.prog un o):(tabN o).All (Entry.Ok Tryd.prog un):=⟨⟨⟨⟨⟨⟨trivial,ok7 o h,trivial⟩,ok10 o h,⟨trivial,ok12 o h,trivial⟩⟩,ok13 o h,⟨⟨trivial,ok14 o h,trivial⟩,ok15 o h,trivial⟩⟩,ok16 o h,⟨⟨⟨trivial,ok17 o h,trivial⟩,ok20 o h,⟨trivial,ok21 o h,trivial⟩⟩,ok25 o h,⟨⟨trivial,ok26 o h,trivial⟩,ok27 o h,trivial⟩⟩⟩,ok28 o h,⟨⟨⟨⟨trivial,ok29 o h,trivial⟩,ok30 o h,⟨trivial,ok40 o h,trivial⟩⟩,ok41 o h,⟨⟨trivial,hok45 o h,trivial⟩,ok50 o h,trivial⟩⟩,ok51 o h,⟨⟨⟨trivial,ok52 o h,trivial⟩,ok53 o h,trivial⟩,ok54 o h,⟨⟨trivial,ok55 o h,trivial⟩,ok56 o h,trivial⟩⟩⟩⟩,ok57 o h,⟨⟨⟨⟨⟨trivial,ok58 o h,trivial⟩,ok61 o h,⟨trivial,ok62 o h,trivial⟩⟩,ok63 o h,⟨⟨trivial,hok64 o h,trivial⟩,ok65 o h,trivial⟩⟩,ok66 o h,⟨⟨⟨trivial,ok67 o h,trivial⟩,ok68 o h,trivial⟩,hok69 o h,⟨⟨trivial,ok70 o h,trivial⟩,ok71 o h,trivial⟩⟩⟩,ok73 o h,⟨⟨⟨⟨trivial,ok92 o h,trivial⟩,ok93 o h,⟨trivial,ok94 o h,trivial⟩⟩,ok96 o h,⟨⟨trivial,ok101 o h,trivial⟩,ok102 o h,trivial⟩⟩,hok106 o h,⟨⟨⟨trivial,ok108 o h,trivial⟩,ok109 o h,trivial⟩,ok120 o h,⟨⟨trivial,ok122 o h,trivial⟩,ok125 o h,trivial⟩⟩⟩⟩⟩
theorem tabE_ok (o:Orc Sx) (h:SoundO Tryd.prog un o):(tabE o).All (EntryE.Ok Tryd.prog un):=⟨⟨⟨trivial,ok85 o h,trivial⟩,ok86 o h,⟨trivial,ok88 o h,trivial⟩⟩,ok89 o h,⟨⟨trivial,ok90 o h,trivial⟩,ok121 o h,trivial⟩⟩
noncomputable def tabP (o:Orc Sx):Tr (List (EntryP Sx)):=(.node .leaf 39 [e39 o] .leaf)
theorem tabP_ok (o:Orc Sx) (h:SoundO Tryd.prog un o):(tabP o).All (EntryPs.Ok Tryd.prog un):=⟨trivial,fun e he=>(show e=e39 o from List.mem_singleton.1 he)▸hok39 o h,trivial⟩
theorem tabL_ok (o:Orc Sx) (h:SoundO Tryd.prog un o):(tabL o).All (EntryL.Ok Tryd.prog un):=⟨⟨⟨⟨trivial,ok38 o h,trivial⟩,ok42 o h,trivial⟩,hokl74 o h,⟨trivial,hokl75 o h,trivial⟩⟩,ok91 o h,⟨⟨⟨trivial,ok123 o h,trivial⟩,ok124 o h,trivial⟩,ok142 o h,⟨trivial,ok156 o h,trivial⟩⟩⟩
noncomputable def orcN:Nat→Orc Sx
 | 0=>⟨fun _ _ _=>none,fun _ _ _ _ _ _ _ _=>none,fun _ _ _=>none,fun _ _ _ _ _=>none⟩
 | n+1=>orcT (tabN (orcN n)) (tabE (orcN n)) (tabL (orcN n)) (tabP (orcN n))
theorem orcN_sound:∀n,SoundO Tryd.prog un (orcN n)
 | 0=>⟨fun _ _ _ _ h=>(by cases h),fun _ _ _ _ _ _ _ _ _ h=>(by cases h),fun _ _ _ _ h=>(by cases h),fun _ _ _ _ _ _ h=>(by cases h)⟩
 | n+1=>orcT_sound (tabN_ok _ (orcN_sound n)) (tabE_ok _ (orcN_sound n)) (tabL_ok _ (orcN_sound n)) (tabP_ok _ (orcN_sound n))
end Pe.Tryd
end
section
set_option maxRecDepth 100000
namespace Pe.Tryd
open Go Go.Proofs Pe
theorem q7 (n:Nat) (p:Gt.Purl) (version:(List UInt8)) (name:(List UInt8)) (value:(List UInt8)): @Eq (Option (Bool×Unit)) ((orcN (n+1)).d 7 [.st 4 p,.str version,.str name,.str value] [.bool]) (m7 (orcN n) p version name value):=by kernel_rfl
theorem q10 (n:Nat) (s:(List UInt8)): @Eq (Option (Gt.Purl×Int×Int×Unit)) ((orcN (n+1)).d 10 [.str s] [(.st 4),(.int .i64),(.int .i64)]) (m10 (orcN n) s):=by kernel_rfl
theorem q12 (n:Nat) (a:Gt.Purl) (b:Gt.Purl): @Eq (Option (Bool×Unit)) ((orcN (n+1)).d 12 [.st 4 a,.st 4 b] [.bool]) (m12 (orcN n) a b):=by kernel_rfl
theorem q13 (n:Nat)  : @Eq (Option (Bool×Unit)) ((orcN (n+1)).d 13 [] [.bool]) (m13 (orcN n) ):=by kernel_rfl
theorem q14 (n:Nat) (p:Gt.Purl): @Eq (Option (List UInt8×Int×Unit)) ((orcN (n+1)).d 14 [.st 4 p] [.str,(.int .i64)]) (m14 (orcN n) p):=by kernel_rfl
theorem q15 (n:Nat) (p:Gt.Purl): @Eq (Option (Gt.Purl×Int×Unit)) ((orcN (n+1)).d 15 [.st 4 p] [(.st 4),(.int .i64)]) (m15 (orcN n) p):=by kernel_rfl
theorem q16 (n:Nat) (kind:(List UInt8)): @Eq (Option (Gt.KindRule×Int×Unit)) ((orcN (n+1)).d 16 [.str kind] [(.st 2),(.int .i64)]) (m16 (orcN n) kind):=by kernel_rfl
theorem q17 (n:Nat) (kind:(List UInt8)): @Eq (Option (Gt.KindRule×Int×Unit)) ((orcN (n+1)).d 17 [.str kind] [(.st 2),(.int .i64)]) (m17 (orcN n) kind):=by kernel_rfl
theorem q20 (n:Nat)  : @Eq (Option (List (List UInt8)×Unit)) ((orcN (n+1)).d 20 [] [(.sl .str)]) (m20 (orcN n) ):=by kernel_rfl
theorem q21 (n:Nat) (p:Gt.Purl): @Eq (Option (Gt.Purl×Int×Unit)) ((orcN (n+1)).d 21 [.st 4 p] [(.st 4),(.int .i64)]) (m21 (orcN n) p):=by kernel_rfl
theorem q25 (n:Nat) (p:Gt.Purl): @Eq (Option (Int×Unit)) ((orcN (n+1)).d 25 [.st 4 p] [(.int .i64)]) (m25 (orcN n) p):=by kernel_rfl
theorem q26 (n:Nat) (p:Gt.Purl): @Eq (Option (Int×Unit)) ((orcN (n+1)).d 26 [.st 4 p] [(.int .i64)]) (m26 (orcN n) p):=by kernel_rfl
theorem q27 (n:Nat) (p:Gt.Purl) (v:(List UInt8)): @Eq (Option (Gt.Purl×Int×Unit)) ((orcN (n+1)).d 27 [.st 4 p,.str v] [(.st 4),(.int .i64)]) (m27 (orcN n) p v):=by kernel_rfl
theorem q28 (n:Nat) (p:Gt.Purl) (version:(List UInt8)): @Eq (Option (Gt.Purl×Int×Unit)) ((orcN (n+1)).d 28 [.st 4 p,.str version] [(.st 4),(.int .i64)]) (m28 (orcN n) p version):=by kernel_rfl
theorem q29 (n:Nat) (p:Gt.Purl) (name:(List UInt8)) (value:(List UInt8)): @Eq (Option (Gt.Purl×Int×Unit)) ((orcN (n+1)).d 29 [.st 4 p,.str name,.str value] [(.st 4),(.int .i64)]) (m29 (orcN n) p name value):=by kernel_rfl
theorem q30 (n:Nat) (p:Gt.Purl) (name:(List UInt8)) (value:(List UInt8)): @Eq (Option (Gt.Purl×Int×Unit)) ((orcN (n+1)).d 30 [.st 4 p,.str name,.str value] [(.st 4),(.int .i64)]) (m30 (orcN n) p name value):=by kernel_rfl
theorem q38 (n:Nat) (b0_0:List UInt8) (b0_1:Int) (b0_2:Int): @Eq (Option ((List UInt8×Int×Int×List UInt8×List UInt8×List UInt8×List UInt8×List (Gt.Pair)×List UInt8×Unit)⊕(Unit))) ((orcN (n+1)).l 38 sg38 ((b0_0,b0_1,b0_2,()):List UInt8×Int×Int×Unit)) (m38 (orcN n) b0_0 b0_1 b0_2):=by kernel_rfl
theorem q39 (n:Nat) (l:List (Gt.Pair)): @Eq (Option (List (Gt.Pair))) ((orcN (n+1)).p 39 (.st 3) 63 [.func (.func 40) [] []] l) (inl1 (m39 (orcN n) l)):=(show _=opt1 (inl1 (m39 (orcN n) l)) by kernel_rfl).trans (opt1_eq _)
theorem q40 (n:Nat) (a:Gt.Pair) (b:Gt.Pair): @Eq (Option (Int×Unit)) ((orcN (n+1)).d 40 [.st 3 a,.st 3 b] [(.int .i64)]) (m40 (orcN n) a b):=by kernel_rfl
theorem q41 (n:Nat) (x:(List UInt8)) (y:(List UInt8)): @Eq (Option (Int×Unit)) ((orcN (n+1)).d 41 [.str x,.str y] [(.int .i64)]) (m41 (orcN n) x y):=by kernel_rfl
theorem q42 (n:Nat) (p:Gt.Purl): @Eq (Option ((List UInt8×List UInt8×List UInt8×List UInt8×List (Gt.Pair)×List UInt8×Unit)⊕(Unit))) ((orcN (n+1)).l 42 sg42 ((p,()):Gt.Purl×Unit)) (m42 (orcN n) p):=by kernel_rfl
theorem q50 (n:Nat) (p:Gt.Purl): @Eq (Option (Gt.Purl×Unit)) ((orcN (n+1)).d 50 [.st 4 p] [(.st 4)]) (m50 (orcN n) p):=by kernel_rfl
theorem q51 (n:Nat) (s1':(List Gt.Pair)) (s2':(List Gt.Pair)): @Eq (Option (Bool×Unit)) ((orcN (n+1)).d 51 [.sl (.st 3) s1',.sl (.st 3) s2'] [.bool]) (m51 (orcN n) s1' s2'):=by kernel_rfl
theorem q52 (n:Nat) (p:Gt.Purl): @Eq (Option (List UInt8×Unit)) ((orcN (n+1)).d 52 [.st 4 p] [.str]) (m52 (orcN n) p):=by kernel_rfl
theorem q53 (n:Nat) (s:(List UInt8)): @Eq (Option (List UInt8×Unit)) ((orcN (n+1)).d 53 [.str s] [.str]) (m53 (orcN n) s):=by kernel_rfl
theorem q54 (n:Nat) (s:(List UInt8)): @Eq (Option (List UInt8×Unit)) ((orcN (n+1)).d 54 [.str s] [.str]) (m54 (orcN n) s):=by kernel_rfl
theorem q55 (n:Nat) (kind:(List UInt8)): @Eq (Option (Int×Unit)) ((orcN (n+1)).d 55 [.str kind] [(.int .i64)]) (m55 (orcN n) kind):=by kernel_rfl
theorem q56 (n:Nat)  : @Eq (Option (Gt.A5_api_KindRule×Unit)) ((orcN (n+1)).d 56 [] [(.st 0)]) (m56 (orcN n) ):=by kernel_rfl
theorem q57 (n:Nat) (kind:(List UInt8)): @Eq (Option (Int×Unit)) ((orcN (n+1)).d 57 [.str kind] [(.int .i64)]) (m57 (orcN n) kind):=by kernel_rfl
theorem q58 (n:Nat)  : @Eq (Option (List (Gt.KindRule)×Unit)) ((orcN (n+1)).d 58 [] [(.sl (.st 2))]) (m58 (orcN n) ):=by kernel_rfl
theorem q61 (n:Nat) (p:Gt.Purl): @Eq (Option (Bool×Unit)) ((orcN (n+1)).d 61 [.st 4 p] [.bool]) (m61 (orcN n) p):=by kernel_rfl
theorem q62 (n:Nat) (l:(List (List UInt8))) (dots:Bool): @Eq (Option (Bool×Unit)) ((orcN (n+1)).d 62 [.sl .str l,.bool dots] [.bool]) (m62 (orcN n) l dots):=by kernel_rfl
theorem q63 (n:Nat) (s:(List UInt8)): @Eq (Option (List (List UInt8)×Unit)) ((orcN (n+1)).d 63 [.str s] [(.sl .str)]) (m63 (orcN n) s):=by kernel_rfl
theorem q65 (n:Nat) (l:(List Gt.Pair)): @Eq (Option (Int×Unit)) ((orcN (n+1)).d 65 [.sl (.st 3) l] [(.int .i64)]) (m65 (orcN n) l):=by kernel_rfl
theorem q66 (n:Nat) (s:(List UInt8)): @Eq (Option (Bool×Unit)) ((orcN (n+1)).d 66 [.str s] [.bool]) (m66 (orcN n) s):=by kernel_rfl
theorem q67 (n:Nat) (l:(List (List UInt8))): @Eq (Option (Bool×Unit)) ((orcN (n+1)).d 67 [.sl .str l] [.bool]) (m67 (orcN n) l):=by kernel_rfl
theorem q68 (n:Nat) (s:(List UInt8)) (dots:Bool): @Eq (Option (Bool×Unit)) ((orcN (n+1)).d 68 [.str s,.bool dots] [.bool]) (m68 (orcN n) s dots):=by kernel_rfl
theorem q70 (n:Nat) (s:(List UInt8)): @Eq (Option (Bool×Unit)) ((orcN (n+1)).d 70 [.str s] [.bool]) (m70 (orcN n) s):=by kernel_rfl
theorem q71 (n:Nat) (s:(List UInt8)): @Eq (Option (Bool×Unit)) ((orcN (n+1)).d 71 [.str s] [.bool]) (m71 (orcN n) s):=by kernel_rfl
theorem q73 (n:Nat) (q:Gt.Pair) (s:(List UInt8)): @Eq (Option (Int×Unit)) ((orcN (n+1)).d 73 [.st 3 q,.str s] [(.int .i64)]) (m73 (orcN n) q s):=by kernel_rfl
theorem q85 (n:Nat) (rc:Gt.Rdr×Unit) (star:Bool): @Eq (Option (((Gt.Rdr×Unit)×(List UInt8×Unit))⊕(Unit))) ((orcN (n+1)).e 85 [.ptr 0 0,.bool star] [59] [(.st 8)] rc [.str] [] 0) (m85 (orcN n) rc star):=by kernel_rfl
theorem q86 (n:Nat) (rc:Gt.Rdr×Unit): @Eq (Option (((Gt.Rdr×Unit)×(List (List UInt8)×Unit))⊕(Unit))) ((orcN (n+1)).e 86 [.ptr 0 0] [59] [(.st 8)] rc [(.sl .str)] [] 0) (m86 (orcN n) rc):=by kernel_rfl
theorem q88 (n:Nat) (rc:Gt.Rdr×Unit): @Eq (Option (((Gt.Rdr×Unit)×(List UInt8×Unit))⊕(Unit))) ((orcN (n+1)).e 88 [.ptr 0 0] [59] [(.st 8)] rc [.str] [] 0) (m88 (orcN n) rc):=by kernel_rfl
theorem q89 (n:Nat) (rc:Gt.Rdr×Unit): @Eq (Option (((Gt.Rdr×Unit)×(Gt.Pair×Unit))⊕(Unit))) ((orcN (n+1)).e 89 [.ptr 0 0] [59] [(.st 8)] rc [(.st 3)] [] 0) (m89 (orcN n) rc):=by kernel_rfl
theorem q90 (n:Nat) (rc:Gt.Rdr×Unit) (at':Int): @Eq (Option (((Gt.Rdr×Unit)×(Unit))⊕(Unit))) ((orcN (n+1)).e 90 [.ptr 0 0,.int .i64 at'] [59] [(.st 8)] rc [] [] 0) (m90 (orcN n) rc at'):=by kernel_rfl
theorem q91 (nD:Nat) (b0_0:List (Gt.Pair)) (n:Int): @Eq (Option ((List (Gt.Pair)×Unit)⊕(Unit))) ((orcN (nD+1)).l 91 sg91 ((b0_0,n,()):List (Gt.Pair)×Int×Unit)) (m91 (orcN nD) b0_0 n):=by kernel_rfl
theorem q92 (n:Nat) (x:(List UInt8)): @Eq (Option (Bool×Unit)) ((orcN (n+1)).d 92 [.str x] [.bool]) (m92 (orcN n) x):=by kernel_rfl
theorem q93 (n:Nat) (s:(List UInt8)): @Eq (Option (List UInt8×Unit)) ((orcN (n+1)).d 93 [.str s] [.str]) (m93 (orcN n) s):=by kernel_rfl
theorem q94 (n:Nat) (s:(List UInt8)): @Eq (Option (List UInt8×Unit)) ((orcN (n+1)).d 94 [.str s] [.str]) (m94 (orcN n) s):=by kernel_rfl
theorem q96 (n:Nat) (s:(List UInt8)): @Eq (Option (List UInt8×Unit)) ((orcN (n+1)).d 96 [.str s] [.str]) (m96 (orcN n) s):=by kernel_rfl
theorem q101 (n:Nat) (s:(List UInt8)): @Eq (Option (List UInt8×Unit)) ((orcN (n+1)).d 101 [.str s] [.str]) (m101 (orcN n) s):=by kernel_rfl
theorem q102 (n:Nat) (c:Int): @Eq (Option (Bool×Unit)) ((orcN (n+1)).d 102 [.int .u8 c] [.bool]) (m102 (orcN n) c):=by kernel_rfl
theorem q108 (n:Nat) (s:(List UInt8)): @Eq (Option (Bool×Unit)) ((orcN (n+1)).d 108 [.str s] [.bool]) (m108 (orcN n) s):=by kernel_rfl
theorem q109 (n:Nat) (s:(List UInt8)): @Eq (Option (List (List UInt8)×Unit)) ((orcN (n+1)).d 109 [.str s] [(.sl .str)]) (m109 (orcN n) s):=by kernel_rfl
theorem q120 (n:Nat) (c:Int): @Eq (Option (Int×Unit)) ((orcN (n+1)).d 120 [.int .u8 c] [(.int .i64)]) (m120 (orcN n) c):=by kernel_rfl
theorem q121 (n:Nat) (rc:Gt.Rdr×Unit): @Eq (Option (((Gt.Rdr×Unit)×(Int×Bool×Unit))⊕(Unit))) ((orcN (n+1)).e 121 [.ptr 0 0] [59] [(.st 8)] rc [(.int .u8),.bool] [] 0) (m121 (orcN n) rc):=by kernel_rfl
theorem q122 (n:Nat) (c:Int) (first:Bool): @Eq (Option (Bool×Unit)) ((orcN (n+1)).d 122 [.int .u8 c,.bool first] [.bool]) (m122 (orcN n) c first):=by kernel_rfl
theorem q123 (n:Nat) (b0_0:List (Gt.Pair)) (a:Int) (b:Int): @Eq (Option ((List (Gt.Pair)×Unit)⊕(Unit))) ((orcN (n+1)).l 123 sg123 ((b0_0,a,b,()):List (Gt.Pair)×Int×Int×Unit)) (m123 (orcN n) b0_0 a b):=by kernel_rfl
theorem q125 (n:Nat) (c:Int): @Eq (Option (Bool×Unit)) ((orcN (n+1)).d 125 [.int .u8 c] [.bool]) (m125 (orcN n) c):=by kernel_rfl
end Pe.Tryd
end
