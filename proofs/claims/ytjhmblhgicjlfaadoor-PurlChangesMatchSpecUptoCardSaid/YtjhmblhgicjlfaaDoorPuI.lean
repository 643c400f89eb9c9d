/- PROVED HERE: a part of the seat's proofs; see the text that holds the claim's theorem. -/
import Derived.Shelf.Spec.SlicesInsertGrow
import Derived.RowKit
import Derived.Shelf.SlGeneric
import Derived.Maps.AppendAt
import Derived.Maps.Range
import Derived.Shelf.SlLaysE0
import Derived.Shelf.SlicesE.Delete
import Derived.Test.YtjhmblhgicjlfaaDoorPeE
section
/- slices.Insert of elements of two cells into a row: what it does, in three roads. -/
set_option maxRecDepth 100000
namespace Go.Proofs
open Go.Shelf Go.RowKit Go.Lib
variable {P:Program} {ρ:Ren}
structure InsLays (P:Program) (ρ:Ren):Prop where
 mixed:P.follows .mixedOrders=true
 f22:Bears P (ρ.f 22) (Body2.n22 ρ)
 f29:∀(args:Array Value) (w:World),(callFunc (ρ.f 29) args).run P w=((Extern.SlicesOverlaps.overlaps #[ρ.t 24,ρ.t 24] #[ρ.t 4] args).run P w).andThen fun v w'=> .ok (.value v) w'
 t0:P.underlying (ρ.t 0)=some (TypeDesc.tuple #[])
 a0:∀w,(isAgg (ρ.t 0)).run P w= .ok false w
 z0:∀w,(Go.sizeOf (ρ.t 0)).run P w= .ok 1 w
 v0:∀w,(zeroValue (ρ.t 0)).run P w= .ok (Value.tuple #[]) w
 t3:P.underlying (ρ.t 3)=some (TypeDesc.int IntKind.i64)
 a3:∀w,(isAgg (ρ.t 3)).run P w= .ok false w
 z3:∀w,(Go.sizeOf (ρ.t 3)).run P w= .ok 1 w
 v3:∀w,(zeroValue (ρ.t 3)).run P w= .ok (Value.int IntKind.i64 0) w
 t4:P.underlying (ρ.t 4)=some (TypeDesc.bool)
 a4:∀w,(isAgg (ρ.t 4)).run P w= .ok false w
 z4:∀w,(Go.sizeOf (ρ.t 4)).run P w= .ok 1 w
 v4:∀w,(zeroValue (ρ.t 4)).run P w= .ok (Value.bool false) w
 t24:P.underlying (ρ.t 24)=some (TypeDesc.slice (ρ.t 9))
 a24:∀w,(isAgg (ρ.t 24)).run P w= .ok false w
 z24:∀w,(Go.sizeOf (ρ.t 24)).run P w= .ok 1 w
 v24:∀w,(zeroValue (ρ.t 24)).run P w= .ok (Value.slice none 0 0) w
 z9:∀w,(Go.sizeOf (ρ.t 9)).run P w= .ok 2 w
theorem addr_block (a:Addr) (n:Nat):(a.add n).block=a.block:=by unfold Addr.add;split<;>rfl
theorem run_copy_two (w:World) (dT sT ty elem:TypeId) (b o dLen dCap:Nat) (a:Addr) (sLen sCap:Nat) (cs:List Value)
  (hu:P.underlying dT=some (.slice elem)) (hs:(P.info? elem).map (·.size)=some 2) (hn:cs.length=Nat.min sLen dLen*2)
  (hsrc:∀j v,cs[j]? =some v→w.cell? (a.add j)=some v) (hc:∀j,j<cs.length→(w.cell? ⟨b,o+j,none⟩).isSome=true) (hf:∀j,j<cs.length→w.frozen? ⟨b,o+j,none⟩=false) (h1:∀v∈cs,v.oneCell'=true) :
  (Builtin.copy_ #[dT,sT] ty #[.slice (some ⟨b,o,none⟩) dLen dCap,.slice (some a) sLen sCap]).run P w= .ok (goInt (Nat.min sLen dLen)) (w.setCells b o cs):=by
 have hl:=run_loadCells_list (P:=P) w a cs hsrc
 have hst:=run_storeCells_cells (P:=P) b o cs 0 w (by simpa using hc) (by simpa using hf) h1
 cases hq:P.info? elem with
 | none=>simp [hq] at hs
 | some i =>
   have hi:i.size=2:=by simpa [hq] using hs
   simp [Builtin.copy_,run_underlying hu,Builtin.lenOf,Builtin.firstCells,sizeOf,typeInfo,hq,hi,←hn,hl,hst]
theorem run_overlaps_own (w:World) (tS tR e:TypeId) (ht:P.underlying tS=some (.slice e)) (size:Nat) (hz:∀w,(Go.sizeOf e).run P w= .ok size w)
  (a b:Addr) (la ca lb cb:Nat) (hne:a.block≠b.block) {oa:Array Value} {Ta:TypeId} {fa:Nat×Nat} (ha:w.heap[a.block]? =some (.cells oa Ta fa)) {ob:Array Value} {Tb:TypeId} (hb:w.heap[b.block]? =some (.cells ob Tb (0,0))) (h0:ob.size≠0) (h0a:oa.size≠0) :
  (Extern.SlicesOverlaps.overlaps #[tS,tS] #[tR] #[.slice (some a) la ca,.slice (some b) lb cb]).run P w= .ok (.bool false) w:=by
 have hsa:w.shape? a.block=some (Ta,oa.size):=by simp [World.shape?,ha]
 have hsb:w.shape? b.block=some (Tb,ob.size):=by simp [World.shape?,hb]
 have hfb:w.frozen? b=false:=by simp [World.frozen?,hb]
 have hfe:∀k s,w.frozen? ⟨b.block,k,s⟩=false:=fun k s=>by simp [World.frozen?,hb]
 have hnb:(a.block != b.block)=true:=by simpa using hne
 have hnb':(a.block==b.block)=false:=by simpa using hne
 change Sem.run P (α:=Value) (do
  let some t := (#[tS, tS] : Array TypeId)[0]? | stuck "slices.overlaps: no parameter types"
  let .slice elem ← underlying t | stuck "slices.overlaps: slice type expected"
  let size ←sizeOf elem
  match (some a:Option Addr),(some b:Option Addr) with
  | some a,some b =>
    if la=0∨lb=0∨size=0 then pure (Value.bool false)
    else if a.block != b.block&&(←frozen a)&&(←frozen b) then unsupported .addressObserved
    else do
     if a.block != b.block then do
      noView a;noView b
      if ← mayBeOne a b then return Value.bool ((← choose (.extern "sameAddr.stringBytes" 2)) == 1)
     pure (Value.bool (a.block==b.block&&a.off<b.off+lb*size&&b.off<a.off+la*size))
  | _,_=>pure (Value.bool false)) w=_
 by_cases h1:la=0∨lb=0∨size=0
 ·simp [run_underlying ht,hz,h1]
 ·obtain ⟨kB,hk⟩:∃kB,ob.size=kB+1:=⟨ob.size - 1,by omega⟩
  rw [hk] at hsb
  obtain ⟨kA,hka⟩:∃kA,oa.size=kA+1:=⟨oa.size - 1,by omega⟩
  rw [hka] at hsa
  cases hfa:w.frozen? a<;>cases hfe':w.frozen? { block:=a.block,off:=kA+1 } <;>
   simp [run_underlying ht,hz,h1,hnb,hnb',frozen,noView,viewAt,mayBeOne,stringish,shape,Sem.run,hsa,hsb,hfa,hfb,hfe,hfe']
set_option maxHeartbeats 4000000 in
theorem ins_shift (L:InsLays P ρ) (hinf:(P.info? (ρ.t 9)).map (·.size)=some 2) (b off n c i m vc:Nat) (va:Addr) (cs vs:List Value) (w:World) (hi:i<n) (hm:0<m) (hroom:n+m≤c) (hc63:c≤9223372036854775807) (hvb:va.block≠b)
  (hcl:cs.length=n*2) (hvl:vs.length=m*2)
  (hcs:∀j v,cs[j]? =some v→w.cell? ⟨b,off+j,none⟩=some v) (hsp:∀j,j<(n+m)*2→(w.cell? ⟨b,off+j,none⟩).isSome=true) (hfz:∀j,j<(n+m)*2→w.frozen? ⟨b,off+j,none⟩=false)
  (hvs:∀j v,vs[j]? =some v→w.cell? (va.add j)=some v) (h1c:∀v∈cs,v.oneCell'=true) (h1v:∀v∈vs,v.oneCell'=true)
  {oa:Array Value} {Ta:TypeId} {fa:Nat×Nat} (ha:w.heap[va.block]? =some (.cells oa Ta fa)) {ob:Array Value} {Tb:TypeId} (hb:w.heap[b]? =some (.cells ob Tb (0,0))) (h0:ob.size≠0) (h0a:oa.size≠0) :
  Calls P (ρ.f 22) #[.slice (some ⟨b,off,none⟩) n c,.int .i64 i,.slice (some va) m vc] w fun e w' =>
   e= .returned (.slice (some ⟨b,off,none⟩) (n+m) c)∧w'=(w.drew.setCells b (off+(i+m)*2) (cs.drop (i*2))).setCells b (off+i*2) vs:=by
 have t0:=L.t0;have a0:=L.a0;have z0:=L.z0;have v0:=L.v0;have t3:=L.t3;have a3:=L.a3;have z3:=L.z3;have v3:=L.v3;have t4:=L.t4;have a4:=L.a4;have z4:=L.z4;have v4:=L.v4;have z9:=L.z9;have t24:=L.t24;have a24:=L.a24;have z24:=L.z24;have v24:=L.v24
 have u0:=run_underlying L.t0;have u3:=run_underlying L.t3;have u4:=run_underlying L.t4;have u24:=run_underlying L.t24
 have hz1:¬((m:Int)=0):=by omega
 have hz2:¬((i:Int)=(n:Int)):=by omega
 have hov:∀lb cb,(callFunc (ρ.f 29) #[.slice (some va) m vc,.slice (some ⟨b,off+(i+m)*2,none⟩) lb cb]).run P w= .ok (.value (.bool false)) w:=fun lb cb=>by
  rw [L.f29,
   run_overlaps_own w (ρ.t 24) (ρ.t 4) (ρ.t 9) L.t24 2 L.z9 va ⟨b,off+(i+m)*2,none⟩ m vc lb cb hvb ha hb h0 h0a]
  rfl
 have hdl:(cs.drop (i*2)).length=(n - i)*2:=by rw [List.length_drop,hcl];omega
 have mixed:=L.mixed
 have hw1:IntKind.i64.wrap ((i:Int)+(m:Int))=(i:Int)+(m:Int):=by rw [IntKind.wrap_i64];omega
 have hb1:(0:Int)≤(i:Int)+(m:Int):=by omega
 have hin:i≤n:=by omega
 have htn:((i:Int)+(m:Int)).toNat=i+m:=by omega
 have hb2:¬(c=i+m):=by omega
 have hb3:(i:Int)≤(n:Int)+(m:Int):=by omega
 have hb4:¬(c=i):=by omega
 have hmin:Nat.min (n+m - i) (n+m - (i+m))=n - i:=by simp only [Nat.min_def];split<;>omega
 have hcp1:∀ty dc sc,(Builtin.copy_ #[(ρ.t 24),(ρ.t 24)] ty #[.slice (some ⟨b,off+(i+m)*2,none⟩) (n+m - (i+m)) dc,.slice (some ⟨b,off+i*2,none⟩) (n+m - i) sc]).run P w.drew= .ok (goInt ((n - i:Nat))) (w.drew.setCells b (off+(i+m)*2) (cs.drop (i*2))):=fun ty dc sc=>by
  have h:=run_copy_two w.drew _ (ρ.t 24) ty (ρ.t 9) b (off+(i+m)*2) (n+m - (i+m)) dc ⟨b,off+i*2,none⟩ (n+m - i) sc (cs.drop (i*2)) L.t24 hinf (by rw [hdl,hmin])
   (fun j v hj=>by rw [Addr.add_lit,Nat.add_assoc];exact hcs (i*2+j) v (by rwa [List.getElem?_drop] at hj))
   (fun j hj=>by rw [Nat.add_assoc];exact hsp _ (by omega)) (fun j hj=>by rw [Nat.add_assoc];exact hfz _ (by omega)) (fun v hv=>h1c v (List.mem_of_mem_drop hv))
  rwa [hmin] at h
 obtain ⟨W1,hW1⟩:∃W1,W1=w.drew.setCells b (off+(i+m)*2) (cs.drop (i*2)):=⟨_,rfl⟩
 have hsp1:∀k,k<(n+m)*2→(W1.cell? ⟨b,off+k,none⟩).isSome=true:=fun k hk=>by
  rw [hW1]
  exact isSome_setCells b _ _ _ (fun j hj=>by rw [Nat.add_assoc];exact hsp _ (by omega)) _ (hsp k hk)
 have hmin2:Nat.min m (n+m - i)=m:=by simp only [Nat.min_def];split<;>omega
 have hcp2:∀(W:World),(∀x,W.cell? x=W1.cell? x)→(∀x,W.frozen? x=W1.frozen? x)→∀ty dc,(Builtin.copy_ #[(ρ.t 24),(ρ.t 24)] ty #[.slice (some ⟨b,off+i*2,none⟩) (n+m - i) dc,.slice (some va) m vc]).run P W= .ok (goInt m) (W.setCells b (off+i*2) vs):=fun W hWc hWf ty dc=>by
  have h:=run_copy_two W _ (ρ.t 24) ty (ρ.t 9) b (off+i*2) (n+m - i) dc va m vc vs L.t24 hinf (by rw [hvl,hmin2])
   (fun j v hj=>by
    rw [hWc,hW1,World.cell?_setCells_out b _ _ _ (va.add j) (fun h _=>absurd ((addr_block va j).symm.trans h) hvb)]
    exact hvs j v hj)
   (fun j hj=>by rw [hWc,Nat.add_assoc];exact hsp1 _ (by omega)) (fun j hj=>by rw [hWf,hW1,World.frozen?_setCells,Nat.add_assoc];exact hfz _ (by omega)) h1v
  rwa [hmin2] at h
 rw [←hW1] at hcp1
 obtain ⟨_,_,FG⟩:=L.f22
 go_enter FG,Body2.n22_ntmps ρ
 go_wp2_with (simp only [hov])
 go_region_law_o (refine step_copy_runI rfl _ _ (ρ.t 24) (ρ.t 24) rfl _ _ (by simp [Act.eval,Act.put]) (by simp [Act.eval,Act.put]) (hcp1 _ _ _) ?_)
 go_wp2_with (at_builtin;refine wpList_copy_runI _ rfl _ _ (ρ.t 24) (ρ.t 24) rfl _ _ rfl rfl (hcp2 _ (fun _=>rfl) (fun _=>rfl) _ _) ?_)
 go_ret
 first | exact ⟨rfl,rfl⟩ | exact ⟨rfl,by rw [hW1]⟩
set_option maxHeartbeats 4000000 in
theorem ins_grow (L:InsLays P ρ) {i0:TypeInfo} {z:Value} (hi0:P.info? (ρ.t 9)=some i0) (hz0:i0.zero=some z) (hzs:i0.size=2) (hzz:z.cells.size=2) (b off n c i m vc:Nat) (va:Addr) (cs vs:List Value) (w:World) (hi:i<n) (hm:0<m) (hnc:n≤c) (hroom:c<n+m) (hbig:(n+m)*i0.bytes≤140737488355328) (hb63:n+m≤4611686018427387904)
  (hcl:cs.length=n*2) (hvl:vs.length=m*2)
  (hcs:∀j v,cs[j]? =some v→w.cell? ⟨b,off+j,none⟩=some v)
  (hvs:∀j v,vs[j]? =some v→w.cell? (va.add j)=some v) (_:va.block<w.heap.size) (h1c:∀v∈cs,v.oneCell'=true) (h1v:∀v∈vs,v.oneCell'=true) :
  Calls P (ρ.f 22) #[.slice (some ⟨b,off,none⟩) n c,.int .i64 i,.slice (some va) m vc] w fun e w' =>
   e= .returned (.slice (some ⟨w.heap.size,0,none⟩) (n+m) (grownCap w (n+m) c (ρ.t 9))) ∧
   w'=(((w.alloc (.cells ((cs.take (i*2)).toArray++Builtin.zeroCells z.cells (n+m - i)++Builtin.zeroCells z.cells (grownCap w (n+m) c (ρ.t 9) - (n+m))) (ρ.t 9))).drew.setCells w.heap.size (i*2) vs).drew).setCells w.heap.size ((i+m)*2) (cs.drop (i*2)):=by
 have t0:=L.t0;have a0:=L.a0;have z0:=L.z0;have v0:=L.v0;have t3:=L.t3;have a3:=L.a3;have z3:=L.z3;have v3:=L.v3;have t4:=L.t4;have a4:=L.a4;have z4:=L.z4;have v4:=L.v4;have z9:=L.z9;have t24:=L.t24;have a24:=L.a24;have z24:=L.z24;have v24:=L.v24
 have u0:=run_underlying L.t0;have u3:=run_underlying L.t3;have u4:=run_underlying L.t4;have u24:=run_underlying L.t24
 have mixed:=L.mixed
 have hz1:¬((m:Int)=0):=by omega
 have hz2:¬((i:Int)=(n:Int)):=by omega
 have hz3:(c:Int)<(n:Int)+(m:Int):=by omega
 have hsz:(P.info? (ρ.t 9)).map (·.size)=some 2:=by rw [hi0];simp [hzs]
 have hbw:b<w.heap.size:=block_lt_of_cell (hcs 0 _ (List.getElem?_eq_getElem (by omega)))
 have hkk:(n:Int)+(m:Int) - (i:Int)=((n+m - i:Nat):Int):=by omega
 have hik:i+(n+m - i)=n+m:=by omega
 have hold:(Builtin.firstCells i0.size i (.slice (some ⟨b,off,none⟩) i c)).run P w.drew= .ok (cs.take (i*2)).toArray w.drew:=by
  rw [hzs]
  exact run_firstCells_some w.drew 2 i ⟨b,off,none⟩ i c (cs.take (i*2)) (by rw [List.length_take];omega) (fun j v hj=>by
   rw [Addr.add_lit]
   rw [List.getElem?_take] at hj
   split at hj
   ·exact hcs j v hj
   ·cases hj)
 have hle:(n+m - i)*i0.bytes≤281474976710656:=by
  have:(n+m - i)*i0.bytes≤(n+m)*i0.bytes:=Nat.mul_le_mul_right _ (by omega)
  omega
 have hrz:∀ty,(Builtin.append_ #[(ρ.t 24),(ρ.t 3)] ty #[.slice (some ⟨b,off,none⟩) i c,.int .i64 ((n:Int)+(m:Int) - (i:Int))]).run P w =
   .ok (.slice (some ⟨w.heap.size,0,none⟩) (n+m) (grownCap w (n+m) c (ρ.t 9))) (w.drew.alloc (.cells ((cs.take (i*2)).toArray++Builtin.zeroCells z.cells (n+m - i)++Builtin.zeroCells z.cells (grownCap w (n+m) c (ρ.t 9) - (n+m))) (ρ.t 9))):=fun ty=>by
  have h:=Lib.run_append_grow_zeros w (ρ.t 24) (ρ.t 3) ty (ρ.t 9) i0 _ .i64 .i64 L.t24 L.t3 hi0 hz0 (some ⟨b,off,none⟩) i c (cs.take (i*2)) hold (n+m - i) (by omega) (by omega) (by omega) (by omega) hle (by rw [hik];exact growslice_fits hroom hbig)
  rw [hik] at h
  rw [hkk]
  exact h
 have hGn:n+m≤grownCap w (n+m) c (ρ.t 9):=grownCap_ge w _ _ _
 have hG63:grownCap w (n+m) c (ρ.t 9)≤9223372036854775807:=by
  have:=grownCap_le_maxLen w (n+m) c (ρ.t 9) (by unfold maxLen;omega)
  unfold maxLen at this
  omega
 obtain ⟨G,hG⟩:∃G,G=grownCap w (n+m) c (ρ.t 9):=⟨_,rfl⟩
 rw [←hG] at hGn hG63
 obtain ⟨ROW,hROW⟩:∃ROW:Array Value,ROW=(cs.take (i*2)).toArray++Builtin.zeroCells z.cells (n+m - i)++Builtin.zeroCells z.cells (G - (n+m)):=⟨_,rfl⟩
 rw [←hG] at hrz ⊢
 rw [←hROW] at hrz ⊢
 have hRl:(n+m)*2≤ROW.size:=by
  rw [hROW]
  simp only [Array.size_append,List.size_toArray,size_zeroCells,hzz,List.length_take]
  omega
 obtain ⟨W1,hW1⟩:∃W1,W1=w.drew.alloc (.cells ROW (ρ.t 9)):=⟨_,rfl⟩
 rw [←hW1] at hrz
 have hN:∀j,j<(n+m)*2→(W1.cell? ⟨w.heap.size,j,none⟩).isSome=true:=fun j hj=>by
  rw [hW1,World.cell?_alloc_at (w:=w.drew) ROW _ w.heap.size j rfl,Array.getElem?_eq_getElem (by omega)];rfl
 have hNf:∀j,W1.frozen? ⟨w.heap.size,j,none⟩=false:=fun j=>by rw [hW1];exact World.frozen?_alloc_at (w:=w.drew) ROW _ w.heap.size j rfl
 have hOb:∀j v,w.cell? ⟨b,j,none⟩=some v→W1.cell? ⟨b,j,none⟩=some v:=fun j v h=>by rw [hW1,World.cell?_alloc_past (w:=w.drew) _ b j hbw];exact h
 have hOv:∀x v,w.cell? x=some v→W1.cell? x=some v:=fun x v h=>by rw [hW1];exact Lib.cell?_alloc_some (W:=w.drew) _ h
 have hmA:Nat.min m (n+m - i)=m:=by simp only [Nat.min_def];split<;>omega
 have hcpA:∀(W:World),(∀x,W.cell? x=W1.cell? x)→(∀x,W.frozen? x=W1.frozen? x)→∀ty dc,(Builtin.copy_ #[(ρ.t 24),(ρ.t 24)] ty #[.slice (some ⟨w.heap.size,i*2,none⟩) (n+m - i) dc,.slice (some va) m vc]).run P W= .ok (goInt m) (W.setCells w.heap.size (i*2) vs):=fun W hWc hWf ty dc=>by
  have h:=run_copy_two W _ (ρ.t 24) ty (ρ.t 9) w.heap.size (i*2) (n+m - i) dc va m vc vs L.t24 hsz (by rw [hvl,hmA])
   (fun j v hj=>by rw [hWc];exact hOv _ v (hvs j v hj))
   (fun j hj=>by rw [hWc];exact hN _ (by omega)) (fun j hj=>by rw [hWf];exact hNf _) h1v
  rwa [hmA] at h
 have hGi:¬(G=i):=by omega
 have hGim:¬(G=i+m):=by omega
 have hci:¬(c=i):=by omega
 have hbN:b≠w.heap.size:=by omega
 have hdl:(cs.drop (i*2)).length=(n - i)*2:=by rw [List.length_drop,hcl];omega
 have hmB:Nat.min (n - i) (n+m - (i+m))=n - i:=by simp only [Nat.min_def];split<;>omega
 have hcpB:∀(W:World),(∀x,W.cell? x=(W1.setCells w.heap.size (i*2) vs).cell? x)→(∀x,W.frozen? x=(W1.setCells w.heap.size (i*2) vs).frozen? x)→∀ty dc sc,(Builtin.copy_ #[(ρ.t 24),(ρ.t 24)] ty #[.slice (some ⟨w.heap.size,(i+m)*2,none⟩) (n+m - (i+m)) dc,.slice (some ⟨b,off+i*2,none⟩) (n - i) sc]).run P W= .ok (goInt ((n - i:Nat))) (W.setCells w.heap.size ((i+m)*2) (cs.drop (i*2))):=fun W hWc hWf ty dc sc=>by
  have h:=run_copy_two W _ (ρ.t 24) ty (ρ.t 9) w.heap.size ((i+m)*2) (n+m - (i+m)) dc ⟨b,off+i*2,none⟩ (n - i) sc (cs.drop (i*2)) L.t24 hsz (by rw [hdl,hmB])
   (fun j v hj=>by
    rw [Addr.add_lit,hWc,World.cell?_setCells_out _ _ _ _ _ (fun h _=>absurd h hbN),Nat.add_assoc]
    exact hOb _ v (hcs (i*2+j) v (by rwa [List.getElem?_drop] at hj)))
   (fun j hj=>by rw [hWc];exact isSome_setCells _ _ _ _ (fun t ht=>hN _ (by omega)) _ (hN _ (by omega)))
   (fun j hj=>by rw [hWf,World.frozen?_setCells];exact hNf _) (fun v hv=>h1c v (List.mem_of_mem_drop hv))
  rwa [hmB] at h
 subst hW1
 have hE1:∀x,((w.alloc (.cells ROW (ρ.t 9))).drew).cell? x=(w.drew.alloc (.cells ROW (ρ.t 9))).cell? x:=fun x=>rfl
 have hE2:∀x,((w.alloc (.cells ROW (ρ.t 9))).drew).frozen? x=(w.drew.alloc (.cells ROW (ρ.t 9))).frozen? x:=fun x=>rfl
 have hF1:∀x,(((w.alloc (.cells ROW (ρ.t 9))).drew.setCells w.heap.size (i*2) vs).drew).cell? x=((w.drew.alloc (.cells ROW (ρ.t 9))).setCells w.heap.size (i*2) vs).cell? x:=fun x=>rfl
 have hF2:∀x,(((w.alloc (.cells ROW (ρ.t 9))).drew.setCells w.heap.size (i*2) vs).drew).frozen? x=((w.drew.alloc (.cells ROW (ρ.t 9))).setCells w.heap.size (i*2) vs).frozen? x:=fun x=>rfl
 have hw1:IntKind.i64.wrap ((i:Int)+(m:Int))=(i:Int)+(m:Int):=by rw [IntKind.wrap_i64];omega
 have hb1:(0:Int)≤(i:Int)+(m:Int):=by omega
 have hin:i≤n:=by omega
 have htn:((i:Int)+(m:Int)).toNat=i+m:=by omega
 have hb3:(i:Int)≤(n:Int):=by omega
 clear hkk hik hold hROW hG hRl
 obtain ⟨_,_,FG⟩:=L.f22
 go_enter FG,Body2.n22_ntmps ρ
 go_wp2_with (first
  | (at_builtin;refine Lib.wpList_append_run _ rfl _ _ _ _ rfl _ _ rfl rfl _ _ (hrz _) ?_)
  | (at_builtin;refine wpList_copy_runI _ rfl _ _ (ρ.t 24) (ρ.t 24) rfl _ _ rfl rfl (hcpA _ hE1 hE2 _ _) ?_)
  | (at_builtin;refine wpList_copy_runI _ rfl _ _ (ρ.t 24) (ρ.t 24) rfl _ _ rfl rfl (hcpB _ (fun _=>rfl) (fun _=>rfl) _ _ _) ?_))
 go_region_law_o (refine step_copy_runI rfl _ _ (ρ.t 24) (ρ.t 24) rfl (.slice (some ⟨w.heap.size,(i+m)*2,none⟩) (n+m - (i+m)) (G - (i+m))) (.slice (some ⟨b,off+i*2,none⟩) (n - i) (c - i)) (by simp [Act.eval,Act.put]) (by simp [Act.eval,Act.put]) (hcpB _ hF1 hF2 (ρ.t 3) (G - (i+m)) (c - i)) ?_)
 go_wp2
 go_ret
 exact ⟨rfl,rfl⟩
theorem cells_of_cell {w:World} {a:Addr} {v:Value} (h:w.cell? a=some v):∃oa Ta fa,w.heap[a.block]? =some (.cells oa Ta fa)∧oa.size≠0:=by
 unfold World.cell? at h
 split at h
 ·rename_i oa Ta fa hh
  refine ⟨oa,Ta,fa,hh,?_⟩
  intro h0
  have:oa= #[]:=Array.eq_empty_of_size_eq_zero h0
  subst this
  simp at h
 ·cases h
theorem ins_list {c xs vs:List Value} {n i:Nat} (hx:xs.length=n*2) (hv:vs.length=2) (hi:i≤n)
  (h1:∀k,k<i*2→c[k]? =xs[k]?) (h2:∀k,i*2≤k→k<i*2+2→c[k]? =vs[k - i*2]?) (h3:∀k,i*2+2≤k→k<(n+1)*2→c[k]? =xs[k - 2]?) :
  c.take ((n+1)*2)=xs.take (i*2)++vs++xs.drop (i*2):=by
 apply List.ext_getElem?
 intro k
 have hl1:(xs.take (i*2)).length=i*2:=by rw [List.length_take];omega
 have hl2:(xs.take (i*2)++vs).length=i*2+2:=by rw [List.length_append,hl1,hv]
 by_cases hk:k<(n+1)*2
 ·rw [List.getElem?_take_of_lt hk]
  by_cases ha:k<i*2
  ·rw [List.getElem?_append_left (by omega),List.getElem?_append_left (by omega),List.getElem?_take_of_lt ha]
   exact h1 k ha
  ·by_cases hb:k<i*2+2
   ·rw [List.getElem?_append_left (by omega),List.getElem?_append_right (by omega),hl1]
    exact h2 k (by omega) hb
   ·rw [List.getElem?_append_right (by omega),hl2,List.getElem?_drop,h3 k (by omega) hk]
    congr 1;omega
 ·rw [List.getElem?_eq_none (by rw [List.length_take];omega)]
  symm
  rw [List.getElem?_eq_none]
  rw [List.length_append,hl2,List.length_drop];omega
open Pe in
set_option maxHeartbeats 4000000 in
theorem ins_own (L:InsLays P ρ) {i0:TypeInfo} {z:Value} (hi0:P.info? (ρ.t 9)=some i0) (hz0:i0.zero=some z) (hzs:i0.size=2) (hzz:z.cells.size=2) (hby:i0.bytes≤32768) {v:Value} {n:Nat} {xs:List Value} {w:World} (hown:w.ownsRow 0 (ρ.t 9) 2 v n xs) (hone:∀u∈xs,u.oneCell'=true)
  {i vc:Nat} (hi:i≤n) (hn:n≤1000000) {va:Addr} {vs:List Value} (hvl:vs.length=2) (hvs:∀j u,vs[j]? =some u→w.cell? (va.add j)=some u) (h1v:∀u∈vs,u.oneCell'=true) (hva:∀g,v.ownBlock=some g→va.block≠g) :
  Calls P (ρ.f 22) #[v,.int .i64 i,.slice (some va) 1 vc] w fun e w'=>∃v',e= .returned v'∧w'.ownsRow 0 (ρ.t 9) 2 v' (n+1) (xs.take (i*2)++vs++xs.drop (i*2))∧w.grownBy w' v.ownBlock∧(v'.ownBlock=v.ownBlock∨v'.ownBlock=some w.heap.size):=by
 have hbig:(n+1)*i0.bytes≤140737488355328:=by
  have:(n+1)*i0.bytes≤1000001*32768:=Nat.mul_le_mul (by omega) hby
  omega
 obtain ⟨oa,Ta,fa,hoa,hoz⟩:=cells_of_cell (hvs 0 _ (List.getElem?_eq_getElem (by omega)))
 rw [addr_block] at hoa
 have hvw:va.block<w.heap.size:=(Array.getElem?_eq_some_iff.1 hoa).1
 have hxl:=hown.1
 by_cases hin:i=n
 ·subst hin
  obtain ⟨v',w',hr,h1,h2,_,h4⟩:=run_append_own_at (P:=P) (w:=w) 0 (ρ.t 24) (ρ.t 24) (ρ.t 9) i0 z 2 i0.bytes L.t24 hi0 hz0 hzs rfl hzz (by decide) v i xs hown va 1 vc vs (by rw [hvl]) hvs h1v (by unfold maxLen;omega) hbig (Nat.zero_le _)
  have hfin:xs++vs=xs.take (i*2)++vs++xs.drop (i*2):=by
   rw [←hxl,List.take_length,List.drop_length,List.append_nil]
  rw [hfin] at h1
  have hw:Calls P (ρ.f 22) #[v,.int .i64 i,.slice (some va) 1 vc] w fun e w''=>e= .returned v'∧w''=w':=by
   have t0:=L.t0;have a0:=L.a0;have z0:=L.z0;have v0:=L.v0;have t3:=L.t3;have a3:=L.a3;have z3:=L.z3;have v3:=L.v3;have t4:=L.t4;have a4:=L.a4;have z4:=L.z4;have v4:=L.v4;have z9:=L.z9;have t24:=L.t24;have a24:=L.a24;have z24:=L.z24;have v24:=L.v24
   have u0:=run_underlying L.t0;have u3:=run_underlying L.t3;have u4:=run_underlying L.t4;have u24:=run_underlying L.t24
   have mixed:=L.mixed
   have hi63:i≤9223372036854775807:=by omega
   rcases hown.2 with ⟨rfl,rfl⟩ | ⟨g,cap,cur,rfl,hg0,hg,hnc,hcm,hcs,htk⟩
   ·clear h1 h2 h4 hfin hvs h1v hone hva hown hxl
    obtain ⟨_,_,FG⟩:=L.f22
    go_enter FG,Body2.n22_ntmps ρ
    go_wp2_with (at_builtin;refine Lib.wpList_append_run _ rfl _ _ _ _ rfl _ _ rfl rfl _ _ hr ?_)
    go_ret
    exact ⟨rfl,rfl⟩
   ·have hc63:cap≤9223372036854775807:=by unfold maxLen at hcm;omega
    clear h1 h2 h4 hfin hvs h1v hone hva hown hxl
    obtain ⟨_,_,FG⟩:=L.f22
    go_enter FG,Body2.n22_ntmps ρ
    go_wp2_with (at_builtin;refine Lib.wpList_append_run _ rfl _ _ _ _ rfl _ _ rfl rfl _ _ hr ?_)
    all_goals (go_ret;exact ⟨rfl,rfl⟩)
  refine Calls.mono hw ?_
  rintro x w'' ⟨rfl,rfl⟩
  exact ⟨v',rfl,h1,h2,h4⟩
 ·have hi':i<n:=by omega
  rcases hown.2 with ⟨_,hn0⟩ | ⟨g,cap,cur,rfl,hg0,hg,hnc,hcm,hcs,htk⟩
  ·omega
  have hcell:∀q,w.cell? ⟨g,0+q,none⟩=cur.toList[q]? :=fun q=>by simp [World.cell?,hg]
  have hxs:∀q,q<n*2→xs[q]? =cur.toList[q]? :=fun q hq=>by rw [←htk,List.getElem?_take_of_lt hq]
  have hxc:∀j u,xs[j]? =some u→w.cell? ⟨g,0+j,none⟩=some u:=fun j u hj=>by
   have:j<xs.length:=(List.getElem?_eq_some_iff.1 hj).1
   rw [hcell,←hxs j (by omega),hj]
  have hcz:cur.size≠0:=by
   have:n*2≤cap*2:=Nat.mul_le_mul_right _ hnc
   omega
  have hne:va.block≠g:=hva g rfl
  have hg':w.drew.heap[g]? =some (.cells cur.toList.toArray (ρ.t 9) (0,0)):=by show w.heap[g]? =_;simpa using hg
  have hd0:w.grownBy w.drew (some g):=⟨rfl,rfl,rfl,Nat.le_refl _,fun _ _ _=>rfl⟩
  have hdl:(xs.drop (i*2)).length=(n - i)*2:=by rw [List.length_drop,hxl];omega
  by_cases hroom:n+1≤cap
  ·have hcl:(n+1)*2≤cur.toList.length:=by
    have:(n+1)*2≤cap*2:=Nat.mul_le_mul_right _ hroom
    rw [Array.length_toList];omega
   refine Calls.mono (ins_shift L (by rw [hi0];simp [hzs]) g 0 n cap i 1 vc va xs vs w hi' (by decide) hroom (by unfold maxLen at hcm;omega) hne hxl (by rw [hvl]) hxc (fun j hj=>by
    rw [hcell,List.getElem?_eq_getElem (by omega)];rfl) (fun j hj=>by simp [World.frozen?,hg]) hvs hone h1v hoa hg hcz hoz) ?_
   rintro x w' ⟨rfl,rfl⟩
   obtain ⟨a1,a2⟩:=setCells_cells g (ρ.t 9) (0,0) (xs.drop (i*2)) cur.toList (0+(i+1)*2) w.drew hg'
   obtain ⟨b1,b2⟩:=setCells_cells g (ρ.t 9) (0,0) vs _ (0+i*2) _ a1
   have hs1:∀k,(fillL.spliceV cur.toList (0+(i+1)*2) (xs.drop (i*2)))[k]? =if 0+(i+1)*2≤k∧k<0+(i+1)*2+(xs.drop (i*2)).length then (xs.drop (i*2))[k - (0+(i+1)*2)]? else cur.toList[k]? :=fun k=>spliceV_get (by omega) k
   have hs2:∀k,(fillL.spliceV (fillL.spliceV cur.toList (0+(i+1)*2) (xs.drop (i*2))) (0+i*2) vs)[k]? =if 0+i*2≤k∧k<0+i*2+vs.length then vs[k - (0+i*2)]? else (fillL.spliceV cur.toList (0+(i+1)*2) (xs.drop (i*2)))[k]? :=fun k=>spliceV_get (by rw [spliceV_length];omega) k
   refine ⟨_,rfl,⟨?_,.inr ⟨g,cap,_,rfl,Nat.zero_le _,b1,hroom,hcm,?_,?_⟩⟩,(hd0.trans a2).trans b2,.inl rfl⟩
   ·rw [List.length_append,List.length_append,List.length_take,hvl,hdl];omega
   ·rw [List.size_toArray,spliceV_length,spliceV_length,Array.length_toList];exact hcs
   ·rw [List.toList_toArray]
    refine ins_list hxl hvl hi (fun k hk=> ?_) (fun k h1 h2=> ?_) (fun k h1 h2=> ?_)
    ·rw [hs2,if_neg (by omega),hs1,if_neg (by omega),hxs k (by omega)]
    ·rw [hs2,if_pos (by omega),Nat.zero_add]
    ·rw [hs2,if_neg (by omega),hs1,if_pos (by omega),List.getElem?_drop]
     congr 1;omega
  ·refine Calls.mono (ins_grow L hi0 hz0 hzs hzz g 0 n cap i 1 vc va xs vs w hi' (by decide) hnc (by omega) hbig (by omega) hxl (by rw [hvl]) hxc hvs hvw hone h1v) ?_
   rintro x w' ⟨rfl,rfl⟩
   obtain ⟨G,hG⟩:∃G,G=grownCap w (n+1) cap (ρ.t 9):=⟨_,rfl⟩
   have hGn:n+1≤G:=by rw [hG];exact grownCap_ge w _ _ _
   have hGm:G≤maxLen:=by rw [hG];exact grownCap_le_maxLen w (n+1) cap (ρ.t 9) (by unfold maxLen;omega)
   rw [←hG]
   obtain ⟨ROW,hROW⟩:∃ROW:Array Value,ROW=(xs.take (i*2)).toArray++Builtin.zeroCells z.cells (n+1 - i)++Builtin.zeroCells z.cells (G - (n+1)):=⟨_,rfl⟩
   rw [←hROW]
   have hRs:ROW.size=G*2:=by
    rw [hROW]
    simp only [Array.size_append,List.size_toArray,size_zeroCells,hzz,List.length_take,hxl]
    omega
   have hRl:∀k,k<i*2→ROW.toList[k]? =xs[k]? :=fun k hk=>by
    rw [hROW]
    have hl:(xs.take (i*2)).length=i*2:=by rw [List.length_take];omega
    rw [Array.toList_append,Array.toList_append,List.append_assoc,List.getElem?_append_left (by rw [List.toList_toArray];omega),List.toList_toArray,List.getElem?_take_of_lt hk]
   have hA:((w.alloc (.cells ROW (ρ.t 9))).drew).heap[w.heap.size]? =some (.cells ROW.toList.toArray (ρ.t 9) (0,0)):=by
    show (w.heap.push (Obj.cells ROW (ρ.t 9)))[w.heap.size]? =_
    simp
   obtain ⟨a1,a2⟩:=setCells_cells w.heap.size (ρ.t 9) (0,0) vs ROW.toList (i*2) _ hA
   have a1':(((w.alloc (.cells ROW (ρ.t 9))).drew.setCells w.heap.size (i*2) vs).drew).heap[w.heap.size]? =some (.cells (fillL.spliceV ROW.toList (i*2) vs).toArray (ρ.t 9) (0,0)):=a1
   obtain ⟨b1,b2⟩:=setCells_cells w.heap.size (ρ.t 9) (0,0) (xs.drop (i*2)) _ ((i+1)*2) _ a1'
   have hGl:(n+1)*2≤ROW.toList.length:=by
    have:(n+1)*2≤G*2:=Nat.mul_le_mul_right _ hGn
    rw [Array.length_toList];omega
   have hs1:∀k,(fillL.spliceV ROW.toList (i*2) vs)[k]? =if i*2≤k∧k<i*2+vs.length then vs[k - i*2]? else ROW.toList[k]? :=fun k=>spliceV_get (by omega) k
   have hs2:∀k,(fillL.spliceV (fillL.spliceV ROW.toList (i*2) vs) ((i+1)*2) (xs.drop (i*2)))[k]? =if (i+1)*2≤k∧k<(i+1)*2+(xs.drop (i*2)).length then (xs.drop (i*2))[k - (i+1)*2]? else (fillL.spliceV ROW.toList (i*2) vs)[k]? :=fun k=>spliceV_get (by rw [spliceV_length];omega) k
   have g0:w.grownBy ((w.alloc (.cells ROW (ρ.t 9))).drew) (some g):=⟨rfl,rfl,rfl,by simp,fun k hk _=>by show (w.heap.push _)[k]? =_;rw [Array.getElem?_push_lt hk,Array.getElem?_eq_getElem hk]⟩
   have hpush:∀{a b:World},w.heap.size≤a.heap.size→a.grownBy b (some w.heap.size)→w.grownBy a (some g)→w.grownBy b (some g):=fun {a b} _ h2 h1=>h1.andThen h2 (fun j hj=>by simp at hj;exact .inl (by omega))
   refine ⟨_,rfl,⟨?_,.inr ⟨w.heap.size,G,_,rfl,Nat.zero_le _,b1,hGn,hGm,?_,?_⟩⟩,?_,.inr rfl⟩
   ·rw [List.length_append,List.length_append,List.length_take,hvl,hdl];omega
   ·rw [List.size_toArray,spliceV_length,spliceV_length,Array.length_toList];exact hRs
   ·rw [List.toList_toArray]
    refine ins_list hxl hvl hi (fun k hk=> ?_) (fun k h1 h2=> ?_) (fun k h1 h2=> ?_)
    ·rw [hs2,if_neg (by omega),hs1,if_neg (by omega),hRl k hk]
    ·rw [hs2,if_neg (by omega),hs1,if_pos (by omega)]
    ·rw [hs2,if_pos (by omega),List.getElem?_drop]
     congr 1;omega
   ·have e1:=hpush g0.size a2 g0
    exact hpush (b:=_) (a:=((w.alloc (.cells ROW (ρ.t 9))).drew.setCells w.heap.size (i*2) vs).drew) e1.size b2 (e1.trans ⟨rfl,rfl,rfl,Nat.le_refl _,fun _ _ _=>rfl⟩)
end Go.Proofs
end
section
/- slices.Delete of elements of any size, from a row of the call's own. -/
set_option maxRecDepth 100000
namespace Go.Proofs
open Go.Shelf Go.RowKit Go.Lib
variable {P:Program} {ρ:Ren}
set_option maxHeartbeats 4000000 in
theorem delete_any (L:SlLaysE0.n45 P ρ) (i0:TypeInfo) (z:Value) (sz:Nat) (hi0:P.info? (ρ.t 23)=some i0) (_:i0.zero=some z) (hz1:i0.size=sz) (_:z.cells.size=sz) (_:0<sz) (z23:∀w,(Go.sizeOf (ρ.t 23)).run P w= .ok sz w)
  (blk off cap n i j:Nat) (w W1:World) (news zs:List Value) (hcap:n≤cap) (hm:cap≤9223372036854775807) (hij:i<j) (hj:j≤n)
  (hnl:news.length=(n - j)*sz) (hsrc0:∀t u,news[t]? =some u→w.drew.cell? ⟨blk,off+j*sz+t,none⟩=some u) (h1:∀u∈news,u.oneCell'=true)
  (hroom:∀t,t<news.length→(w.drew.cell? ⟨blk,off+i*sz+t,none⟩).isSome=true∧w.drew.frozen? ⟨blk,off+i*sz+t,none⟩=false) (hW0:W1=w.drew.setCells blk (off+i*sz) news)
  (hcl:∀ty,(Builtin.clear_ #[ρ.t 22] ty #[.slice (some ⟨blk,off+(i+(n - j))*sz,none⟩) (n - (i+(n - j))) (cap - (i+(n - j)))]).run P W1= .ok (.tuple #[]) (W1.setCells blk (off+(i+(n - j))*sz) zs)) :
  Calls P (ρ.f 45) #[.slice (some ⟨blk,off,none⟩) n cap,.int .i64 i,.int .i64 j] w fun e w'=>e= .returned (.slice (some ⟨blk,off,none⟩) (n - (j - i)) cap)∧w'=W1.setCells blk (off+(i+(n - j))*sz) zs:=by
 have mixed:=L.mixed;have t0:=L.t0;have a0:=L.a0;have z0:=L.z0;have v0:=L.v0;have t3:=L.t3;have a3:=L.a3;have z3:=L.z3;have v3:=L.v3;have t4:=L.t4;have a4:=L.a4;have z4:=L.z4;have v4:=L.v4;have t22:=L.t22;have a22:=L.a22;have z22:=L.z22;have v22:=L.v22
 have heq:¬i=j:=by omega
 obtain ⟨A,hA,hsrc⟩:∃A:Addr,(if cap=j then some (⟨blk,off,none⟩:Addr) else some ⟨blk,off+j*sz,none⟩)=some A∧Hid (∀t u,news[t]? =some u→w.drew.cell? (A.add t)=some u):=by
  by_cases h:cap=j
  ·refine ⟨⟨blk,off,none⟩,by simp [h],fun t u hu=> ?_⟩
   have h0:news.length=0:=by rw [hnl,show n - j=0 by omega];simp
   rw [List.length_eq_zero_iff.1 h0] at hu
   simp at hu
  ·refine ⟨⟨blk,off+j*sz,none⟩,by simp [h],fun t u hu=> ?_⟩
   rw [Addr.add_lit];exact hsrc0 t u hu
 have s1:Hid (news.length=(n - j)*sz):=hnl
 have s2:Hid (∀u∈news,u.oneCell'=true):=h1
 have s3:Hid (∀t,t<news.length→(w.drew.cell? ⟨blk,off+i*sz+t,none⟩).isSome=true∧w.drew.frozen? ⟨blk,off+i*sz+t,none⟩=false):=hroom
 have hW:Hid (W1=w.drew.setCells blk (off+i*sz) news):=hW0
 have hic:i≤cap:=by omega
 have hjc:j≤cap:=by omega
 clear hW0 hroom h1 hnl hsrc0
 obtain ⟨_,_,FG⟩:=L.f45
 go_enter FG,SlBodyN.n45_ntmps ρ
 go_wp2_with fail
 go_region_law_o (refine step_append_room rfl (.tmp 22) (.tmp 25) (ρ.t 22) rfl (ρ.t 23) i0 sz t22 hi0 hz1 blk off i cap (by simp [Act.eval,Act.put]) A (n - j) (cap - j) news (by simp [Act.eval,Act.put]) s1.out hsrc.out s2.out (by omega) s3.out ?_;rw [←hW.out])
 go_wp2
 go_ret
 refine ⟨by rw [show n - (j - i)=i+(n - j) by omega];rfl,?_⟩
 rfl
end Go.Proofs
end
