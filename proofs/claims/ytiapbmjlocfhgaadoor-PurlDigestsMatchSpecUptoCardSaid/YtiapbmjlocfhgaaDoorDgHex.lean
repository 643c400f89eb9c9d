/- strconv.FormatUint at base 16: the walk. -/
import Derived.Test.YtiapbmjlocfhgaaDoorNm
import Derived.Test.YtiapbmjlocfhgaaDoorProg
import Derived.Lib.ItoaWalk
import Derived.Lib.ItoaMem
import Derived.WalkKit
import Derived.RegionTactic
import Derived.BigCall
import Derived.BigGuard
import Derived.CellFam
import Derived.Shelf.Abstract
import Derived.Handy
import Derived.LoopTactic
import Derived.Lib.TrailingZeros
import Derived.Laws.Bits64b
import Derived.Lib.Itoa
import Derived.Sort.Grow
set_option maxRecDepth 100000
namespace Go.Proofs.YtiapbmjlocfhgaaDoor
open Go Go.RowKit Go.Sort Go.Lib
theorem pow2(w:World):Calls Tryd.prog 66 #[.int .i64 16] w λe w'=>e= .returned (.bool true)/\w'=w:=by
 go_enter Tryd.func66,Tryd.ntmps66
 go_wp2
 go_ret
 exact ⟨rfl,rfl⟩
theorem tz64(w:World)(hT:w.cell? ⟨3,15,none⟩=some (.int .u8 4)):Calls Tryd.prog 81 #[.int .u64 16] w λe w'=>e= .returned (.int .i64 4)/\w'=w:=by
 have key:IntKind.u64.wrap (bits BinOp.and IntKind.u64 16 (IntKind.u64.wrap (-16))*285870213051353865) / 288230376151711744=15:=by decide+kernel
 go_enter Tryd.func81,Tryd.ntmps81
 go_wp2_with (simp only[key])
 go_ret
 exact ⟨rfl,rfl⟩
theorem tz(w:World)(hT:w.cell? ⟨3,15,none⟩=some (.int .u8 4)):Calls Tryd.prog 67 #[.int .u64 16] w λe w'=>e= .returned (.int .i64 4)/\w'=w:=by
 go_enter Tryd.func67,Tryd.ntmps67
 go_wp2_with fail
 go_call tz64 as e w' ⟨he,hb⟩
 subst he hb
 go_wp2
 go_ret
 exact ⟨rfl,rfl⟩
def hx(n:Nat):UInt8:=digits36.data.toList.getD n 0
def zuS:Nat->Nat->Nat
 |0,_=>0|f+1,u=>if u<16 then 0 else 1+zuS f (u / 16)
theorem zu0{f u:Nat}(h:u<16):zuS f u=0:=by cases f<;>simp[zuS,h]
structure HexInv (u m v:Nat) (dk:Array UInt8):Prop where
 size:dk.size=65
 le:m<=15
 rest:v=u / 16 ^ m
 small:v<16 ^ (16 - m)
 left:zuS 16 u=m+zuS (16 - m) v
 done:∀j,j<m->dk[64 - j]! =hx (u / 16 ^ j % 16)
theorem HexInv.start{u:Nat}(h:u<18446744073709551616):HexInv u 0 u (Array.replicate 65 0) where
 size:=by simp
 le:=by omega
 rest:=by simp
 small:=by show u<16 ^ 16;omega
 left:=by simp
 done:=λj h=>by omega
theorem zuU(d:Array UInt8)(i j:Nat)(x:UInt8)(h:i≠j):(d.setIfInBounds i x)[j]! =d[j]! :=by simp only[getElem!_def];rw[Array.getElem?_setIfInBounds_ne h]
theorem HexInv.step{u m v:Nat}{dk:Array UInt8}(h:HexInv u m v dk)(hv:16<=v):HexInv u (m+1) (v / 16) (dk.setIfInBounds (64 - m) (hx (v % 16))):=by
 have hm:m<15:=by
  rcases yA2 m 15 with h1|h1;·exact h1
  ·have:=h.le;obtain rfl:m=15:=by omega
   have:=h.small;omega
 have hl:=h.left;obtain ⟨f,hf⟩:∃f,16 - m=f+1:=⟨15 - m,by omega⟩;refine ⟨by simp[h.size],by omega,?_,?_,?_,?_⟩;·rw[h.rest,Nat.pow_succ,Nat.div_div_eq_div_mul]
 ·have:=h.small;rw[hf,Nat.pow_succ] at this;rw[show 16 - (m+1)=f by omega];omega
 ·rw[hl,hf,show 16 - (m+1)=f by omega];rw[zuS,if_neg (by omega)];omega
 ·intro j hj;by_cases he:j=m;·subst he;rw[Sort.getElem!_set_same _ _ _ (by rw[h.size];omega),h.rest]
  ·rw[zuU _ _ _ _ (by omega),h.done j (by omega)]
def hexL(u:Nat):List UInt8:=(List.range (zuS 16 u+1)).map λj=>hx (u / 16 ^ (zuS 16 u - j) % 16)
theorem HexInv.last{u m v:Nat}{dk:Array UInt8}(h:HexInv u m v dk)(hv:v<16)(j:Nat)(hj:j<(hexL u).length) :
  zuS 16 u=m/\(hexL u)[j]=(dk.setIfInBounds (64 - m) (hx v))[64 - m+j]! :=by
 have hm:zuS 16 u=m:=by rw[h.left,zu0 hv];rfl
 refine ⟨hm,?_⟩;have hj2:j<m+1:=by unfold hexL at hj;rw[yBs,List.length_range,hm] at hj;exact hj
 have hle:=h.le;have e:(hexL u)[j]=hx (u / 16 ^ (zuS 16 u - j) % 16):=by simp[hexL]
 rw[e,hm];by_cases h0:j=0;·subst h0;rw[yBl,Sort.getElem!_set_same _ _ _ (by rw[h.size];omega),Nat.sub_zero,<-h.rest,Nat.mod_eq_of_lt hv]
 ·rw[zuU _ _ _ _ (by omega),show 64 - m+j=64 - (m - j) by omega,h.done (m - j) (by omega)]
theorem zvB(z:Int)(i:Nat)(hz:z=(i:Int))(hi:i<16)(w:World):(Instr.index 9 (.string digits36) (.int .u64 z)).run Tryd.prog w= .ok (.int .u8 ((hx i).toNat:Int)) w:=by
 subst hz;rw[run_index_string w 9 digits36 _ _ Tryd.underlying9,dif_pos ⟨by omega,by rw[digits36_size];omega⟩];have e:((i:Int)).toNat=i:=by omega
 simp only[e];rw[getD_at digits36 i (by rw[digits36_size];omega)];rfl
theorem and15(v:Nat)(h:v<18446744073709551616):bits BinOp.and IntKind.u64 (v:Int) 15=((v % 16:Nat):Int):=by have:=bits_and_u64_nat v 15 h (by omega);rw[show ((15:Nat):Int)=15 from rfl] at this;rw[this,show v &&& 15=v &&& (2 ^ 4 - 1) from rfl,Nat.and_two_pow_sub_one_eq_mod]
theorem fin0(w:World)(o:Obj)(dk:Array UInt8)(k:Nat):∃os,(putRow (λ(b:UInt8)=>Value.int .u8 (b.toNat:Int)) (w.alloc o) w.heap.size 0 dk).drewN k=grow (w.drewN k) os:=by rw[alloc_eq_grow];obtain ⟨os',_,e⟩:=putRow_grow_new (λ(b:UInt8)=>Value.int .u8 (b.toNat:Int)) w #[o] w.heap.size 0 dk (yAj _);exact ⟨os',by rw[e];rfl⟩
theorem bitsT(u:Nat)(hu:u<18446744073709551616)(w:World)(hlt:3<w.heap.size)(hT:w.cell? ⟨3,15,none⟩=some (.int .u8 4)) :
  Calls Tryd.prog 37 #[.slice none 0 0,.int .u64 u,.int .i64 16,.bool false,.bool false] w λe w'=>e= .returned (.tuple #[.slice none 0 0,.string ⟨(hexL u).toArray⟩])/\∃k os,w'=grow (w.drewN k) os:=by
 go_enter Tryd.func37,Tryd.ntmps37
 go_wp2_with fail
 go_call pow2 as e w' ⟨he,hb⟩
 subst he hb
 go_wp2_with fail
 go_call tz as e w' ⟨he,hb⟩
 subst he hb
 go_wp2_with fail
 go_name_bytes DG hDG
 have eDG:DG=Lib.digits36:=by rw[<-hDG];decide+kernel
 subst eDG;clear hDG
 go_name_world W0 hW0
 have hH:Holds (λ(b:UInt8)=>Value.int .u8 (b.toNat:Int)) W0 w.heap.size 0 (Array.replicate 65 (0:UInt8)):=by
  subst hW0;intro j hj;have hj:j<65:=by simpa using hj
  refine ⟨?_,World.frozen?_alloc_new _ _ _ _⟩;rw[World.cell?_alloc_new];have e:Tryd.zeroCells106=Array.replicate 65 (.int .u8 0):=by kernel_rfl
  rw[e,yAH,yBA,if_pos hj,getElem!_pos _ j (by simpa using hj)];simp
 go_loopw [1,13] (λvu vi wr=>∃(m v n:Nat) (dk:Array UInt8),vu= .int .u64 v/\vi= .int .i64 ((65 - m:Nat):Int)/\wr=(putRow (λ(b:UInt8)=>Value.int .u8 (b.toNat:Int)) W0 w.heap.size 0 dk).drewN n/\Hid (HexInv u m v dk)) (λvu _ _=>(RowKit.intOf vu).toNat)
 case atStart=>exact ⟨0,u,0,Array.replicate 65 0,rfl,rfl,(putRow_self _ _ _ _ _ hH).symm,hid (HexInv.start hu)⟩
 case round =>
  obtain ⟨m,v,n,dk,rfl,rfl,hw0,HI⟩:=hrel
  rename World=>W1
  have AH:=hid hH;clear hH;have hs:=HI.out.size;have hle:=HI.out.le;have hv64:v<18446744073709551616:=by have h1:=HI.out.small;have:16 ^ (16 - m)<=16 ^ 16:=Nat.pow_le_pow_right (by decide) (by omega);omega
  have hH1:Holds (λ(b:UInt8)=>Value.int .u8 (b.toNat:Int)) W1 w.heap.size 0 dk:=by rw[hw0];exact holds_putRow _ W0 w.heap.size 0 _ dk AH.out (by rw[hs];simp)
  have hc:=(hH1 (64 - m) (by omega)).1;have hf:=(hH1 (64 - m) (by omega)).2;rw[yAH] at hc hf;clear hH1;have AW:=hid hw0;clear hw0;have hb15:=and15 v hv64;have hix:=zvB ((v % 16:Nat):Int) (v % 16) rfl (Nat.mod_lt _ (by omega));have e65:((65 - m:Nat):Int) - 1=((64 - m:Nat):Int):=by omega
  go_wp2_with (simp only[hb15,e65])
  ·rename_i h16 hds;have hv:16<=v:=by omega
   have hd:digits36[v % 16]'(by rw[digits36_size];omega)=hx (v % 16):=getD_at digits36 _ (by rw[digits36_size];omega);refine ⟨⟨m+1,v / 16,n,dk.setIfInBounds (64 - m) (hx (v % 16)),?_,?_,?_,hid (HI.out.step hv)⟩,?_⟩;·rw[Int.natCast_ediv];rfl
   ·rw[show 65 - (m+1)=64 - m by omega]
   ·rw[AW.out];have:=store1_world W0 w.heap.size 0 dk n (64 - m) (hx (v % 16)) (by omega);rw[yAH] at this;rw[<-this,<-hd]
   ·simp only[RowKit.intOf];omega
  ·rename_i hn;exact absurd ⟨by omega,by rw[digits36_size];omega⟩ hn
  ·rename_i hv16;have hv:v<16:=by omega
   have hdl:∀h:v<(⟨#[48,49,50,51,52,53,54,55,56,57,97,98,99,100,101,102,103,104,105,106,107,108,109,110,111,112,113,114,115,116,117,118,119,120,121,122]⟩:ByteArray).size,(⟨#[48,49,50,51,52,53,54,55,56,57,97,98,99,100,101,102,103,104,105,106,107,108,109,110,111,112,113,114,115,116,117,118,119,120,121,122]⟩:ByteArray)[v]'h=hx v:=by have eD:(⟨#[48,49,50,51,52,53,54,55,56,57,97,98,99,100,101,102,103,104,105,106,107,108,109,110,111,112,113,114,115,116,117,118,119,120,121,122]⟩:ByteArray)=digits36:=(by decide+kernel);rw[eD];exact λh=>getD_at digits36 _ h
   have hal:Tryd.prog.arrayLen 106=65:=(by simp[Program.arrayLen,Tryd.underlying106]);have hsl:∀W,(Instr.sliceAt 106 (.pointer (some ⟨w.heap.size,0,none⟩)) (some (.int .i64 ((64 - m:Nat):Int))) none none).run Tryd.prog W= .ok (.slice (some ⟨w.heap.size,64 - m,none⟩) (m+1) (m+1)) W:=λW=>by
    rw[run_sliceAt_array_l W 106 ⟨w.heap.size,0,none⟩ (by simp[Program.arrayLen,Program.elem,Tryd.underlying106]) .i64 ((64 - m:Nat):Int) (by omega) (by rw[hal];omega)]
    go_simp
    omega
   have hWW:W1.setCell ⟨w.heap.size,64 - m,none⟩ (.int .u8 ((hx v).toNat:Int))=(putRow (λ(b:UInt8)=>Value.int .u8 (b.toNat:Int)) W0 w.heap.size 0 (dk.setIfInBounds (64 - m) (hx v))).drewN n:=(by rw[AW.out];have:=store1_world W0 w.heap.size 0 dk n (64 - m) (hx v) (by omega);rw[yAH] at this;exact this);have hcv:(convert 36 9 (.slice (some ⟨w.heap.size,64 - m,none⟩) (m+1) (m+1))).run Tryd.prog ((putRow (λ(b:UInt8)=>Value.int .u8 (b.toNat:Int)) W0 w.heap.size 0 (dk.setIfInBounds (64 - m) (hx v))).drewN n)= .ok (.string ⟨(hexL u).toArray⟩) ((putRow (λ(b:UInt8)=>Value.int .u8 (b.toNat:Int)) W0 w.heap.size 0 (dk.setIfInBounds (64 - m) (hx v))).drewN n):=by have hlen:(hexL u).length=m+1:=(by have:=(HI.out.last hv 0 (by simp[hexL])).1;simp[hexL,this]);have h:=run_convert_bytes_back (P:=Tryd.prog) ((putRow (λ(b:UInt8)=>Value.int .u8 (b.toNat:Int)) W0 w.heap.size 0 (dk.setIfInBounds (64 - m) (hx v))).drewN n) 36 9 5 ⟨w.heap.size,64 - m,none⟩ (m+1) (hexL u) Tryd.underlying36 Tryd.underlying5 Tryd.underlying9 (λj hj=>by rw[(HI.out.last hv j hj).2,Lib.add_plain,World.cell?_drewN];have:=cell?_putRow (λ(b:UInt8)=>Value.int .u8 (b.toNat:Int)) W0 w.heap.size 0 _ (dk.setIfInBounds (64 - m) (hx v)) AH.out (by simp[hs]) (64 - m+j) (by simp[hs];omega);rw[yAH] at this;exact this);rw[hlen] at h;exact h
   go_wp2_with (first|simp only[e65]|simp only[hdl])
   ·go_ret2
    refine ⟨rfl,?_⟩;obtain ⟨os,eo⟩:=fin0 w (.cells Tryd.zeroCells106 106) (dk.setIfInBounds (64 - m) (hx v)) n;refine ⟨n,os,?_⟩;rw[<-eo,hW0]
theorem fmtI(u:Nat)(hu:u<18446744073709551616)(w:World)(hlt:3<w.heap.size)(hT:w.cell? ⟨3,15,none⟩=some (.int .u8 4)) :
  Calls Tryd.prog 17 #[.int .u64 u,.int .i64 16] w λe w'=>e= .returned (.string ⟨(hexL u).toArray⟩)/\∃k os,w'=grow (w.drewN k) os:=by
 go_enter Tryd.func17,Tryd.ntmps17
 go_wp2_with fail
 go_call bitsT as e w' ⟨he,k,os,hb⟩
 subst he hb
 go_wp2
 go_ret
 exact ⟨rfl,k,os,rfl⟩
theorem fmtU(u:Nat)(hu:u<18446744073709551616)(w:World)(hlt:3<w.heap.size)(hT:w.cell? ⟨3,15,none⟩=some (.int .u8 4)) :
  Calls Tryd.prog 11 #[.int .u64 u,.int .i64 16] w λe w'=>e= .returned (.string ⟨(hexL u).toArray⟩)/\∃k os,w'=grow (w.drewN k) os:=by
 go_enter Tryd.func11,Tryd.ntmps11
 go_wp2_with fail
 go_call fmtI as e w' ⟨he,k,os,hb⟩
 subst he hb
 go_wp2
 go_ret
 exact ⟨rfl,k,os,rfl⟩
end Go.Proofs.YtiapbmjlocfhgaaDoor
