/- PROVED HERE: a part of the seat's proofs; see the text that holds the claim's theorem. -/
import Derived.Test.YtojfjgjdheiffaaGreatDoorNm
import Derived.RangeFuncNested
import Derived.RangeFuncBound
import Derived.RangeFuncCalls
import Derived.RangeFuncLeaves
import Derived.Shelf.Abstract
import Derived.Shelf.RegionOpen
import Derived.WalkKit
import Derived.OwnWalkIn
import Derived.TacticsInMore
import Derived.LoopNIn
import Derived.LoopIn
import Derived.Maps.AppendAt
import Derived.Test.YtojfjgjdheiffaaGreatDoorProg
import Derived.KernelRfl
import Derived.Stop.RegionWithIn
import Derived.Handy
import Derived.Maps.OwnIn
import Derived.Test.YtojfjgjdheiffaaGreatDoorPeA
section
/- The loop of Paths over beginnings: its code, its record. -/
set_option maxRecDepth 100000
namespace Go.Proofs.YtojfjgjdheiffaaGreatDoor
open Go Go.RowKit Go.Shelf
def zyz : Code := ((Code.region 8 #[{ dst := some 14, op := Op.assign (Operand.tmp 35), type := 3, pos := "graph.go:288", after := #[], guard := none }] false).seq (Code.region 9 #[{ dst := some 15, op := Op.assign (Operand.tmp 36), type := 101, pos := "graph.go:288", after := #[], guard := none }] false))
def zyC : Array Oper := #[{ dst := some 42, op := Op.load 44 (Operand.tmp 13), type := 44, pos := "graph.go:295", after := #[], guard := none }, { dst := some 43, op := Op.load 78 (Operand.tmp 10), type := 78, pos := "graph.go:295", after := #[], guard := none }, { dst := some 44, op := Op.move (Operand.tmp 15), type := 101, pos := "graph.go:295", after := #[], guard := none }, { dst := some 45, op := Op.call { callee := Callee.value (Operand.tmp 44), args := #[], argTypes := #[] }, type := 65, pos := "graph.go:295", after := #[{ on := 2, ground := Ground.data }], guard := none }, { dst := some 46, op := Op.call { callee := Callee.value (Operand.func 59), args := #[Operand.tmp 43, Operand.tmp 45], argTypes := #[78, 65] }, type := 26, pos := "graph.go:295", after := #[{ on := 1, ground := Ground.data }, { on := 3, ground := Ground.data }, { on := 3, ground := Ground.chain }], guard := none }, { dst := some 47, op := Op.buildSlice 44 1 #[(0, Operand.tmp 46)], type := 44, pos := "graph.go:295", after := #[{ on := 4, ground := Ground.data }], guard := none }, { dst := some 48, op := Op.call { callee := Callee.builtin Builtin.append, args := #[Operand.tmp 42, Operand.tmp 47], argTypes := #[44, 44] }, type := 44, pos := "graph.go:295", after := #[{ on := 0, ground := Ground.data }, { on := 5, ground := Ground.data }, { on := 4, ground := Ground.chain }], guard := none }, { dst := none, op := Op.store 44 (Operand.tmp 13) (Operand.tmp 48), type := 0, pos := "graph.go:295", after := #[{ on := 6, ground := Ground.data }, { on := 6, ground := Ground.chain }, { on := 0, ground := Ground.phase }, { on := 1, ground := Ground.phase }, { on := 2, ground := Ground.phase }, { on := 3, ground := Ground.phase }, { on := 4, ground := Ground.phase }, { on := 5, ground := Ground.phase }, { on := 6, ground := Ground.phase }], guard := none }]
def zyG : Code := (Code.block 1 (((Code.region 10 #[{ dst := some 37, op := Op.move (Operand.tmp 15), type := 101, pos := "graph.go:289", after := #[], guard := none }, { dst := some 38, op := Op.binOp BinOp.eql 101 (Operand.tmp 37) (Operand.const Value.nilFunc) 101, type := 4, pos := "graph.go:289", after := #[{ on := 0, ground := Ground.data }], guard := none }] false).seq (Code.cond (Operand.tmp 38) ((Code.region 11 #[{ dst := none, op := Op.store 44 (Operand.tmp 8) (Operand.const (Value.slice none 0 0)), type := 0, pos := "graph.go:290", after := #[], guard := none }, { dst := none, op := Op.store 27 (Operand.tmp 9) (Operand.const (Value.int IntKind.i64 12)), type := 0, pos := "graph.go:290", after := #[{ on := 0, ground := Ground.chain }, { on := 0, ground := Ground.phase }], guard := none }] false).seq Code.ret) Code.skip)).seq (((Code.region 12 #[{ dst := some 39, op := Op.move (Operand.tmp 14), type := 3, pos := "graph.go:292", after := #[], guard := none }, { dst := some 40, op := Op.load 3 (Operand.tmp 11), type := 3, pos := "graph.go:292", after := #[], guard := none }, { dst := some 41, op := Op.binOp BinOp.neq 3 (Operand.tmp 39) (Operand.tmp 40) 3, type := 4, pos := "graph.go:292", after := #[{ on := 0, ground := Ground.data }, { on := 1, ground := Ground.data }], guard := none }] false).seq (Code.cond (Operand.tmp 41) (Code.exit 1) Code.skip)).seq ((Code.region 13 zyC true).seq ((Code.region 14 #[{ dst := some 49, op := Op.load 44 (Operand.tmp 13), type := 44, pos := "graph.go:296", after := #[], guard := none }, { dst := some 50, op := Op.call { callee := Callee.builtin Builtin.len, args := #[Operand.tmp 49], argTypes := #[44] }, type := 3, pos := "graph.go:296", after := #[{ on := 0, ground := Ground.data }], guard := none }, { dst := some 51, op := Op.load 3 (Operand.tmp 7), type := 3, pos := "graph.go:296", after := #[], guard := none }, { dst := some 52, op := Op.binOp BinOp.eql 3 (Operand.tmp 50) (Operand.tmp 51) 3, type := 4, pos := "graph.go:296", after := #[{ on := 1, ground := Ground.data }, { on := 2, ground := Ground.data }], guard := none }] false).seq (Code.cond (Operand.tmp 52) (Code.exit 0) Code.skip))))))
def zyx(fn:FuncId)(tm:Array Value)(D:Nat)(st:LoopState)(pend:Option Code):Loop :=
 { state:=st,pending:=pend,fn,tmps:=tm,params:= #[35,36],assign:=zyz,body:=zyG,defers:=D }
theorem zyt(W:World)(l:Nat)(o:Obj):W.grownBy (W.putObj l o) (some l) :=
 ⟨rfl,rfl,rfl,by simp,λk _ hk=>World.putObj_heap_other λe=>hk (by rw[e])⟩
theorem zyq(W:World)(b:Nat)(v:Value):W.grownBy (W.setCell ⟨b,0,none⟩ v) (some b) :=
 ⟨rfl,rfl,rfl,(KeepsWalks.setCell W _ v).size,λk _ hk=>Below.heap_setCell _ _ _ k λe=>hk (by rw[e])⟩
theorem zys{W:World}{base:Nat}{e:TypeId}{size:Nat}{v:Value}{k:Nat}{xs:List Value}(h:W.ownsRow base e size v k xs){j:Nat}{o:Obj}(hj:W.heap[j]?=some o)(hno:∀cur,o≠ .cells cur e (0,0)) :
  v.ownBlock=none\/v.ownBlock≠some j:=by
 rcases h.2 with ⟨rfl,_⟩|⟨g,cap,cur,rfl,_,hgb,_⟩;·exact .inl rfl
 ·refine .inr λe'=>?_;have:g=j:=by simpa[Value.ownBlock] using e'
  subst this;rw[hgb] at hj;cases hj;exact hno cur rfl
theorem zyp{W:World}{B:Nat}{v:Value}{t:TypeId}(h:W.heap[B]?=some (.cells #[v] t (0,0))):W.cell? ⟨B,0,none⟩=some v/\W.frozen? ⟨B,0,none⟩=false:=by constructor<;>simp[World.cell?,World.frozen?,h]
theorem zyr{W:World}{B:Nat}{v:Value}{t:TypeId}(v':Value)(h:W.heap[B]?=some (.cells #[v] t (0,0))):(W.setCell ⟨B,0,none⟩ v').heap[B]?=some (.cells #[v'] t (0,0)):=by obtain ⟨hlt,hk⟩:=yAE.1 h;show (W.heap.modify B _)[B]?=_;rw[yCe (by rw[Array.size_modify];exact hlt),Array.getElem_modify_self,hk];rfl
def zyv(L:List (Int×Int)):List Value:=L.flatMap λx=>[.int .i64 x.1,.int .i64 x.2]
structure PaMem (z s:Nat) (w:World) (most i:Int) (gc:Array Value) (Ba:Nat) (k:Nat) (lv:Value) (L:List (Int×Int)) (ov:Value) (vals:List Value) (W:World):Prop where
 hM:W.heap[z+1]?=some (.cells #[.int .i64 most] 3 (0,0))
 hR1:∃v,W.heap[z+2]?=some (.cells #[v] 44 (0,0))
 hR2:∃v,W.heap[z+3]?=some (.cells #[v] 27 (0,0))
 hG:W.heap[s]?=some (.cells gc 78 (0,0))
 hI:W.heap[s+1]?=some (.cells #[.int .i64 i] 3 (0,0))
 hO:W.heap[s+2]?=some (.cells #[ov] 44 (0,0))
 hK:W.heap[s+3]?=some (.deferred (some []))
 hG2:W.heap[s+5]?=some (.cells gc 78 (0,0))
 hL:W.heap[s+7]?=some (.cells #[lv] 158 (0,0))
 hA:W.heap[Ba]?=some (.cells #[.int .i64 k] 3 (0,0))
 hBa:s+8<=Ba
 rowL:W.ownsRow s 157 2 lv L.length (zyv L)
 rowO:W.ownsRow s 26 1 ov vals.length vals
 below:Below z w W
 zw:w.heap.size=z
 zs:z+4<=s
 sz:s+9<=W.heap.size
end Go.Proofs.YtojfjgjdheiffaaGreatDoor
end
section
/- One round of Paths' loop. -/
set_option maxRecDepth 100000
namespace Go.Proofs.YtojfjgjdheiffaaGreatDoor
open Go Go.RowKit Go.Shelf
attribute [local go_sem] Oper.semAt_some
theorem zyD{W:World}{a:Addr}{v:Value}(o:Obj)(h:W.cell? a=some v):(W.alloc o).cell? a=some v:=cell_kept h (World.grownBy_alloc W o none) λr e=>by cases e
theorem zy5(f:Fn)(a b:Array Value)(W:World):(binOp BinOp.eql 101 (.func f a b) .nilFunc).run Tryz.prog W= .ok (.bool false) W:=by kernel_rfl
theorem zzr(W:World):(binOp BinOp.eql 101 .nilFunc .nilFunc).run Tryz.prog W= .ok (.bool true) W:=by kernel_rfl
theorem zyY{A B C:World}{row:Option Nat}(h:A.grownBy B row)(k:B.grownBy C row):A.grownBy C row :=
 ⟨k.os.trans h.os,k.tape.trans h.tape,k.output.trans h.output,yAo h.size k.size,λj hj hr=>(k.block j (yAq hj h.size) hr).trans (h.block j hj hr)⟩
section
variable{z s:Nat}{w:World}{most i:Int}{gc:Array Value}{Ba k:Nat}{lv:Value}{L:List (Int×Int)}{ov:Value}{vals:List Value}{W:World}
variable(x:Nat->Value)
def paT(z s:Nat)(x:Nat->Value):Array Value:= #[x 0,x 1,x 2,x 3,.pointer (some ⟨z,0,none⟩),undef,undef,.pointer (some ⟨z+1,0,none⟩),.pointer (some ⟨z+1+1,0,none⟩),.pointer (some ⟨z+1+1+1,0,none⟩),.pointer (some ⟨s,0,none⟩),.pointer (some ⟨s+1,0,none⟩),x 12,.pointer (some ⟨s+1+1,0,none⟩),undef,undef,x 16,x 17,x 18,x 19,x 20,x 21,x 22,x 23,x 24,x 25,x 26,x 27,x 28,x 29,x 30,x 31,x 32,x 33,x 34,undef,undef,undef,undef,undef,undef,undef,undef,undef,undef,undef,undef,undef,undef,undef,undef,undef,undef,undef]
theorem PaMem.recd(h:PaMem z s w most i gc Ba k lv L ov vals W){o:Obj}(o':Obj)(hl:W.heap[s+4]?=some o)(ho:∀cur e,o≠ .cells cur e (0,0))(hBa:Ba≠s+4):PaMem z s w most i gc Ba k lv L ov vals (W.putObj (s+4) o'):=by
 have hz:=h.zs;have hb:=h.hBa;have hg:=zyt W (s+4) o';have other:∀{j:Nat}{x:Obj},j≠s+4->W.heap[j]?=some x->(W.putObj (s+4) o').heap[j]?=some x:=λhj hx=>(World.putObj_heap_other hj).trans hx
 exact ⟨other (by omega) h.hM,h.hR1.imp λ_ hx=>other (by omega) hx,h.hR2.imp λ_ hx=>other (by omega) hx,other (by omega) h.hG,other (by omega) h.hI,other (by omega) h.hO,other (by omega) h.hK,other (by omega) h.hG2,other (by omega) h.hL,other (by omega) h.hA,h.hBa,
  h.rowL.kept hg (zys h.rowL hl λcur=>ho cur _),h.rowO.kept hg (zys h.rowO hl λcur=>ho cur _),h.below.grown hg (by have:=h.below.size;have:=h.zw;omega) (λk e=>by cases e;omega),h.zw,h.zs,by have:=h.sz;simpa[World.putObj] using this⟩
set_option maxHeartbeats 2000000 in
theorem paOn(m:Nat)(fn:FuncId)(last:Int)(hne:last≠i)(h:PaMem z s w most i gc Ba k lv L ov vals W)(hl:W.heap[s+4]?=some (.loop (zyx fn (paT z s x) (s+3) .ready none))) :
  YieldAt Fence.wide m Tryz.prog (s+4) #[.int .i64 last,.func (.func 114) #[] #[.pointer (some ⟨s+7,0,none⟩),.pointer (some ⟨Ba,0,none⟩)]] W λe W' =>
   e= .returned (.bool true)/\PaMem z s w most i gc Ba k lv L ov vals W'/\W'.heap[s+4]?=some (.loop (zyx fn (paT z s x) (s+3) .ready none))/\W.grownBy W' (some (s+4)):=by
 have hBa:Ba≠s+4:=by have:=h.hBa;omega
 have hlt:s+4<W.heap.size:=(yAE.1 hl).1;refine ⟨fn,_,zyz,zyG,by simpa[zyx] using run_yield (P:=Tryz.prog) (args:= #[.int .i64 last,.func (.func 114) #[] #[.pointer (some ⟨s+7,0,none⟩),.pointer (some ⟨Ba,0,none⟩)]]) hl rfl,roundIn_of_wpIn trivial ?_⟩;have hbr:=run_beginRound (P:=Tryz.prog) hl rfl;obtain ⟨W2,hW2⟩:∃W2,W.putObj (s+4) (.loop { zyx fn (paT z s x) (s+3) .ready none with state:= .busy })=W2:=⟨_,rfl⟩;rw[hW2] at hbr;have h2:PaMem z s w most i gc Ba k lv L ov vals W2:=by rw[<-hW2];exact PaMem.recd h _ hl (λ_ _ e=>by cases e) hBa
 have hL2:W2.heap[s+4]?=some (.loop { zyx fn (paT z s x) (s+3) .ready none with state:= .busy }):=by rw[<-hW2];exact World.putObj_heap_same hlt
 have hg2:W.grownBy W2 (some (s+4)):=by rw[<-hW2];exact zyt _ _ _
 obtain ⟨cI,fI⟩:=zyp h2.hI;have hef:=zy5 (.func 114) #[] #[.pointer (some ⟨s+7,0,none⟩),.pointer (some ⟨Ba,0,none⟩)];clear hW2;unfold zyz paT
 gi_wp2_with (rw[Oper.semAt_eq _ _ _ λc h=>by cases h];go_simp;try go_bits)
 unfold zyG
 gi_wp2_with (rw[Oper.semAt_eq _ _ _ λc h=>by cases h];go_simp;try go_bits)
 refine ⟨_,_,run_endRound none hL2,rfl,PaMem.recd h2 _ hL2 (λ_ _ e=>by cases e) hBa,World.putObj_heap_same (yAE.1 hL2).1,?_⟩;exact zyY hg2 (zyt _ _ _)
theorem pa114{R:Ending->World->Prop}(hL:W.cell? ⟨s+7,0,none⟩=some lv)(hA:W.cell? ⟨Ba,0,none⟩=some (.int .i64 k))(h:Calls Tryz.prog 115 #[lv,.int .i64 k] W R)(hR:∀e W',R e W'->∃v,e= .returned v) :
  Calls Tryz.prog 114 #[.pointer (some ⟨s+7,0,none⟩),.pointer (some ⟨Ba,0,none⟩)] W R:=by
 go_enter Tryz.func114,Tryz.ntmps114
 go_wp2_with fail
 refine h.mono ?_;intro e W' hr;obtain ⟨v,rfl⟩:=hR _ _ hr
 go_wp2_with fail
 first
  |(go_ret;exact hr)
  |exact hr
theorem zzx:(Tryz.prog.info? 26).map (λi=>(i.zero,i.size,i.bytes))=some (some (.slice none 0 0),1,24):=by kernel_rfl
theorem World.grownBy_refl'(A:World):A.grownBy A none:=⟨rfl,rfl,rfl,yAi _,λ_ _ _=>rfl⟩
theorem zyE{A B:World}{row:Option Nat}(h:A.grownBy B row):A.grownBy B.drew row:=⟨h.os,h.tape,h.output,h.size,h.block⟩
theorem zyV{A B:World}(h:Below A.heap.size A B)(row:Option Nat):A.grownBy B row:=⟨h.os,h.tape,h.output,h.size,λk hk _=>h.block k hk⟩
theorem zyB{A B:World}{base:Nat}{e:TypeId}{size:Nat}{v:Value}{k:Nat}{xs:List Value}(h:A.ownsRow base e size v k xs)(hb:Below A.heap.size A B):B.ownsRow base e size v k xs:=h.kept (zyV hb none) (Classical.em _)
theorem zzs{Y:World}{s:Nat}{ov:Value}{vals:List Value}(h:Y.ownsRow s 26 1 ov vals.length vals)(hl:vals.length<1000)(hs:s<=Y.heap.size)(A:Option Addr)(rn rc:Nat) :
  ∃g' cap' w',(Builtin.append_ #[44,44] 44 #[ov,.slice (some ⟨Y.heap.size,0,none⟩) 1 1]).run Tryz.prog (Y.alloc (Obj.cells #[.slice A rn rc] 26))= .ok (.slice (some ⟨g',0,none⟩) (vals.length+1) cap') w'/\w'.ownsRow s 26 1 (.slice (some ⟨g',0,none⟩) (vals.length+1) cap') (vals.length+1) (vals++[.slice A rn rc])/\(Y.alloc (Obj.cells #[.slice A rn rc] 26)).grownBy w' ov.ownBlock/\((Value.slice (some ⟨g',0,none⟩) (vals.length+1) cap').ownBlock=ov.ownBlock\/(Value.slice (some ⟨g',0,none⟩) (vals.length+1) cap').ownBlock=some (Y.heap.size+1)):=by
 obtain ⟨i0,hi,hz0,hz1,hz2⟩:=info_parts zzx;obtain ⟨v',w',h1,h2,h3,_,h4⟩:=run_append_own_at (P:=Tryz.prog) (w:=Y.alloc (Obj.cells #[.slice A rn rc] 26)) s 44 44 26 i0 (.slice none 0 0) 1 24 Tryz.underlying44 hi hz0 hz1 hz2 rfl (by decide) ov vals.length vals (h.alloc _) ⟨Y.heap.size,0,none⟩ 1 1 [.slice A rn rc] rfl (cell_one_new _ _ _) (by simp[Value.oneCell']) (by simp[maxLen];omega) (by omega) (by simp;omega);obtain ⟨g',cap',cur',rfl,_⟩:∃g' cap' cur',v'= .slice (some ⟨g',0,none⟩) (vals.length+1) cap'/\cur'=cap':=by
  rcases h2.2 with ⟨_,h0⟩|⟨g',cap',_,e,_⟩;·exact absurd h0 (by omega)
  ·exact ⟨g',cap',cap',e,rfl⟩
 exact ⟨g',cap',w',h1,h2,h3,by simpa using h4⟩
theorem zyu{A B:World}{b o:Nat}(h:B.heap[b]?=A.heap[b]?):B.cell? ⟨b,o,none⟩=A.cell? ⟨b,o,none⟩:=by simp[World.cell?,h]
end
end Go.Proofs.YtojfjgjdheiffaaGreatDoor
end
section
/- The region of Paths' loop that takes one path more: in whatever order its operations come. -/
set_option maxRecDepth 100000
namespace Go.Proofs.YtojfjgjdheiffaaGreatDoor
open Go Go.RowKit Go.Shelf
attribute [local go_sem] Oper.semAt_some
def paC(s Ba:Nat):Value:= .func (.func 114) #[] #[.pointer (some ⟨s+7,0,none⟩),.pointer (some ⟨Ba,0,none⟩)]
def paA(z s Ba:Nat)(x:Nat->Value)(y14 y35 y36 y37 y38 y39 y40 y41 t42 t43 t44 t45 t46 t47 t48:Value):Act:={ tmps:= #[x 0,x 1,x 2,x 3,.pointer (some ⟨z,0,none⟩),undef,undef,.pointer (some ⟨z+1,0,none⟩),.pointer (some ⟨z+1+1,0,none⟩),.pointer (some ⟨z+1+1+1,0,none⟩),.pointer (some ⟨s,0,none⟩),.pointer (some ⟨s+1,0,none⟩),x 12,.pointer (some ⟨s+1+1,0,none⟩),y14,paC s Ba,x 16,x 17,x 18,x 19,x 20,x 21,x 22,x 23,x 24,x 25,x 26,x 27,x 28,x 29,x 30,x 31,x 32,x 33,x 34,y35,y36,y37,y38,y39,y40,y41,t42,t43,t44,t45,t46,t47,t48,undef,undef,undef,undef,undef],defers:=[] }
def zze(s:Nat)(Y:World)(ov:Value)(vals:List Value)(A:Option Addr)(rn rc g' cap':Nat)(w':World):Prop :=
 (Builtin.append_ #[44,44] 44 #[ov,.slice (some ⟨Y.heap.size,0,none⟩) 1 1]).run Tryz.prog (Y.alloc (Obj.cells #[.slice A rn rc] 26))= .ok (.slice (some ⟨g',0,none⟩) (vals.length+1) cap') w'/\w'.ownsRow s 26 1 (.slice (some ⟨g',0,none⟩) (vals.length+1) cap') (vals.length+1) (vals++[.slice A rn rc])/\(Y.alloc (Obj.cells #[.slice A rn rc] 26)).grownBy w' ov.ownBlock/\((Value.slice (some ⟨g',0,none⟩) (vals.length+1) cap').ownBlock=ov.ownBlock\/(Value.slice (some ⟨g',0,none⟩) (vals.length+1) cap').ownBlock=some (Y.heap.size+1))
section
variable{l m:Nat}{a:Act}{w:World}{K:Act->World->Prop}{Q:Exit->Act->World->Prop}
theorem op1 {s : Nat} {gc : Array Value} (hs : a.eval (.tmp 10) = .pointer (some ⟨s, 0, none⟩)) (hG : w.heap[s]? = some (.cells gc 78 (0, 0))) (hz : gc.size = 8) (hK : K (a.put (some 43) (.agg gc)) w) : Oper.wpIn (Fence.wide.inRound l) m Tryz.prog { dst := some 43, op := Op.load 78 (Operand.tmp 10), type := 78, pos := "graph.go:295", after := #[], guard := none } a w K Q := by
 have hr:=run_loadVar_row w s 78 78 gc (0,0) _ hG Tryz.underlying78 rfl (by rw[hz];kernel_rfl);unfold Oper.wpIn;refine ⟨by simp[Oper.about],?_⟩;rw[Oper.semAt_plain _ _ _ (by intro c hc';cases hc')];simp[execOp,hs,Instr.loadAt,Instr.sureAddr,hr,Result.andThen];exact hK
theorem op6{w':World}{ov v':Value}{ad:Addr}(hs:a.eval (.tmp 42)=ov)(hx:a.eval (.tmp 47)= .slice (some ad) 1 1)
  (hrun : (Builtin.append_ #[44, 44] 44 #[ov, .slice (some ad) 1 1]).run Tryz.prog w = .ok v' w') (hK : K (a.put (some 48) v') w') : Oper.wpIn (Fence.wide.inRound l) m Tryz.prog { dst := some 48, op := Op.call { callee := Callee.builtin Builtin.append, args := #[Operand.tmp 42, Operand.tmp 47], argTypes := #[44, 44] }, type := 44, pos := "graph.go:295", after := #[{ on := 0, ground := Ground.data }, { on := 5, ground := Ground.data }, { on := 4, ground := Ground.chain }], guard := none } a w K Q := by
 unfold Oper.wpIn;refine ⟨by simp[Oper.about,resolve,Target.leads,Sem.run_pure],?_⟩;rw[Oper.semAt_plain _ _ _ (by intro c hc';cases hc')];simp[execOp,resolve,invoke,builtin,hs,hx,hrun,Result.andThen];exact hK
end
theorem zy6{Y w':World}{s:Nat}{ov rv:Value}{vals:List Value}(h:Y.ownsRow s 26 1 ov vals.length vals)(hO:Y.heap[s+2]?=some (.cells #[ov] 44 (0,0)))(r2:(Y.alloc (Obj.cells #[rv] 26)).grownBy w' ov.ownBlock):w'.heap[s+2]?=some (.cells #[ov] 44 (0,0)):=by
 have hlt:=(yAE.1 hO).1;have hne:some (s+2)≠ov.ownBlock:=λe=>by
  rcases zys h hO (λcur e=>by cases e) with e1|e1;·rw[e1] at e;cases e
  ·exact e1 e.symm
 exact (r2.block (s+2) (by simp;omega) hne).trans ((Below.heap_alloc _ _ _ hlt).trans hO)
set_option maxHeartbeats 8000000 in
theorem pa13{z s l m Ba k:Nat}{lv ov:Value}{vals:List Value}{W2:World}{Q:Exit->Act->World->Prop}{gc:Array Value}(x:Nat->Value)(y14 y35 y36 y37 y38 y39 y40 y41:Value)(hgc:gc.size=8)
  (Q1:Value->World->Prop) (Q2:Value->World->Prop) (hlen:vals.length<1000) (hsz:s+9<=W2.drew.heap.size)
  (hO:W2.drew.heap[s+2]?=some (.cells #[ov] 44 (0,0))) (hG:W2.drew.heap[s]?=some (.cells gc 78 (0,0)))
  (cL:W2.drew.cell? ⟨s+7,0,none⟩=some lv) (cA:W2.drew.cell? ⟨Ba,0,none⟩=some (.int .i64 k)) (hrow:W2.drew.ownsRow s 26 1 ov vals.length vals)
  (hP:Calls Tryz.prog 115 #[lv,.int .i64 k] W2.drew λe X'=>∃pv,e= .returned pv/\Below W2.drew.heap.size W2.drew X'/\Q1 pv X')
  (hF:∀pv X',Below W2.drew.heap.size W2.drew X'->Q1 pv X'->Calls Tryz.prog 59 #[.agg gc,pv] X' λe Y=>∃A rn rc,e= .returned (.slice A rn rc)/\Below X'.heap.size X' Y/\Q2 (.slice A rn rc) Y)
  (hQ:∀X' pv A rn rc Y g' cap' w',Below W2.drew.heap.size W2.drew X'->Q1 pv X'->Below X'.heap.size X' Y->Q2 (.slice A rn rc) Y->w'.ownsRow s 26 1 (.slice (some ⟨g',0,none⟩) (vals.length+1) cap') (vals.length+1) (vals++[.slice A rn rc])->(Y.alloc (Obj.cells #[.slice A rn rc] 26)).grownBy w' ov.ownBlock->((Value.slice (some ⟨g',0,none⟩) (vals.length+1) cap').ownBlock=ov.ownBlock\/(Value.slice (some ⟨g',0,none⟩) (vals.length+1) cap').ownBlock=some (Y.heap.size+1)) ->
   Q .normal (paA z s Ba x y14 y35 y36 y37 y38 y39 y40 y41 ov (.agg gc) (paC s Ba) pv (.slice A rn rc) (.slice (some ⟨Y.heap.size,0,none⟩) 1 1) (.slice (some ⟨g',0,none⟩) (vals.length+1) cap')) (w'.setCell ⟨s+2,0,none⟩ (.slice (some ⟨g',0,none⟩) (vals.length+1) cap'))) :
  (Code.region 13 zyC true).wpIn (Fence.wide.inRound l) m Tryz.prog Q (paA z s Ba x y14 y35 y36 y37 y38 y39 y40 y41 undef undef undef undef undef undef undef) W2:=by
 have cO:=(zyp hO).1;have hX:∀X',Below W2.drew.heap.size W2.drew X'->X'.cell? ⟨s+2,0,none⟩=some ov/\X'.heap[s]?=some (.cells gc 78 (0,0)):=λX' hb=>⟨(zyu (hb.block (s+2) (by omega))).trans cO,(hb.block s (by omega)).trans hG⟩;have hYO:∀X' Y,Below W2.drew.heap.size W2.drew X'->Below X'.heap.size X' Y->Y.heap[s+2]?=some (.cells #[ov] 44 (0,0)):=λX' Y hbX hbY=>(hbY.block (s+2) (by have:=hbX.size;omega)).trans ((hbX.block (s+2) (by omega)).trans hO);have hY:∀X' Y,Below W2.drew.heap.size W2.drew X'->Below X'.heap.size X' Y->Y.cell? ⟨s+2,0,none⟩=some ov/\Y.ownsRow s 26 1 ov vals.length vals:=λX' Y hbX hbY=>⟨(zyp (hYO X' Y hbX hbY)).1,zyB (zyB hrow hbX) hbY⟩;have hap:∀X' Y,Below W2.drew.heap.size W2.drew X'->Below X'.heap.size X' Y->∀A rn rc,∃g' cap' w',zze s Y ov vals A rn rc g' cap' w':=λX' Y hbX hbY A rn rc=>zzs (hY X' Y hbX hbY).2 hlen (by have:=hbX.size;have:=hbY.size;omega) A rn rc;have hf:∀X' Y,Below W2.drew.heap.size W2.drew X'->Below X'.heap.size X' Y->∀A rn rc,∃g' cap' w',zze s Y ov vals A rn rc g' cap' w'/\(w'.cell? ⟨s+2,0,none⟩=some ov/\w'.frozen? ⟨s+2,0,none⟩=false)/\Y.cell? ⟨s+2,0,none⟩=some ov/\(Y.alloc (Obj.cells #[.slice A rn rc] 26)).cell? ⟨s+2,0,none⟩=some ov:=λX' Y hbX hbY A rn rc=>by obtain ⟨g',cap',w',hp⟩:=hap X' Y hbX hbY A rn rc;exact ⟨g',cap',w',hp,zyp (zy6 (hY X' Y hbX hbY).2 (hYO X' Y hbX hbY) hp.2.2.1),(hY X' Y hbX hbY).1,zyD _ (hY X' Y hbX hbY).1⟩
 have c3:=CallsIn.inRound (n:=m - 1) l (callsIn_wide.2 (pa114 cL cA hP (λe W' h=>let ⟨v,e1,_⟩:=h;⟨v,e1⟩)));have c4:=λ{pv X'} hb hq=>CallsIn.inRound (n:=m - 1) l (callsIn_wide.2 (hF pv X' hb hq));have hA:∀X' pv,Below W2.drew.heap.size W2.drew X'->Q1 pv X'->∀A rn rc Y,Below X'.heap.size X' Y->Q2 (.slice A rn rc) Y->∀g' cap' w',zze s Y ov vals A rn rc g' cap' w'->w'.cell? ⟨s+2,0,none⟩=some ov->w'.frozen? ⟨s+2,0,none⟩=false->Y.cell? ⟨s+2,0,none⟩=some ov->(Y.alloc (Obj.cells #[.slice A rn rc] 26)).cell? ⟨s+2,0,none⟩=some ov->∀li,li= #[true,true,true,true,true,false,false,false]->wpAnyIn (Fence.wide.inRound l) m Tryz.prog .any zyC Q 3 li (paA z s Ba x y14 y35 y36 y37 y38 y39 y40 y41 ov (.agg gc) (paC s Ba) pv (.slice A rn rc) undef undef) Y:=by
  intro X' pv hbX hq A rn rc Y hbY hq2 g' cap' w' hp cW fW cY cZ li hli;subst hli;unfold zyC paA paC;refine wpAnyIn_ready (rs:=[5]) (by kernel_rfl) (by simp) ?_;refine .cons rfl (λK hK=>?_) ?_
  ·
   go_simp
   refine hK _ _ ?_;clear hK K;refine wpAnyIn_ready (rs:=[6]) (by kernel_rfl) (by simp) ?_;refine .cons rfl (λK hK=>?_) ?_
   ·
    rw[if_pos (by rfl)];refine op6 rfl rfl hp.1 ?_;simp only[Act.put,go_sem];refine hK _ _ ?_;clear hK K;refine wpAnyIn_ready (rs:=[7]) (by kernel_rfl) (by simp) ?_;refine .cons rfl (λK hK=>?_) ?_
    ·
     go_simp
     refine hK _ _ ?_;clear hK K;refine wpAnyIn_done (by kernel_rfl) ?_ _;exact hQ X' pv A rn rc Y g' cap' w' hbX hq hbY hq2 hp.2.1 hp.2.2.1 hp.2.2.2
    exact .nil
   exact .nil
  exact .nil
 unfold zyC paA paC at hA;have hB:∀X' pv,Below W2.drew.heap.size W2.drew X'->Q1 pv X'->∀A rn rc Y,Below X'.heap.size X' Y->Q2 (.slice A rn rc) Y->∀g' cap' w',zze s Y ov vals A rn rc g' cap' w'->w'.cell? ⟨s+2,0,none⟩=some ov->w'.frozen? ⟨s+2,0,none⟩=false->Y.cell? ⟨s+2,0,none⟩=some ov->(Y.alloc (Obj.cells #[.slice A rn rc] 26)).cell? ⟨s+2,0,none⟩=some ov->∀li,li= #[false,true,true,true,true,false,false,false]->wpAnyIn (Fence.wide.inRound l) m Tryz.prog .any zyC Q 4 li (paA z s Ba x y14 y35 y36 y37 y38 y39 y40 y41 undef (.agg gc) (paC s Ba) pv (.slice A rn rc) undef undef) Y:=by
  intro X' pv hbX hq A rn rc Y hbY hq2 g' cap' w' hp cW fW cY cZ li hli;subst hli;unfold zyC paA paC;refine wpAnyIn_ready (rs:=[0,5]) (by kernel_rfl) (by simp) ?_;refine .cons rfl (λK hK=>?_) ?_
  ·
   go_simp
   refine hK _ _ ?_;clear hK K;exact hA X' pv hbX hq A rn rc Y hbY hq2 g' cap' w' hp cW fW cY cZ _ rfl
  refine .cons rfl (λK hK=>?_) ?_
  ·
   go_simp
   refine hK _ _ ?_;clear hK K;refine wpAnyIn_ready (rs:=[0]) (by kernel_rfl) (by simp) ?_;refine .cons rfl (λK hK=>?_) ?_
   ·
    go_simp
    refine hK _ _ ?_;clear hK K;refine wpAnyIn_ready (rs:=[6]) (by kernel_rfl) (by simp) ?_;refine .cons rfl (λK hK=>?_) ?_
    ·
     rw[if_pos (by rfl)];refine op6 rfl rfl hp.1 ?_;simp only[Act.put,go_sem];refine hK _ _ ?_;clear hK K;refine wpAnyIn_ready (rs:=[7]) (by kernel_rfl) (by simp) ?_;refine .cons rfl (λK hK=>?_) ?_
     ·
      go_simp
      refine hK _ _ ?_;clear hK K;refine wpAnyIn_done (by kernel_rfl) ?_ _;exact hQ X' pv A rn rc Y g' cap' w' hbX hq hbY hq2 hp.2.1 hp.2.2.1 hp.2.2.2
     exact .nil
    exact .nil
   exact .nil
  exact .nil
 unfold zyC paA paC at hB;refine wpIn_region_any (by kernel_rfl) ?_;change wpAnyIn _ _ _ _ _ _ _ _ _ (World.drew _);unfold zyC paA paC;refine wpAnyIn_ready (rs:=[0,1,2]) (by kernel_rfl) (by simp) ?_;refine .cons rfl (λK hK=>?_) ?_
 ·
  go_simp
  refine hK _ _ ?_;clear hK K;refine wpAnyIn_ready (rs:=[1,2]) (by kernel_rfl) (by simp) ?_;refine .cons rfl (λK hK=>?_) ?_
  ·
   rw[if_pos (by rfl)];refine op1 rfl hG hgc ?_;simp only[Act.put,go_sem];refine hK _ _ ?_;clear hK K;refine wpAnyIn_ready (rs:=[2]) (by kernel_rfl) (by simp) ?_;refine .cons rfl (λK hK=>?_) ?_
   ·
    go_simp
    refine hK _ _ ?_;clear hK K;refine wpAnyIn_ready (rs:=[3]) (by kernel_rfl) (by simp) ?_;refine .cons rfl (λK hK=>?_) ?_
    ·
     go_simp
     refine ⟨trivial,(λh=>nomatch h),c3.mono ?_⟩
     rintro e X' ⟨pv,rfl,hbX,hq⟩
     have cX:=(hX _ hbX).1;dsimp only;refine hK _ _ ?_;clear hK K;refine wpAnyIn_ready (rs:=[4]) (by kernel_rfl) (by simp) ?_;refine .cons rfl (λK hK=>?_) ?_
     ·
      go_simp
      refine ⟨trivial,(λh=>nomatch h),(c4 hbX hq).mono ?_⟩
      rintro e Y ⟨A,rn,rc,rfl,hbY,hq2⟩
      obtain ⟨g',cap',w',hp,⟨cW,fW⟩,cY,cZ⟩:=hf X' Y hbX hbY A rn rc;dsimp only;refine hK _ _ ?_;clear hK K;exact hA X' pv hbX hq A rn rc Y hbY hq2 g' cap' w' hp cW fW cY cZ _ rfl
     exact .nil
    exact .nil
   exact .nil
  refine .cons rfl (λK hK=>?_) ?_
  ·
   go_simp
   refine hK _ _ ?_;clear hK K;refine wpAnyIn_ready (rs:=[1,3]) (by kernel_rfl) (by simp) ?_;refine .cons rfl (λK hK=>?_) ?_
   ·
    rw[if_pos (by rfl)];refine op1 rfl hG hgc ?_;simp only[Act.put,go_sem];refine hK _ _ ?_;clear hK K;refine wpAnyIn_ready (rs:=[3]) (by kernel_rfl) (by simp) ?_;refine .cons rfl (λK hK=>?_) ?_
    ·
     go_simp
     refine ⟨trivial,(λh=>nomatch h),c3.mono ?_⟩
     rintro e X' ⟨pv,rfl,hbX,hq⟩
     have cX:=(hX _ hbX).1;dsimp only;refine hK _ _ ?_;clear hK K;refine wpAnyIn_ready (rs:=[4]) (by kernel_rfl) (by simp) ?_;refine .cons rfl (λK hK=>?_) ?_
     ·
      go_simp
      refine ⟨trivial,(λh=>nomatch h),(c4 hbX hq).mono ?_⟩
      rintro e Y ⟨A,rn,rc,rfl,hbY,hq2⟩
      obtain ⟨g',cap',w',hp,⟨cW,fW⟩,cY,cZ⟩:=hf X' Y hbX hbY A rn rc;dsimp only;refine hK _ _ ?_;clear hK K;exact hA X' pv hbX hq A rn rc Y hbY hq2 g' cap' w' hp cW fW cY cZ _ rfl
     exact .nil
    exact .nil
   refine .cons rfl (λK hK=>?_) ?_
   ·
    go_simp
    refine ⟨trivial,(λh=>nomatch h),c3.mono ?_⟩
    rintro e X' ⟨pv,rfl,hbX,hq⟩
    have cX:=(hX _ hbX).1;dsimp only;refine hK _ _ ?_;clear hK K;refine wpAnyIn_ready (rs:=[1]) (by kernel_rfl) (by simp) ?_;refine .cons rfl (λK hK=>?_) ?_
    ·
     rw[if_pos (by rfl)];refine op1 rfl (hX _ hbX).2 hgc ?_;simp only[Act.put,go_sem];refine hK _ _ ?_;clear hK K;refine wpAnyIn_ready (rs:=[4]) (by kernel_rfl) (by simp) ?_;refine .cons rfl (λK hK=>?_) ?_
     ·
      go_simp
      refine ⟨trivial,(λh=>nomatch h),(c4 hbX hq).mono ?_⟩
      rintro e Y ⟨A,rn,rc,rfl,hbY,hq2⟩
      obtain ⟨g',cap',w',hp,⟨cW,fW⟩,cY,cZ⟩:=hf X' Y hbX hbY A rn rc;dsimp only;refine hK _ _ ?_;clear hK K;exact hA X' pv hbX hq A rn rc Y hbY hq2 g' cap' w' hp cW fW cY cZ _ rfl
     exact .nil
    exact .nil
   exact .nil
  exact .nil
 refine .cons rfl (λK hK=>?_) ?_
 ·
  rw[if_pos (by rfl)];refine op1 rfl hG hgc ?_;simp only[Act.put,go_sem];refine hK _ _ ?_;clear hK K;refine wpAnyIn_ready (rs:=[0,2]) (by kernel_rfl) (by simp) ?_;refine .cons rfl (λK hK=>?_) ?_
  ·
   go_simp
   refine hK _ _ ?_;clear hK K;refine wpAnyIn_ready (rs:=[2]) (by kernel_rfl) (by simp) ?_;refine .cons rfl (λK hK=>?_) ?_
   ·
    go_simp
    refine hK _ _ ?_;clear hK K;refine wpAnyIn_ready (rs:=[3]) (by kernel_rfl) (by simp) ?_;refine .cons rfl (λK hK=>?_) ?_
    ·
     go_simp
     refine ⟨trivial,(λh=>nomatch h),c3.mono ?_⟩
     rintro e X' ⟨pv,rfl,hbX,hq⟩
     have cX:=(hX _ hbX).1;dsimp only;refine hK _ _ ?_;clear hK K;refine wpAnyIn_ready (rs:=[4]) (by kernel_rfl) (by simp) ?_;refine .cons rfl (λK hK=>?_) ?_
     ·
      go_simp
      refine ⟨trivial,(λh=>nomatch h),(c4 hbX hq).mono ?_⟩
      rintro e Y ⟨A,rn,rc,rfl,hbY,hq2⟩
      obtain ⟨g',cap',w',hp,⟨cW,fW⟩,cY,cZ⟩:=hf X' Y hbX hbY A rn rc;dsimp only;refine hK _ _ ?_;clear hK K;exact hA X' pv hbX hq A rn rc Y hbY hq2 g' cap' w' hp cW fW cY cZ _ rfl
     exact .nil
    exact .nil
   exact .nil
  refine .cons rfl (λK hK=>?_) ?_
  ·
   go_simp
   refine hK _ _ ?_;clear hK K;refine wpAnyIn_ready (rs:=[0,3]) (by kernel_rfl) (by simp) ?_;refine .cons rfl (λK hK=>?_) ?_
   ·
    go_simp
    refine hK _ _ ?_;clear hK K;refine wpAnyIn_ready (rs:=[3]) (by kernel_rfl) (by simp) ?_;refine .cons rfl (λK hK=>?_) ?_
    ·
     go_simp
     refine ⟨trivial,(λh=>nomatch h),c3.mono ?_⟩
     rintro e X' ⟨pv,rfl,hbX,hq⟩
     have cX:=(hX _ hbX).1;dsimp only;refine hK _ _ ?_;clear hK K;refine wpAnyIn_ready (rs:=[4]) (by kernel_rfl) (by simp) ?_;refine .cons rfl (λK hK=>?_) ?_
     ·
      go_simp
      refine ⟨trivial,(λh=>nomatch h),(c4 hbX hq).mono ?_⟩
      rintro e Y ⟨A,rn,rc,rfl,hbY,hq2⟩
      obtain ⟨g',cap',w',hp,⟨cW,fW⟩,cY,cZ⟩:=hf X' Y hbX hbY A rn rc;dsimp only;refine hK _ _ ?_;clear hK K;exact hA X' pv hbX hq A rn rc Y hbY hq2 g' cap' w' hp cW fW cY cZ _ rfl
     exact .nil
    exact .nil
   refine .cons rfl (λK hK=>?_) ?_
   ·
    go_simp
    refine ⟨trivial,(λh=>nomatch h),c3.mono ?_⟩
    rintro e X' ⟨pv,rfl,hbX,hq⟩
    have cX:=(hX _ hbX).1;dsimp only;refine hK _ _ ?_;clear hK K;refine wpAnyIn_ready (rs:=[0,4]) (by kernel_rfl) (by simp) ?_;refine .cons rfl (λK hK=>?_) ?_
    ·
     go_simp
     refine hK _ _ ?_;clear hK K;refine wpAnyIn_ready (rs:=[4]) (by kernel_rfl) (by simp) ?_;refine .cons rfl (λK hK=>?_) ?_
     ·
      go_simp
      refine ⟨trivial,(λh=>nomatch h),(c4 hbX hq).mono ?_⟩
      rintro e Y ⟨A,rn,rc,rfl,hbY,hq2⟩
      obtain ⟨g',cap',w',hp,⟨cW,fW⟩,cY,cZ⟩:=hf X' Y hbX hbY A rn rc;dsimp only;refine hK _ _ ?_;clear hK K;exact hA X' pv hbX hq A rn rc Y hbY hq2 g' cap' w' hp cW fW cY cZ _ rfl
     exact .nil
    refine .cons rfl (λK hK=>?_) ?_
    ·
     go_simp
     refine ⟨trivial,(λh=>nomatch h),(c4 hbX hq).mono ?_⟩
     rintro e Y ⟨A,rn,rc,rfl,hbY,hq2⟩
     obtain ⟨g',cap',w',hp,⟨cW,fW⟩,cY,cZ⟩:=hf X' Y hbX hbY A rn rc;dsimp only;refine hK _ _ ?_;clear hK K;exact hB X' pv hbX hq A rn rc Y hbY hq2 g' cap' w' hp cW fW cY cZ _ rfl
    exact .nil
   exact .nil
  exact .nil
 refine .cons rfl (λK hK=>?_) ?_
 ·
  go_simp
  refine hK _ _ ?_;clear hK K;refine wpAnyIn_ready (rs:=[0,1,3]) (by kernel_rfl) (by simp) ?_;refine .cons rfl (λK hK=>?_) ?_
  ·
   go_simp
   refine hK _ _ ?_;clear hK K;refine wpAnyIn_ready (rs:=[1,3]) (by kernel_rfl) (by simp) ?_;refine .cons rfl (λK hK=>?_) ?_
   ·
    rw[if_pos (by rfl)];refine op1 rfl hG hgc ?_;simp only[Act.put,go_sem];refine hK _ _ ?_;clear hK K;refine wpAnyIn_ready (rs:=[3]) (by kernel_rfl) (by simp) ?_;refine .cons rfl (λK hK=>?_) ?_
    ·
     go_simp
     refine ⟨trivial,(λh=>nomatch h),c3.mono ?_⟩
     rintro e X' ⟨pv,rfl,hbX,hq⟩
     have cX:=(hX _ hbX).1;dsimp only;refine hK _ _ ?_;clear hK K;refine wpAnyIn_ready (rs:=[4]) (by kernel_rfl) (by simp) ?_;refine .cons rfl (λK hK=>?_) ?_
     ·
      go_simp
      refine ⟨trivial,(λh=>nomatch h),(c4 hbX hq).mono ?_⟩
      rintro e Y ⟨A,rn,rc,rfl,hbY,hq2⟩
      obtain ⟨g',cap',w',hp,⟨cW,fW⟩,cY,cZ⟩:=hf X' Y hbX hbY A rn rc;dsimp only;refine hK _ _ ?_;clear hK K;exact hA X' pv hbX hq A rn rc Y hbY hq2 g' cap' w' hp cW fW cY cZ _ rfl
     exact .nil
    exact .nil
   refine .cons rfl (λK hK=>?_) ?_
   ·
    go_simp
    refine ⟨trivial,(λh=>nomatch h),c3.mono ?_⟩
    rintro e X' ⟨pv,rfl,hbX,hq⟩
    have cX:=(hX _ hbX).1;dsimp only;refine hK _ _ ?_;clear hK K;refine wpAnyIn_ready (rs:=[1]) (by kernel_rfl) (by simp) ?_;refine .cons rfl (λK hK=>?_) ?_
    ·
     rw[if_pos (by rfl)];refine op1 rfl (hX _ hbX).2 hgc ?_;simp only[Act.put,go_sem];refine hK _ _ ?_;clear hK K;refine wpAnyIn_ready (rs:=[4]) (by kernel_rfl) (by simp) ?_;refine .cons rfl (λK hK=>?_) ?_
     ·
      go_simp
      refine ⟨trivial,(λh=>nomatch h),(c4 hbX hq).mono ?_⟩
      rintro e Y ⟨A,rn,rc,rfl,hbY,hq2⟩
      obtain ⟨g',cap',w',hp,⟨cW,fW⟩,cY,cZ⟩:=hf X' Y hbX hbY A rn rc;dsimp only;refine hK _ _ ?_;clear hK K;exact hA X' pv hbX hq A rn rc Y hbY hq2 g' cap' w' hp cW fW cY cZ _ rfl
     exact .nil
    exact .nil
   exact .nil
  refine .cons rfl (λK hK=>?_) ?_
  ·
   rw[if_pos (by rfl)];refine op1 rfl hG hgc ?_;simp only[Act.put,go_sem];refine hK _ _ ?_;clear hK K;refine wpAnyIn_ready (rs:=[0,3]) (by kernel_rfl) (by simp) ?_;refine .cons rfl (λK hK=>?_) ?_
   ·
    go_simp
    refine hK _ _ ?_;clear hK K;refine wpAnyIn_ready (rs:=[3]) (by kernel_rfl) (by simp) ?_;refine .cons rfl (λK hK=>?_) ?_
    ·
     go_simp
     refine ⟨trivial,(λh=>nomatch h),c3.mono ?_⟩
     rintro e X' ⟨pv,rfl,hbX,hq⟩
     have cX:=(hX _ hbX).1;dsimp only;refine hK _ _ ?_;clear hK K;refine wpAnyIn_ready (rs:=[4]) (by kernel_rfl) (by simp) ?_;refine .cons rfl (λK hK=>?_) ?_
     ·
      go_simp
      refine ⟨trivial,(λh=>nomatch h),(c4 hbX hq).mono ?_⟩
      rintro e Y ⟨A,rn,rc,rfl,hbY,hq2⟩
      obtain ⟨g',cap',w',hp,⟨cW,fW⟩,cY,cZ⟩:=hf X' Y hbX hbY A rn rc;dsimp only;refine hK _ _ ?_;clear hK K;exact hA X' pv hbX hq A rn rc Y hbY hq2 g' cap' w' hp cW fW cY cZ _ rfl
     exact .nil
    exact .nil
   refine .cons rfl (λK hK=>?_) ?_
   ·
    go_simp
    refine ⟨trivial,(λh=>nomatch h),c3.mono ?_⟩
    rintro e X' ⟨pv,rfl,hbX,hq⟩
    have cX:=(hX _ hbX).1;dsimp only;refine hK _ _ ?_;clear hK K;refine wpAnyIn_ready (rs:=[0,4]) (by kernel_rfl) (by simp) ?_;refine .cons rfl (λK hK=>?_) ?_
    ·
     go_simp
     refine hK _ _ ?_;clear hK K;refine wpAnyIn_ready (rs:=[4]) (by kernel_rfl) (by simp) ?_;refine .cons rfl (λK hK=>?_) ?_
     ·
      go_simp
      refine ⟨trivial,(λh=>nomatch h),(c4 hbX hq).mono ?_⟩
      rintro e Y ⟨A,rn,rc,rfl,hbY,hq2⟩
      obtain ⟨g',cap',w',hp,⟨cW,fW⟩,cY,cZ⟩:=hf X' Y hbX hbY A rn rc;dsimp only;refine hK _ _ ?_;clear hK K;exact hA X' pv hbX hq A rn rc Y hbY hq2 g' cap' w' hp cW fW cY cZ _ rfl
     exact .nil
    refine .cons rfl (λK hK=>?_) ?_
    ·
     go_simp
     refine ⟨trivial,(λh=>nomatch h),(c4 hbX hq).mono ?_⟩
     rintro e Y ⟨A,rn,rc,rfl,hbY,hq2⟩
     obtain ⟨g',cap',w',hp,⟨cW,fW⟩,cY,cZ⟩:=hf X' Y hbX hbY A rn rc;dsimp only;refine hK _ _ ?_;clear hK K;exact hB X' pv hbX hq A rn rc Y hbY hq2 g' cap' w' hp cW fW cY cZ _ rfl
    exact .nil
   exact .nil
  refine .cons rfl (λK hK=>?_) ?_
  ·
   go_simp
   refine ⟨trivial,(λh=>nomatch h),c3.mono ?_⟩
   rintro e X' ⟨pv,rfl,hbX,hq⟩
   have cX:=(hX _ hbX).1;dsimp only;refine hK _ _ ?_;clear hK K;refine wpAnyIn_ready (rs:=[0,1]) (by kernel_rfl) (by simp) ?_;refine .cons rfl (λK hK=>?_) ?_
   ·
    go_simp
    refine hK _ _ ?_;clear hK K;refine wpAnyIn_ready (rs:=[1]) (by kernel_rfl) (by simp) ?_;refine .cons rfl (λK hK=>?_) ?_
    ·
     rw[if_pos (by rfl)];refine op1 rfl (hX _ hbX).2 hgc ?_;simp only[Act.put,go_sem];refine hK _ _ ?_;clear hK K;refine wpAnyIn_ready (rs:=[4]) (by kernel_rfl) (by simp) ?_;refine .cons rfl (λK hK=>?_) ?_
     ·
      go_simp
      refine ⟨trivial,(λh=>nomatch h),(c4 hbX hq).mono ?_⟩
      rintro e Y ⟨A,rn,rc,rfl,hbY,hq2⟩
      obtain ⟨g',cap',w',hp,⟨cW,fW⟩,cY,cZ⟩:=hf X' Y hbX hbY A rn rc;dsimp only;refine hK _ _ ?_;clear hK K;exact hA X' pv hbX hq A rn rc Y hbY hq2 g' cap' w' hp cW fW cY cZ _ rfl
     exact .nil
    exact .nil
   refine .cons rfl (λK hK=>?_) ?_
   ·
    rw[if_pos (by rfl)];refine op1 rfl (hX _ hbX).2 hgc ?_;simp only[Act.put,go_sem];refine hK _ _ ?_;clear hK K;refine wpAnyIn_ready (rs:=[0,4]) (by kernel_rfl) (by simp) ?_;refine .cons rfl (λK hK=>?_) ?_
    ·
     go_simp
     refine hK _ _ ?_;clear hK K;refine wpAnyIn_ready (rs:=[4]) (by kernel_rfl) (by simp) ?_;refine .cons rfl (λK hK=>?_) ?_
     ·
      go_simp
      refine ⟨trivial,(λh=>nomatch h),(c4 hbX hq).mono ?_⟩
      rintro e Y ⟨A,rn,rc,rfl,hbY,hq2⟩
      obtain ⟨g',cap',w',hp,⟨cW,fW⟩,cY,cZ⟩:=hf X' Y hbX hbY A rn rc;dsimp only;refine hK _ _ ?_;clear hK K;exact hA X' pv hbX hq A rn rc Y hbY hq2 g' cap' w' hp cW fW cY cZ _ rfl
     exact .nil
    refine .cons rfl (λK hK=>?_) ?_
    ·
     go_simp
     refine ⟨trivial,(λh=>nomatch h),(c4 hbX hq).mono ?_⟩
     rintro e Y ⟨A,rn,rc,rfl,hbY,hq2⟩
     obtain ⟨g',cap',w',hp,⟨cW,fW⟩,cY,cZ⟩:=hf X' Y hbX hbY A rn rc;dsimp only;refine hK _ _ ?_;clear hK K;exact hB X' pv hbX hq A rn rc Y hbY hq2 g' cap' w' hp cW fW cY cZ _ rfl
    exact .nil
   exact .nil
  exact .nil
 exact .nil
end Go.Proofs.YtojfjgjdheiffaaGreatDoor
end
section
/- A round of Paths' loop that takes one path more. -/
set_option maxRecDepth 100000
namespace Go.Proofs.YtojfjgjdheiffaaGreatDoor
open Go Go.RowKit Go.Shelf
attribute [local go_sem] Oper.semAt_some
section
variable{z s:Nat}{w:World}{most i:Int}{gc:Array Value}{Ba k:Nat}{lv:Value}{L:List (Int×Int)}{ov:Value}{vals:List Value}{W:World}
variable(x:Nat->Value)
def zzv(z s:Nat)(w:World)(most i:Int)(gc:Array Value)(Ba k:Nat)(lv:Value)(L:List (Int×Int))(ov:Value)(vals:List Value)(W:World)(Q2:World->Value->World->Prop)(rOn rOff:Loop)(e:Ending)(W':World):Prop :=
 ∃X Y rv ov',W.grownBy X (some (s+4))/\Below X.heap.size X Y/\Q2 X rv Y/\(∀b,b<Y.heap.size->b≠s+2->b≠s+4->ov.ownBlock≠some b->W'.heap[b]?=Y.heap[b]?)/\Y.heap.size<=W'.heap.size/\(ov'.ownBlock=ov.ownBlock\/ov'.ownBlock=some (Y.heap.size+1)) /\
  PaMem z s w most i gc Ba k lv L ov' (vals++[rv]) W' /\
  ((e= .returned (.bool true)/\((vals.length:Int)+1)≠most/\W'.heap[s+4]?=some (.loop rOn)) \/
   (e= .returned (.bool false)/\((vals.length:Int)+1)=most/\W'.heap[s+4]?=some (.loop rOff)))
theorem zy1{W:World}{b1 b2:Nat}{e1 e2:TypeId}{z1 z2:Nat}{v1 v2:Value}{k1 k2:Nat}{xs1 xs2:List Value}(h1:W.ownsRow b1 e1 z1 v1 k1 xs1)(h2:W.ownsRow b2 e2 z2 v2 k2 xs2)(he:e1≠e2):v1.ownBlock=none\/v1.ownBlock≠v2.ownBlock:=by
 rcases h2.2 with ⟨rfl,_⟩|⟨g,cap,cur,rfl,_,hgb,_⟩;·exact Classical.em _
 ·exact zys h1 hgb (λc e=>by cases e;exact he rfl)
set_option maxHeartbeats 4000000 in
theorem paHit(m:Nat)(fn:FuncId)(hgc:gc.size=8)
  (hlen:vals.length<1000) (Q1:World->Value->World->Prop) (Q2:World->Value->World->Prop)
  (hP:∀X,W.grownBy X (some (s+4))->Calls Tryz.prog 115 #[lv,.int .i64 k] X λe X'=>∃pv,e= .returned pv/\Below X.heap.size X X'/\Q1 X pv X')
  (hF:∀X pv X',W.grownBy X (some (s+4))->Below X.heap.size X X'->Q1 X pv X'->Calls Tryz.prog 59 #[.agg gc,pv] X' λe Y=>∃A rn rc,e= .returned (.slice A rn rc)/\Below X'.heap.size X' Y/\Q2 X (.slice A rn rc) Y)
  (h:PaMem z s w most i gc Ba k lv L ov vals W) (hl:W.heap[s+4]?=some (.loop (zyx fn (paT z s x) (s+3) .ready none))) :
  YieldAt Fence.wide m Tryz.prog (s+4) #[.int .i64 i,.func (.func 114) #[] #[.pointer (some ⟨s+7,0,none⟩),.pointer (some ⟨Ba,0,none⟩)]] W (zzv z s w most i gc Ba k lv L ov vals W Q2 (zyx fn (paT z s x) (s+3) .ready none) (zyx fn (paT z s x) (s+3) .done (some (.exit 0)))):=by
 have hBa:Ba≠s+4:=by have:=h.hBa;omega
 have hlt:s+4<W.heap.size:=(yAE.1 hl).1;refine ⟨fn,_,zyz,zyG,by simpa[zyx] using run_yield (P:=Tryz.prog) (args:= #[.int .i64 i,.func (.func 114) #[] #[.pointer (some ⟨s+7,0,none⟩),.pointer (some ⟨Ba,0,none⟩)]]) hl rfl,roundIn_of_wpIn trivial ?_⟩;have hbr:=run_beginRound (P:=Tryz.prog) hl rfl;obtain ⟨W2,hW2⟩:∃W2,W.putObj (s+4) (.loop { zyx fn (paT z s x) (s+3) .ready none with state:= .busy })=W2:=⟨_,rfl⟩;rw[hW2] at hbr;have h2:=PaMem.recd h (.loop { zyx fn (paT z s x) (s+3) .ready none with state:= .busy }) hl (λ_ _ e=>by cases e) hBa;rw[hW2] at h2;have hL2:W2.heap[s+4]?=some (.loop { zyx fn (paT z s x) (s+3) .ready none with state:= .busy }):=by rw[<-hW2];exact World.putObj_heap_same hlt
 have hg2:W.grownBy W2 (some (s+4)):=by rw[<-hW2];exact zyt _ _ _
 obtain ⟨cI,fI⟩:=zyp h2.hI;obtain ⟨cO,fO⟩:=zyp h2.hO;obtain ⟨cM,fM⟩:=zyp h2.hM;have hef:=zy5 (.func 114) #[] #[.pointer (some ⟨s+7,0,none⟩),.pointer (some ⟨Ba,0,none⟩)];clear hW2;unfold zyz paT
 gi_wp2_with (rw[Oper.semAt_eq _ _ _ λc h=>by cases h];go_simp;try go_bits)
 unfold zyG
 gi_wp2_with (rw[Oper.semAt_eq _ _ _ λc h=>by cases h];go_simp;try go_bits)
 have hgd:=zyE hg2;have hrow2:W2.drew.ownsRow s 26 1 ov vals.length vals:=h2.rowO.kept (zyE (World.grownBy_refl' W2)) (Classical.em _);have hsz2:s+9<=W2.drew.heap.size:=h2.sz;refine pa13 (W2:=W2) x _ _ _ _ _ _ _ _ hgc (Q1 W2.drew) (Q2 W2.drew) hlen hsz2 h2.hO h2.hG (zyp h2.hL).1 (zyp h2.hA).1 hrow2 (hP _ hgd) (λpv X' hb hq=>hF _ pv X' hgd hb hq) ?_;intro X' pv A rn rc Y g' cap' w' hbX hq hbY hq2 r1 r2 r3;have hsX:=hbX.size;have hsY:=hbY.size;have hrY:=zyB (zyB hrow2 hbX) hbY;have hYk:∀b,b<W2.drew.heap.size->Y.heap[b]?=W2.heap[b]? :=λb hb=>(hbY.block b (by omega)).trans (hbX.block b hb);have hwk:∀b,b<Y.heap.size->ov.ownBlock≠some b->w'.heap[b]?=Y.heap[b]? :=λb hb hne=>(r2.block b (by simp;omega) λe=>hne e.symm).trans (Below.heap_alloc _ _ _ hb);have hOw:=zy6 hrY ((hYk (s+2) (by omega)).trans h2.hO) r2;obtain ⟨w4,hw4⟩:∃w4,w'.setCell ⟨s+2,0,none⟩ (.slice (some ⟨g',0,none⟩) (vals.length+1) cap')=w4:=⟨_,rfl⟩;have hO4:w4.heap[s+2]?=some (.cells #[.slice (some ⟨g',0,none⟩) (vals.length+1) cap'] 44 (0,0)):=by rw[<-hw4];exact zyr _ hOw
 have hg4:w'.grownBy w4 (some (s+2)):=by rw[<-hw4];exact zyq _ _ _
 rw[hw4];have hsw:Y.heap.size<=w'.heap.size:=by have:=r2.size;simp at this;omega
 have hk4:∀b,b<Y.heap.size->b≠s+2->ov.ownBlock≠some b->w4.heap[b]?=Y.heap[b]? :=λb hb h1 h2=>(hg4.block b (by omega) (λe=>h1 (by cases e;rfl))).trans (hwk b hb h2);have hW4:∀{b:Nat}{o:Obj},W2.heap[b]?=some o->b≠s+2->(∀cur,o≠ .cells cur 26 (0,0))->w4.heap[b]?=some o:=λ{b o} hb h1 h3=>by
  have hlt:b<W2.drew.heap.size:=(yAE.1 hb).1;refine (hk4 b (by omega) h1 ?_).trans ((hYk b hlt).trans hb);rcases zys h2.rowO hb h3 with e|e;·rw[e];simp
  ·exact e
 have hM4:=hW4 h2.hM (by have:=h2.zs;omega) (λcur e=>by cases e);obtain ⟨cO4,fO4⟩:=zyp hO4;obtain ⟨cM4,fM4⟩:=zyp hM4;have hL4:=hW4 hL2 (by omega) (λcur e=>by cases e);have hrLY:=zyB (zyB (h2.rowL.kept (zyE (World.grownBy_refl' W2)) (Classical.em _)) hbX) hbY;have hrLw:=(hrLY.alloc (Obj.cells #[.slice A rn rc] 26)).kept r2 (zy1 hrLY hrY (by decide));have hbw:Below z w w':=by have b1:Below z W2.drew X':=hbX.mono (by have:=h2.zs;omega);have b2:Below z X' Y:=hbY.mono (by have:=h2.zs;omega);have b0:Below z w W2.drew:=⟨h2.below.os,h2.below.tape,h2.below.output,h2.below.size,h2.below.block⟩;have hz:=h2.zs;have hzw:=h2.zw;exact (((b0.trans b1).trans b2).alloc (by have:=((b0.trans b1).trans b2).size;omega) _).grown r2 (by have:=((b0.trans b1).trans b2).size;simp;omega) (λk e=>by have:=(hrY.lt k e).1;omega)
 have m4:PaMem z s w most i gc Ba k lv L (.slice (some ⟨g',0,none⟩) (vals.length+1) cap') (vals++[.slice A rn rc]) w4:=by
  have hz:=h2.zs;have hzw:=h2.zw;have hb:=h2.hBa
  refine ⟨hM4,h2.hR1.imp λ_ hx=>hW4 hx (by omega) (λcur e=>by cases e),h2.hR2.imp λ_ hx=>hW4 hx (by omega) (λcur e=>by cases e),hW4 h2.hG (by omega) (λcur e=>by cases e),hW4 h2.hI (by omega) (λcur e=>by cases e),hO4,hW4 h2.hK (by omega) (λcur e=>by cases e),hW4 h2.hG2 (by omega) (λcur e=>by cases e),hW4 h2.hL (by omega) (λcur e=>by cases e),hW4 h2.hA (by omega) (λcur e=>by cases e),hb,
   hrLw.kept hg4 (zys hrLw hOw λcur e=>by cases e),?_,hbw.grown hg4 (by have:=hbw.size;omega) (λk e=>by cases e;omega),h2.zw,h2.zs,by have:=hg4.size;omega⟩
  have:=r1.kept hg4 (zys r1 hOw λcur e=>by cases e);simpa using this
 have hlt4:s+4<w4.heap.size:=(yAE.1 hL4).1;clear hw4;unfold paA paC;by_cases hmost:(vals.length:Int)+1=most
 ·gi_wp2_with (rw[Oper.semAt_eq _ _ _ λc h=>by cases h];go_simp;try go_bits)
  refine ⟨_,_,run_endRound (some (.exit 0)) hL4,W2.drew,Y,.slice A rn rc,_,hgd,hbX.trans (hbY.mono (by omega)),hq2,λb hb h1 h3 h5=>(World.putObj_heap_other h3).trans (hk4 b hb h1 h5),by have:=hg4.size;simp[World.putObj];omega,r3,PaMem.recd m4 _ hL4 (λ_ _ e=>by cases e) hBa,.inr ⟨rfl,hmost,World.putObj_heap_same hlt4⟩⟩
 ·gi_wp2_with (rw[Oper.semAt_eq _ _ _ λc h=>by cases h];go_simp;try go_bits)
  refine ⟨_,_,run_endRound none hL4,W2.drew,Y,.slice A rn rc,_,hgd,hbX.trans (hbY.mono (by omega)),hq2,λb hb h1 h3 h5=>(World.putObj_heap_other h3).trans (hk4 b hb h1 h5),by have:=hg4.size;simp[World.putObj];omega,r3,PaMem.recd m4 _ hL4 (λ_ _ e=>by cases e) hBa,.inl ⟨rfl,hmost,World.putObj_heap_same hlt4⟩⟩
end
end Go.Proofs.YtojfjgjdheiffaaGreatDoor
end
section
/- The round of Paths' loop in which there are too many. -/
set_option maxRecDepth 100000
namespace Go.Proofs.YtojfjgjdheiffaaGreatDoor
open Go Go.RowKit Go.Shelf
attribute [local go_sem] Oper.semAt_some
section
variable{z s:Nat}{w:World}{most i:Int}{gc:Array Value}{Ba k:Nat}{lv:Value}{L:List (Int×Int)}{ov:Value}{vals:List Value}{W:World}
variable(x:Nat->Value)
def zzk(z s:Nat)(w:World)(rOff:Loop)(e:Ending)(W':World):Prop :=
 e= .returned (.bool false)/\W'.heap[z+2]?=some (.cells #[.slice none 0 0] 44 (0,0))/\W'.heap[z+3]?=some (.cells #[.int .i64 12] 27 (0,0))/\W'.heap[s+3]?=some (.deferred (some []))/\W'.heap[s+4]?=some (.loop rOff)/\Below z w W'
set_option maxHeartbeats 2000000 in
theorem paNil(m:Nat)(fn:FuncId)(h:PaMem z s w most i gc Ba k lv L ov vals W)(hl:W.heap[s+4]?=some (.loop (zyx fn (paT z s x) (s+3) .ready none))) :
  YieldAt Fence.wide m Tryz.prog (s+4) #[.int .i64 (-1),.nilFunc] W (zzk z s w (zyx fn (paT z s x) (s+3) .done (some .ret))):=by
 have hBa:Ba≠s+4:=by have:=h.hBa;omega
 have hlt:s+4<W.heap.size:=(yAE.1 hl).1;refine ⟨fn,_,zyz,zyG,by simpa[zyx] using run_yield (P:=Tryz.prog) (args:= #[.int .i64 (-1),.nilFunc]) hl rfl,roundIn_of_wpIn trivial ?_⟩;have hbr:=run_beginRound (P:=Tryz.prog) hl rfl;obtain ⟨W2,hW2⟩:∃W2,W.putObj (s+4) (.loop { zyx fn (paT z s x) (s+3) .ready none with state:= .busy })=W2:=⟨_,rfl⟩;rw[hW2] at hbr;have h2:PaMem z s w most i gc Ba k lv L ov vals W2:=by rw[<-hW2];exact PaMem.recd h _ hl (λ_ _ e=>by cases e) hBa
 have hL2:W2.heap[s+4]?=some (.loop { zyx fn (paT z s x) (s+3) .ready none with state:= .busy }):=by rw[<-hW2];exact World.putObj_heap_same hlt
 have hen:=zzr;obtain ⟨v1,hR1⟩:=h2.hR1;obtain ⟨v2,hR2⟩:=h2.hR2;obtain ⟨c1,f1⟩:=zyp hR1;obtain ⟨c2,f2⟩:=zyp hR2;have hz:=h2.zs;have hzw:=h2.zw;clear hW2;obtain ⟨w3,hw3⟩:∃w3,W2.setCell ⟨z+2,0,none⟩ (.slice none 0 0)=w3:=⟨_,rfl⟩;obtain ⟨w4,hw4⟩:∃w4,w3.setCell ⟨z+3,0,none⟩ (.int .i64 12)=w4:=⟨_,rfl⟩;have g3:W2.grownBy w3 (some (z+2)):=by rw[<-hw3];exact zyq _ _ _
 have g4:w3.grownBy w4 (some (z+3)):=by rw[<-hw4];exact zyq _ _ _
 have k4:∀{b:Nat}{o:Obj},W2.heap[b]?=some o->b≠z+2->b≠z+3->w4.heap[b]?=some o:=λ{b o} hb n1 n2=>by have hlt:=(yAE.1 hb).1;exact (g4.block b (yAq hlt g3.size) (λe=>n2 (by cases e;rfl))).trans ((g3.block b hlt (λe=>n1 (by cases e;rfl))).trans hb)
 have r3:w3.heap[z+2]?=some (.cells #[.slice none 0 0] 44 (0,0)):=by rw[<-hw3];exact zyr _ hR1
 have r3b:w3.heap[z+3]?=some (.cells #[v2] 27 (0,0)):=(g3.block (z+3) (yAE.1 hR2).1 λe=>by cases e).trans hR2;obtain ⟨c3,f3⟩:=zyp r3b;have r4:w4.heap[z+3]?=some (.cells #[.int .i64 12] 27 (0,0)):=by rw[<-hw4];exact zyr _ r3b
 have r4b:w4.heap[z+2]?=some (.cells #[.slice none 0 0] 44 (0,0)):=(g4.block (z+2) (yAE.1 r3).1 λe=>by cases e).trans r3;have hL4:=k4 hL2 (by omega) (by omega);have hK4:=k4 h2.hK (by omega) (by omega);have hlt4:s+4<w4.heap.size:=(yAE.1 hL4).1;have hb4:Below z w w4:=(h2.below.grown g3 (by have:=h2.below.size;omega) (λk e=>by cases e;omega)).grown g4 (by have:=h2.below.size;have:=g3.size;omega) (λk e=>by cases e;omega);unfold zyz paT
 gi_wp2_with (rw[Oper.semAt_eq _ _ _ λc h=>by cases h];go_simp;try go_bits)
 unfold zyG
 gi_wp2_with (first|simp only[hw3]|simp only[hw4]|(rw[Oper.semAt_eq _ _ _ λc h=>by cases h];go_simp;try go_bits))
 exact ⟨_,_,run_endRound (some .ret) hL4,rfl,(World.putObj_heap_other (by omega)).trans r4b,(World.putObj_heap_other (by omega)).trans r4,(World.putObj_heap_other (by omega)).trans hK4,World.putObj_heap_same hlt4,hb4.grown (zyt _ _ _) (by have:=hb4.size;omega) (λk e=>by cases e;omega)⟩
end
end Go.Proofs.YtojfjgjdheiffaaGreatDoor
end
