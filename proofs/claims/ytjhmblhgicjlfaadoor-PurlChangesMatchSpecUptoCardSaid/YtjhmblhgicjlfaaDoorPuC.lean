/- PROVED HERE: a part of the seat's proofs; see the text that holds the claim's theorem. -/
import Derived.Test.YtjhmblhgicjlfaaDoorPuB
import Derived.Test.YtjhmblhgicjlfaaDoorPuSrt
import Derived.Test.YtjhmblhgicjlfaaDoorPeE
section
/- What a computable copy of a model answers, the model answers: the laws of the words, and the copies of what is known of functions that are not read. -/
set_option maxRecDepth 100000
namespace Pe.Told
open Go Pe
def Le {α:Type} (x y:Option α):Prop:=∀r,x=some r→y=some r
theorem le_refl {α:Type} (x:Option α):Le x x:=fun _ h=>h
theorem le_some {α:Type} (x:α):Le (some x) (some x):=fun _ h=>h
theorem le_q {α:Type} {x y z:Option α} (h:y=z) (hx:Le x z):Le x y:=h▸hx
theorem ob_inv {α β:Type} {x:Option α} {f:α→Option β} {r:β} (h:ob x f=some r):∃a,x=some a∧f a=some r:=by
 cases x with
 | none=>cases h
 | some a=>exact ⟨a,rfl,h⟩
theorem le_ob {α β:Type} {x y:Option α} {f g:α→Option β} (h:Le x y) (hf:∀a,Le (f a) (g a)):Le (ob x f) (ob y g):=by
 intro r hr
 obtain ⟨a,rfl,h2⟩:=ob_inv hr
 rw [h a rfl];exact hf a r h2
theorem le_br {α:Type} {b:Bool} {x y x' y':Option α} (h1:Le x x') (h2:Le y y'):Le (br b x y) (br b x' y'):=by cases b<;>assumption
theorem le_same {α:Type} {x y z:Option α} (h1:Le x y) (h2:Le x z):Le x (same y z):=by
 intro r hr
 have e1:=h1 r hr
 have e2:=h2 r hr
 unfold same
 rw [e1,e2,if_pos rfl]
theorem same_self' {α:Type} (x:Option α):same x x=x:=if_pos rfl
theorem le_tri {α β γ δ:Type} {A:Option α} {B:Option β} {C C':β→Option γ} {K:α→β→γ→Option δ} {T:Option δ} (hC:∀s,Le (C s) (C' s)) (h:∀y s w,A=some y→B=some s→C' s=some w→T=K y s w) :
  Le (ob A fun y=>ob B fun s=>ob (C s) fun w=>K y s w) T:=by
 intro r hr
 obtain ⟨y,hy,hr⟩:=ob_inv hr
 obtain ⟨s,hs,hr⟩:=ob_inv hr
 obtain ⟨w,hw,hr⟩:=ob_inv hr
 rw [h y s w hy hs (hC s w hw)];exact hr
theorem le_cut {σ R:Type} {x y:Option (σ⊕R)} {f g:σ→Option R} (h:Le x y) (hf:∀a,Le (f a) (g a)):Le (cutM x f) (cutM y g):=by
 intro r hr
 cases x with
 | none=>cases hr
 | some a =>
   rw [h a rfl]
   cases a with
   | inl t=>exact hf t r hr
   | inr t=>exact hr
theorem le_oc {α β R:Type} {x y:Option (α⊕β)} {f f':α→Option R} {g g':β→Option R} (h:Le x y) (hf:∀a,Le (f a) (f' a)) (hg:∀a,Le (g a) (g' a)):Le (oc x f g) (oc y f' g'):=by
 intro r hr
 cases x with
 | none=>cases hr
 | some a =>
   rw [h a rfl]
   cases a with
   | inl t=>exact hf t r hr
   | inr t=>exact hg t r hr
def itC {σ R:Type} (f:σ→Option (σ⊕R)) (x:σ):Option R:=iter f 100 x
theorem iter_le {σ R:Type} {f g:σ→Option (σ⊕R)} (h:∀t,Le (f t) (g t)):∀n x r,iter f n x=some r→loopM g x=some r
 | 0,_,_,hr=>by cases hr
 | n+1,x,r,hr=>by
   simp only [iter] at hr
   cases hx:f x with
   | none=>rw [hx] at hr;cases hr
   | some a =>
     rw [hx] at hr
     cases a with
     | inl y=>rw [loopM_next (h x _ hx)];exact iter_le h n y r hr
     | inr y=>cases hr;exact loopM_end (h x _ hx)
theorem le_loop {σ R:Type} {f g:σ→Option (σ⊕R)} (h:∀t,Le (f t) (g t)) (x:σ):Le (itC f x) (loopM g x):=fun r hr=>iter_le h 100 x r hr
end Pe.Told
namespace Pe.Tryd
open Go Go.Proofs Pe Pe.Told
def c39 (l:List Gt.Pair):Option (List Gt.Pair):=match l with
 | []=>some []
 | _=>none
theorem c39_le (n:Nat) (l:List Gt.Pair): @Le (List Gt.Pair) (c39 l) ((orcN (n+3)).p 39 (.st 3) 63 [.func (.func 40) [] []] l):=by
 intro r h
 match l,h with
 | [],h=>cases h;exact L39nil n
noncomputable def c45 (l:List (List UInt8)) (s:List UInt8):Option (List UInt8×Unit):=bif Nat.ble l.length 1000000&&Nat.ble (Lib.join l s).length 100000000 then some (Lib.join l s,()) else none
theorem c45_le (n:Nat) (l:List (List UInt8)) (s:List UInt8): @Le (List UInt8×Unit) (c45 l s) ((orcN (n+1)).d 45 [.sl .str l,.str s] [.str]) :=
 le_q (show _=c45 l s by kernel_rfl) (le_refl _)
noncomputable def c64 (s:List UInt8) (c:Int):Option (Int×Unit):=some (Lib.indexByte s (UInt8.ofNat (Int.toNat c)),())
theorem c64_le (n:Nat) (s:List UInt8) (c:Int): @Le (Int×Unit) (c64 s c) ((orcN (n+1)).d 64 [.str s,.int .u8 c] [.int .i64]) :=
 le_q (show _=c64 s c by kernel_rfl) (le_refl _)
noncomputable def c106 (s sub:List UInt8):Option (List (List UInt8)×Unit):=split1 s sub
theorem c106_le (n:Nat) (s sub:List UInt8): @Le (List (List UInt8)×Unit) (c106 s sub) ((orcN (n+1)).d 106 [.str s,.str sub] [.sl .str]) :=
 le_q (show _=c106 s sub by kernel_rfl) (le_refl _)
end Pe.Tryd
end
section
/- Printed by told.py: computable copies of the models (loops with fuel), each below its model. -/
set_option maxRecDepth 100000
namespace Pe.Tryd
open Go Go.Proofs Pe Pe.Told
noncomputable def c56  :Option (Gt.A5_api_KindRule×Unit):=(some ((Gt.A5_api_KindRule.mk (Gt.KindRule.mk [100,111,116,116,101,100] 2 true false 1) (Gt.KindRule.mk [114,101,118,105,115,101,100] 3 true false 2) (Gt.KindRule.mk [115,116,97,103,101,100] 1 true true 3) (Gt.KindRule.mk [113,117,97,108,105,102,105,101,100] 3 false false 4) (Gt.KindRule.mk [112,108,97,105,110] 2 false false 5)),()))
theorem c56_le (n:Nat)  : @Le (Gt.A5_api_KindRule×Unit) (c56 ) ((orcN (n+1)).d 56 [] [(.st 0)]):=by
 refine le_q (q56 n) ?_
 unfold c56 m56
 repeat' (first | (with_reducible exact le_some _) | (with_reducible refine le_br ?_ ?_)  | (with_reducible refine le_same ?_ ?_) | (with_reducible refine le_cut ?_ fun _=> ?_) | (with_reducible refine le_loop (fun _=> ?_) _) | (refine le_ob ?_ fun _=> ?_) | (refine le_oc ?_ (fun _=> ?_) fun _=> ?_) | exact le_refl _)
noncomputable def c55 (kind:(List UInt8)):Option (Int×Unit):=(cutM (σ:=Unit) (R:=_) (ob (α:=Gt.A5_api_KindRule×Unit) (c56) fun (r1:Gt.A5_api_KindRule×Unit)=>(itC (σ:=Int×Unit) (R:=_) (fun (t2:Int×Unit)=>(br (decide (t2.1<5)) (ob (at? [(Gt.A5_api_KindRule.e0 r1.1),(Gt.A5_api_KindRule.e1 r1.1),(Gt.A5_api_KindRule.e2 r1.1),(Gt.A5_api_KindRule.e3 r1.1),(Gt.A5_api_KindRule.e4 r1.1)] t2.1) fun y3=>(br ((Gt.KindRule.kind y3)==kind) (some (.inr (.inr (t2.1,())))) (some (.inl ((IntKind.i64.wrap (t2.1+1)),()))))) (some (.inr (.inl (())))))) (0,()))) fun (_:Unit)=>(some ((-1),())))
theorem c55_le (n:Nat) (kind:(List UInt8)): @Le (Int×Unit) (c55 kind) ((orcN (n+2)).d 55 [.str kind] [(.int .i64)]):=by
 refine le_q (q55 (n+1) kind) ?_
 unfold c55 m55
 repeat' (first | (with_reducible exact le_some _) | (with_reducible refine le_br ?_ ?_)  | (with_reducible refine le_same ?_ ?_) | (with_reducible refine le_cut ?_ fun _=> ?_) | (with_reducible refine le_loop (fun _=> ?_) _) | (exact c56_le n) | (refine le_ob ?_ fun _=> ?_) | (refine le_oc ?_ (fun _=> ?_) fun _=> ?_) | exact le_refl _)
noncomputable def c16 (kind:(List UInt8)):Option (Gt.KindRule×Int×Unit):=(ob (α:=Int×Unit) (c55 kind) fun (r1:Int×Unit)=>(br (decide (r1.1<0)) (some ((Gt.KindRule.mk [] 0 false false 0),7,())) (ob (α:=Gt.A5_api_KindRule×Unit) (c56) fun (r2:Gt.A5_api_KindRule×Unit)=>(ob (at? [(Gt.A5_api_KindRule.e0 r2.1),(Gt.A5_api_KindRule.e1 r2.1),(Gt.A5_api_KindRule.e2 r2.1),(Gt.A5_api_KindRule.e3 r2.1),(Gt.A5_api_KindRule.e4 r2.1)] r1.1) fun y3=>(some (y3,0,()))))))
theorem c16_le (n:Nat) (kind:(List UInt8)): @Le (Gt.KindRule×Int×Unit) (c16 kind) ((orcN (n+3)).d 16 [.str kind] [(.st 2),(.int .i64)]):=by
 refine le_q (q16 (n+2) kind) ?_
 unfold c16 m16
 repeat' (first | (with_reducible exact le_some _) | (with_reducible refine le_br ?_ ?_)  | (with_reducible refine le_same ?_ ?_) | (with_reducible refine le_cut ?_ fun _=> ?_) | (with_reducible refine le_loop (fun _=> ?_) _) | (exact c55_le n _) | (exact c56_le (n+1)) | (refine le_ob ?_ fun _=> ?_) | (refine le_oc ?_ (fun _=> ?_) fun _=> ?_) | exact le_refl _)
noncomputable def c61 (p:Gt.Purl):Option (Bool×Unit):=(cutM (σ:=Unit) (R:=_) (itC (σ:=List (List UInt8)×Int×Unit) (R:=_) (fun (t1:List (List UInt8)×Int×Unit)=>(br (decide (t1.2.1<(len [(Gt.Purl.space p),(Gt.Purl.name p),(Gt.Purl.version p),(Gt.Purl.sub p)]))) (ob (at? t1.1 t1.2.1) fun y2=>(br (decide (200<(len y2))) (some (.inr (.inr (true,())))) (some (.inl (t1.1,(IntKind.i64.wrap (t1.2.1+1)),()))))) (some (.inr (.inl (())))))) ([(Gt.Purl.space p),(Gt.Purl.name p),(Gt.Purl.version p),(Gt.Purl.sub p)],0,())) fun (_:Unit)=>(cutM (σ:=Unit) (R:=_) (itC (σ:=Int×Unit) (R:=_) (fun (t4:Int×Unit)=>(br (decide (t4.1<(len (Gt.Purl.qualifiers p)))) (ob (at? (Gt.Purl.qualifiers p) t4.1) fun y5=>(ob (br (decide (200<(len (Gt.Pair.name y5)))) (some true) (some (decide (200<(len (Gt.Pair.value y5)))))) fun b6=>(br b6 (some (.inr (.inr (true,())))) (some (.inl ((IntKind.i64.wrap (t4.1+1)),())))))) (some (.inr (.inl (())))))) (0,())) fun (_:Unit)=>(some ((decide (10<(len (Gt.Purl.qualifiers p)))),()))))
theorem c61_le (n:Nat) (p:Gt.Purl): @Le (Bool×Unit) (c61 p) ((orcN (n+1)).d 61 [.st 4 p] [.bool]):=by
 refine le_q (q61 n p) ?_
 unfold c61 m61
 repeat' (first | (with_reducible exact le_some _) | (with_reducible refine le_br ?_ ?_)  | (with_reducible refine le_same ?_ ?_) | (with_reducible refine le_cut ?_ fun _=> ?_) | (with_reducible refine le_loop (fun _=> ?_) _) | (refine le_ob ?_ fun _=> ?_) | (refine le_oc ?_ (fun _=> ?_) fun _=> ?_) | exact le_refl _)
noncomputable def c62 (l:(List (List UInt8))) (dots:Bool):Option (Bool×Unit):=(cutM (σ:=Unit) (R:=_) (itC (σ:=Int×Unit) (R:=_) (fun (t1:Int×Unit)=>(br (decide (t1.1<(len l))) (ob (at? l t1.1) fun y2=>(ob (br (y2==[]) (some true) (ob (br dots (ob (br (y2==[46]) (some true) (some (y2==[46,46]))) fun b3=>(some b3)) (some false)) fun b4=>(some b4))) fun b5=>(br b5 (some (.inr (.inr (true,())))) (some (.inl ((IntKind.i64.wrap (t1.1+1)),())))))) (some (.inr (.inl (())))))) (0,())) fun (_:Unit)=>(some ((decide (10<(len l))),())))
theorem c62_le (n:Nat) (l:(List (List UInt8))) (dots:Bool): @Le (Bool×Unit) (c62 l dots) ((orcN (n+1)).d 62 [.sl .str l,.bool dots] [.bool]):=by
 refine le_q (q62 n l dots) ?_
 unfold c62 m62
 repeat' (first | (with_reducible exact le_some _) | (with_reducible refine le_br ?_ ?_)  | (with_reducible refine le_same ?_ ?_) | (with_reducible refine le_cut ?_ fun _=> ?_) | (with_reducible refine le_loop (fun _=> ?_) _) | (refine le_ob ?_ fun _=> ?_) | (refine le_oc ?_ (fun _=> ?_) fun _=> ?_) | exact le_refl _)
noncomputable def c63 (s:(List UInt8)):Option (List (List UInt8)×Unit):=(br (s==[]) (some ([],())) (ob (α:=List (List UInt8)×Unit) (c106 s [47]) fun (r1:List (List UInt8)×Unit)=>(some (r1.1,()))))
theorem c63_le (n:Nat) (s:(List UInt8)): @Le (List (List UInt8)×Unit) (c63 s) ((orcN (n+2)).d 63 [.str s] [(.sl .str)]):=by
 refine le_q (q63 (n+1) s) ?_
 unfold c63 m63
 repeat' (first | (with_reducible exact le_some _) | (with_reducible refine le_br ?_ ?_)  | (with_reducible refine le_same ?_ ?_) | (with_reducible refine le_cut ?_ fun _=> ?_) | (with_reducible refine le_loop (fun _=> ?_) _) | (exact c106_le n _ _) | (refine le_ob ?_ fun _=> ?_) | (refine le_oc ?_ (fun _=> ?_) fun _=> ?_) | exact le_refl _)
noncomputable def c122 (c:Int) (first:Bool):Option (Bool×Unit):=(ob (br (decide (97≤c)) (some (decide (c≤122))) (some false)) fun b1=>(br b1 (some (true,())) (ob (br (!first) (ob (br (decide (48≤c)) (some (decide (c≤57))) (some false)) fun b2=>(ob (br b2 (some true) (some (c==46))) fun b3=>(ob (br b3 (some true) (some (c==45))) fun b4=>(ob (br b4 (some true) (some (c==95))) fun b5=>(some b5))))) (some false)) fun b6=>(some (b6,())))))
theorem c122_le (n:Nat) (c:Int) (first:Bool): @Le (Bool×Unit) (c122 c first) ((orcN (n+1)).d 122 [.int .u8 c,.bool first] [.bool]):=by
 refine le_q (q122 n c first) ?_
 unfold c122 m122
 repeat' (first | (with_reducible exact le_some _) | (with_reducible refine le_br ?_ ?_)  | (with_reducible refine le_same ?_ ?_) | (with_reducible refine le_cut ?_ fun _=> ?_) | (with_reducible refine le_loop (fun _=> ?_) _) | (refine le_ob ?_ fun _=> ?_) | (refine le_oc ?_ (fun _=> ?_) fun _=> ?_) | exact le_refl _)
noncomputable def c108 (s:(List UInt8)):Option (Bool×Unit):=(cutM (σ:=Unit) (R:=_) (itC (σ:=Int×Unit) (R:=_) (fun (t1:Int×Unit)=>(br (decide (t1.1<(len s))) (ob (at? s t1.1) fun c2=>(ob (α:=Bool×Unit) (c122 (UInt8.toNat c2:Int) (t1.1==0)) fun (r3:Bool×Unit)=>(br (!r3.1) (some (.inr (.inr (false,())))) (some (.inl ((IntKind.i64.wrap (t1.1+1)),())))))) (some (.inr (.inl (())))))) (0,())) fun (_:Unit)=>(some ((s != []),())))
theorem c108_le (n:Nat) (s:(List UInt8)): @Le (Bool×Unit) (c108 s) ((orcN (n+2)).d 108 [.str s] [.bool]):=by
 refine le_q (q108 (n+1) s) ?_
 unfold c108 m108
 repeat' (first | (with_reducible exact le_some _) | (with_reducible refine le_br ?_ ?_)  | (with_reducible refine le_same ?_ ?_) | (with_reducible refine le_cut ?_ fun _=> ?_) | (with_reducible refine le_loop (fun _=> ?_) _) | (exact c122_le n _ _) | (refine le_ob ?_ fun _=> ?_) | (refine le_oc ?_ (fun _=> ?_) fun _=> ?_) | exact le_refl _)
noncomputable def c65 (l:(List Gt.Pair)):Option (Int×Unit):=(cutM (σ:=Unit) (R:=_) (itC (σ:=Int×Unit) (R:=_) (fun (t1:Int×Unit)=>(br (decide (t1.1<(len l))) (ob (at? l t1.1) fun y2=>(ob (α:=Bool×Unit) (c108 (Gt.Pair.name y2)) fun (r3:Bool×Unit)=>(br (!r3.1) (some (.inr (.inr (8,())))) (br ((Gt.Pair.value y2)==[]) (some (.inr (.inr (2,())))) (ob (br (decide (0<t1.1)) (ob (at? l (IntKind.i64.wrap (t1.1 - 1))) fun y4=>(some ((Op.bytesLess (Gt.Pair.name y2) (Gt.Pair.name y4))||((Gt.Pair.name y2)==(Gt.Pair.name y4))))) (some false)) fun b5=>(br b5 (some (.inr (.inr (10,())))) (some (.inl ((IntKind.i64.wrap (t1.1+1)),()))))))))) (some (.inr (.inl (())))))) (0,())) fun (_:Unit)=>(some (0,())))
theorem c65_le (n:Nat) (l:(List Gt.Pair)): @Le (Int×Unit) (c65 l) ((orcN (n+3)).d 65 [.sl (.st 3) l] [(.int .i64)]):=by
 refine le_q (q65 (n+2) l) ?_
 unfold c65 m65
 repeat' (first | (with_reducible exact le_some _) | (with_reducible refine le_br ?_ ?_)  | (with_reducible refine le_same ?_ ?_) | (with_reducible refine le_cut ?_ fun _=> ?_) | (with_reducible refine le_loop (fun _=> ?_) _) | (exact c108_le n _) | (refine le_ob ?_ fun _=> ?_) | (refine le_oc ?_ (fun _=> ?_) fun _=> ?_) | exact le_refl _)
noncomputable def c66 (s:(List UInt8)):Option (Bool×Unit):=(cutM (σ:=Unit) (R:=_) (itC (σ:=Int×Unit) (R:=_) (fun (t1:Int×Unit)=>(br (decide (t1.1<(len s))) (ob (at? s t1.1) fun c2=>(ob (br (decide ((UInt8.toNat c2:Int)<32)) (some true) (ob (at? s t1.1) fun c3=>(some ((UInt8.toNat c3:Int)==127)))) fun b4=>(br b4 (some (.inr (.inr (true,())))) (some (.inl ((IntKind.i64.wrap (t1.1+1)),())))))) (some (.inr (.inl (())))))) (0,())) fun (_:Unit)=>(some (false,())))
theorem c66_le (n:Nat) (s:(List UInt8)): @Le (Bool×Unit) (c66 s) ((orcN (n+1)).d 66 [.str s] [.bool]):=by
 refine le_q (q66 n s) ?_
 unfold c66 m66
 repeat' (first | (with_reducible exact le_some _) | (with_reducible refine le_br ?_ ?_)  | (with_reducible refine le_same ?_ ?_) | (with_reducible refine le_cut ?_ fun _=> ?_) | (with_reducible refine le_loop (fun _=> ?_) _) | (refine le_ob ?_ fun _=> ?_) | (refine le_oc ?_ (fun _=> ?_) fun _=> ?_) | exact le_refl _)
noncomputable def c25 (p:Gt.Purl):Option (Int×Unit):=(ob (α:=Gt.KindRule×Int×Unit) (c16 (Gt.Purl.kind p)) fun (r1:Gt.KindRule×Int×Unit)=>(br (r1.2.1 != 0) (some (r1.2.1,())) (ob (α:=Bool×Unit) (c61 p) fun (r2:Bool×Unit)=>(br r2.1 (some (3,())) (ob (br ((Gt.Purl.space p) != []) (some ((Gt.KindRule.space r1.1)==1)) (some false)) fun b3=>(ob (br b3 (some true) (ob (br ((Gt.Purl.space p)==[]) (some ((Gt.KindRule.space r1.1)==3)) (some false)) fun b4=>(some b4))) fun b5=>(br b5 (some (2,())) (ob (α:=List (List UInt8)×Unit) (c63 (Gt.Purl.space p)) fun (r6:List (List UInt8)×Unit)=>(ob (α:=Bool×Unit) (c62 r6.1 false) fun (r7:Bool×Unit)=>(br r7.1 (some (2,())) (ob (br ((Gt.Purl.name p)==[]) (some true) (ob (α:=Int×Unit) (c64 (Gt.Purl.name p) 47) fun (r8:Int×Unit)=>(some (decide (0≤r8.1))))) fun b9=>(br b9 (some (8,())) (ob (α:=Int×Unit) (c65 (Gt.Purl.qualifiers p)) fun (r10:Int×Unit)=>(br (r10.1 != 0) (some (r10.1,())) (ob (α:=List (List UInt8)×Unit) (c63 (Gt.Purl.sub p)) fun (r11:List (List UInt8)×Unit)=>(ob (α:=Bool×Unit) (c62 r11.1 true) fun (r12:Bool×Unit)=>(br r12.1 (some (2,())) (cutM (σ:=Unit) (R:=_) (itC (σ:=List (List UInt8)×Int×Unit) (R:=_) (fun (t13:List (List UInt8)×Int×Unit)=>(br (decide (t13.2.1<(len [(Gt.Purl.space p),(Gt.Purl.name p),(Gt.Purl.version p),(Gt.Purl.sub p)]))) (ob (at? t13.1 t13.2.1) fun y14=>(ob (α:=Bool×Unit) (c66 y14) fun (r15:Bool×Unit)=>(br r15.1 (some (.inr (.inr (8,())))) (some (.inl (t13.1,(IntKind.i64.wrap (t13.2.1+1)),())))))) (some (.inr (.inl (())))))) ([(Gt.Purl.space p),(Gt.Purl.name p),(Gt.Purl.version p),(Gt.Purl.sub p)],0,())) fun (_:Unit)=>(cutM (σ:=Unit) (R:=_) (itC (σ:=Int×Unit) (R:=_) (fun (t17:Int×Unit)=>(br (decide (t17.1<(len (Gt.Purl.qualifiers p)))) (ob (at? (Gt.Purl.qualifiers p) t17.1) fun y18=>(ob (α:=Bool×Unit) (c66 (Gt.Pair.value y18)) fun (r19:Bool×Unit)=>(br r19.1 (some (.inr (.inr (8,())))) (some (.inl ((IntKind.i64.wrap (t17.1+1)),())))))) (some (.inr (.inl (())))))) (0,())) fun (_:Unit)=>(some (0,())))))))))))))))))))))
theorem c25_le (n:Nat) (p:Gt.Purl): @Le (Int×Unit) (c25 p) ((orcN (n+4)).d 25 [.st 4 p] [(.int .i64)]):=by
 refine le_q (q25 (n+3) p) ?_
 unfold c25 m25
 repeat' (first | (with_reducible exact le_some _) | (with_reducible refine le_br ?_ ?_)  | (with_reducible refine le_same ?_ ?_) | (with_reducible refine le_cut ?_ fun _=> ?_) | (with_reducible refine le_loop (fun _=> ?_) _) | (exact c16_le n _) | (exact c61_le (n+2) _) | (exact c62_le (n+2) _ _) | (exact c63_le (n+1) _) | (exact c64_le (n+2) _ _) | (exact c65_le n _) | (exact c66_le (n+2) _) | (refine le_ob ?_ fun _=> ?_) | (refine le_oc ?_ (fun _=> ?_) fun _=> ?_) | exact le_refl _)
noncomputable def c90 (rc:Gt.Rdr×Unit) (at':Int):Option (((Gt.Rdr×Unit)×(Unit))⊕(Unit)):=(br (decide ((Gt.Rdr.bad rc.1)<0)) (some (.inl (((Gt.Rdr.mk (Gt.Rdr.s rc.1) (Gt.Rdr.at_ rc.1) at'),()),(())))) (some (.inl ((rc.1,()),(())))))
theorem c90_le (n:Nat) (rc:Gt.Rdr×Unit) (at':Int): @Le (((Gt.Rdr×Unit)×(Unit))⊕(Unit)) (c90 rc at') ((orcN (n+1)).e 90 [.ptr 0 0,.int .i64 at'] [59] [(.st 8)] rc [] [] 0):=by
 refine le_q (q90 n rc at') ?_
 unfold c90 m90
 repeat' (first | (with_reducible exact le_some _) | (with_reducible refine le_br ?_ ?_)  | (with_reducible refine le_same ?_ ?_) | (with_reducible refine le_cut ?_ fun _=> ?_) | (with_reducible refine le_loop (fun _=> ?_) _) | (refine le_ob ?_ fun _=> ?_) | (refine le_oc ?_ (fun _=> ?_) fun _=> ?_) | exact le_refl _)
noncomputable def c93 (s:(List UInt8)):Option (List UInt8×Unit):=(ob (cat? [] s) fun l1=>(cutM (σ:=List (Int)×Unit) (R:=_) (itC (σ:=Int×List (Int)×Unit) (R:=_) (fun (t2:Int×List (Int)×Unit)=>(br (decide (t2.1<(len (bytesOf l1)))) (ob (idx? t2.2.1 t2.1) fun j3=>(ob (get? t2.2.1 j3) fun y4=>(ob (br (decide (65≤y4)) (some (decide (y4≤90))) (some false)) fun b5=>(br b5 (ob (idx? t2.2.1 t2.1) fun j6=>(ob (get? t2.2.1 j6) fun _=>(some (.inl ((IntKind.i64.wrap (t2.1+1)),(t2.2.1.set j6 (IntKind.u8.wrap ((IntKind.u8.wrap (y4+97)) - 65))),()))))) (some (.inl ((IntKind.i64.wrap (t2.1+1)),t2.2.1,()))))))) (some (.inr (.inl (t2.2.1,())))))) (0,(bytesOf l1),())) fun (t8:List (Int)×Unit)=>(some ((strOf t8.1),()))))
theorem c93_le (n:Nat) (s:(List UInt8)): @Le (List UInt8×Unit) (c93 s) ((orcN (n+1)).d 93 [.str s] [.str]):=by
 refine le_q (q93 n s) ?_
 unfold c93 m93
 repeat' (first | (with_reducible exact le_some _) | (with_reducible refine le_br ?_ ?_)  | (with_reducible refine le_same ?_ ?_) | (with_reducible refine le_cut ?_ fun _=> ?_) | (with_reducible refine le_loop (fun _=> ?_) _) | (refine le_ob ?_ fun _=> ?_) | (refine le_oc ?_ (fun _=> ?_) fun _=> ?_) | exact le_refl _)
noncomputable def c102 (c:Int):Option (Bool×Unit):=(ob (br (decide (97≤c)) (some (decide (c≤122))) (some false)) fun b1=>(ob (br b1 (some true) (ob (br (decide (65≤c)) (some (decide (c≤90))) (some false)) fun b2=>(some b2))) fun b3=>(some (b3,()))))
theorem c102_le (n:Nat) (c:Int): @Le (Bool×Unit) (c102 c) ((orcN (n+1)).d 102 [.int .u8 c] [.bool]):=by
 refine le_q (q102 n c) ?_
 unfold c102 m102
 repeat' (first | (with_reducible exact le_some _) | (with_reducible refine le_br ?_ ?_)  | (with_reducible refine le_same ?_ ?_) | (with_reducible refine le_cut ?_ fun _=> ?_) | (with_reducible refine le_loop (fun _=> ?_) _) | (refine le_ob ?_ fun _=> ?_) | (refine le_oc ?_ (fun _=> ?_) fun _=> ?_) | exact le_refl _)
noncomputable def c85 (rc:Gt.Rdr×Unit) (star:Bool):Option (((Gt.Rdr×Unit)×(List UInt8×Unit))⊕(Unit)):=(cutM (σ:=List UInt8×Int×Int×Unit) (R:=_) (itC (σ:=Int×List UInt8×Int×Int×Unit) (R:=_) (fun (t1:Int×List UInt8×Int×Int×Unit)=>(br (decide (t1.1<4)) (ob (br (decide ((len t1.2.1)≤t1.1)) (some true) (ob (part? t1.2.1 t1.1 (IntKind.i64.wrap (t1.1+1))) fun s2=>(ob (α:=List UInt8×Unit) (c93 s2) fun (r3:List UInt8×Unit)=>(ob (part? [112,107,103,58] t1.1 (IntKind.i64.wrap (t1.1+1))) fun s4=>(some (r3.1 != s4)))))) fun b5=>(br b5 (oc (α:=((Gt.Rdr×Unit)×(Unit))) (β:=Unit) (c90 (((Gt.Rdr.mk t1.2.1 t1.2.2.1 t1.2.2.2.1),()):Gt.Rdr×Unit) t1.1) (fun (r6:((Gt.Rdr×Unit)×(Unit)))=>(some (.inr (.inr (.inl ((r6.1.1,()),([],()))))))) fun (_:Unit)=>(some (.inr (.inr (.inr (())))))) (some (.inl ((IntKind.i64.wrap (t1.1+1)),t1.2.1,t1.2.2.1,t1.2.2.2.1,()))))) (some (.inr (.inl (t1.2.1,t1.2.2.1,t1.2.2.2.1,())))))) (0,(Gt.Rdr.s rc.1),(Gt.Rdr.at_ rc.1),(Gt.Rdr.bad rc.1),())) fun (t8:List UInt8×Int×Int×Unit)=>(cutM (σ:=List UInt8×Int×Int×Unit) (R:=_) (ob (br star (ob (α:=Int×Unit) (br (decide (4<(len t8.1))) (ob (at? t8.1 4) fun c10=>(some ((UInt8.toNat c10:Int),()))) (some (0,()))) fun (r11:Int×Unit)=>(some (r11.1==42))) (some false)) fun b12=>(br b12 (some (.inl (t8.1,(IntKind.i64.wrap (4+1)),t8.2.2.1,()))) (itC (σ:=List UInt8×Int×Int×Unit) (R:=_) (fun (t13:List UInt8×Int×Int×Unit)=>(ob (br (decide (t13.2.1<(len t13.1))) (ob (at? t13.1 t13.2.1) fun c14=>(ob (α:=Bool×Unit) (c102 (UInt8.toNat c14:Int)) fun (r15:Bool×Unit)=>(some r15.1))) (some false)) fun b16=>(br b16 (some (.inl (t13.1,(IntKind.i64.wrap (t13.2.1+1)),t13.2.2.1,()))) (some (.inr (.inl (t13.1,t13.2.1,t13.2.2.1,()))))))) (t8.1,4,t8.2.2.1,())))) fun (t17:List UInt8×Int×Int×Unit)=>(ob (part? t17.1 4 t17.2.1) fun s18=>(ob (br (s18==[]) (some true) (ob (α:=Int×Unit) (br (decide (t17.2.1<(len t17.1))) (ob (at? t17.1 t17.2.1) fun c20=>(some ((UInt8.toNat c20:Int),()))) (some (0,()))) fun (r21:Int×Unit)=>(some (r21.1 != 47)))) fun b22=>(br b22 (oc (α:=((Gt.Rdr×Unit)×(Unit))) (β:=Unit) (c90 (((Gt.Rdr.mk t17.1 t17.2.1 t17.2.2.1),()):Gt.Rdr×Unit) t17.2.1) (fun (r23:((Gt.Rdr×Unit)×(Unit)))=>(some (.inl ((r23.1.1,()),([],()))))) fun (_:Unit)=>(some (.inr (())))) (ob (α:=List UInt8×Unit) (c93 s18) fun (r25:List UInt8×Unit)=>(some (.inl (((Gt.Rdr.mk t17.1 (IntKind.i64.wrap (t17.2.1+1)) t17.2.2.1),()),(r25.1,()))))))))))
theorem c85_le (n:Nat) (rc:Gt.Rdr×Unit) (star:Bool): @Le (((Gt.Rdr×Unit)×(List UInt8×Unit))⊕(Unit)) (c85 rc star) ((orcN (n+2)).e 85 [.ptr 0 0,.bool star] [59] [(.st 8)] rc [.str] [] 0):=by
 refine le_q (q85 (n+1) rc star) ?_
 unfold c85 m85
 repeat' (first | (with_reducible exact le_some _) | (with_reducible refine le_br ?_ ?_)  | (with_reducible refine le_same ?_ ?_) | (with_reducible refine le_cut ?_ fun _=> ?_) | (with_reducible refine le_loop (fun _=> ?_) _) | (exact c90_le n _ _) | (exact c93_le n _) | (exact c102_le n _) | (refine le_ob ?_ fun _=> ?_) | (refine le_oc ?_ (fun _=> ?_) fun _=> ?_) | exact le_refl _)
noncomputable def c120 (c:Int):Option (Int×Unit):=(ob (br (decide (48≤c)) (some (decide (c≤57))) (some false)) fun b1=>(br b1 (some ((IntKind.i64.wrap (IntKind.u8.wrap (c - 48))),())) (ob (br (decide (97≤c)) (some (decide (c≤102))) (some false)) fun b2=>(br b2 (some ((IntKind.i64.wrap ((IntKind.i64.wrap (IntKind.u8.wrap (c - 97)))+10)),())) (ob (br (decide (65≤c)) (some (decide (c≤70))) (some false)) fun b3=>(br b3 (some ((IntKind.i64.wrap ((IntKind.i64.wrap (IntKind.u8.wrap (c - 65)))+10)),())) (some ((-1),()))))))))
theorem c120_le (n:Nat) (c:Int): @Le (Int×Unit) (c120 c) ((orcN (n+1)).d 120 [.int .u8 c] [(.int .i64)]):=by
 refine le_q (q120 n c) ?_
 unfold c120 m120
 repeat' (first | (with_reducible exact le_some _) | (with_reducible refine le_br ?_ ?_)  | (with_reducible refine le_same ?_ ?_) | (with_reducible refine le_cut ?_ fun _=> ?_) | (with_reducible refine le_loop (fun _=> ?_) _) | (refine le_ob ?_ fun _=> ?_) | (refine le_oc ?_ (fun _=> ?_) fun _=> ?_) | exact le_refl _)
noncomputable def c121 (rc:Gt.Rdr×Unit):Option (((Gt.Rdr×Unit)×(Int×Bool×Unit))⊕(Unit)):=(br (decide ((len (Gt.Rdr.s rc.1))≤(Gt.Rdr.at_ rc.1))) (some (.inl ((rc.1,()),(0,false,())))) (ob (at? (Gt.Rdr.s rc.1) (Gt.Rdr.at_ rc.1)) fun c1=>(br ((UInt8.toNat c1:Int) != 37) (ob (br (decide ((UInt8.toNat c1:Int)<33)) (some true) (some (decide (126<(UInt8.toNat c1:Int))))) fun b2=>(ob (br b2 (some true) (ob (α:=Int×Unit) (c64 [47,64,63,35,38,61] (UInt8.toNat c1:Int)) fun (r3:Int×Unit)=>(some (decide (0≤r3.1))))) fun b4=>(br b4 (some (.inl ((rc.1,()),(0,false,())))) (some (.inl (((Gt.Rdr.mk (Gt.Rdr.s rc.1) (IntKind.i64.wrap ((Gt.Rdr.at_ rc.1)+1)) (Gt.Rdr.bad rc.1)),()),((UInt8.toNat c1:Int),true,()))))))) (cutM (σ:=Int×List UInt8×Int×Int×Unit) (R:=_) (itC (σ:=Int×Int×List UInt8×Int×Int×Unit) (R:=_) (fun (t5:Int×Int×List UInt8×Int×Int×Unit)=>(br (decide (t5.2.1≤2)) (cutM (σ:=Int×Unit) (R:=_) (br (decide ((IntKind.i64.wrap (t5.2.2.2.1+t5.2.1))<(len t5.2.2.1))) (ob (at? t5.2.2.1 (IntKind.i64.wrap (t5.2.2.2.1+t5.2.1))) fun c6=>(ob (α:=Int×Unit) (c120 (UInt8.toNat c6:Int)) fun (r7:Int×Unit)=>(some (.inl (r7.1,()))))) (some (.inl ((-1),())))) fun (t8:Int×Unit)=>(br (decide (t8.1<0)) (oc (α:=((Gt.Rdr×Unit)×(Unit))) (β:=Unit) (c90 (((Gt.Rdr.mk t5.2.2.1 t5.2.2.2.1 t5.2.2.2.2.1),()):Gt.Rdr×Unit) (IntKind.i64.wrap (t5.2.2.2.1+t5.2.1))) (fun (r9:((Gt.Rdr×Unit)×(Unit)))=>(some (.inr (.inr (.inl ((r9.1.1,()),(0,false,()))))))) fun (_:Unit)=>(some (.inr (.inr (.inr (())))))) (some (.inl ((IntKind.i64.wrap ((IntKind.i64.wrap (16*t5.1))+t8.1)),(IntKind.i64.wrap (t5.2.1+1)),t5.2.2.1,t5.2.2.2.1,t5.2.2.2.2.1,()))))) (some (.inr (.inl (t5.1,t5.2.2.1,t5.2.2.2.1,t5.2.2.2.2.1,())))))) (0,1,(Gt.Rdr.s rc.1),(Gt.Rdr.at_ rc.1),(Gt.Rdr.bad rc.1),())) fun (t11:Int×List UInt8×Int×Int×Unit)=>(some (.inl (((Gt.Rdr.mk t11.2.1 (IntKind.i64.wrap (t11.2.2.1+3)) t11.2.2.2.1),()),((IntKind.u8.wrap t11.1),true,()))))))))
theorem c121_le (n:Nat) (rc:Gt.Rdr×Unit): @Le (((Gt.Rdr×Unit)×(Int×Bool×Unit))⊕(Unit)) (c121 rc) ((orcN (n+2)).e 121 [.ptr 0 0] [59] [(.st 8)] rc [(.int .u8),.bool] [] 0):=by
 refine le_q (q121 (n+1) rc) ?_
 unfold c121 m121
 repeat' (first | (with_reducible exact le_some _) | (with_reducible refine le_br ?_ ?_)  | (with_reducible refine le_same ?_ ?_) | (with_reducible refine le_cut ?_ fun _=> ?_) | (with_reducible refine le_loop (fun _=> ?_) _) | (exact c64_le n _ _) | (exact c90_le n _ _) | (exact c120_le n _) | (refine le_ob ?_ fun _=> ?_) | (refine le_oc ?_ (fun _=> ?_) fun _=> ?_) | exact le_refl _)
noncomputable def c88 (rc:Gt.Rdr×Unit):Option (((Gt.Rdr×Unit)×(List UInt8×Unit))⊕(Unit)):=(cutM (σ:=List (Int)×List UInt8×Int×Int×Unit) (R:=_) (itC (σ:=List (Int)×List UInt8×Int×Int×Unit) (R:=_) (fun (t1:List (Int)×List UInt8×Int×Int×Unit)=>(br (decide (t1.2.2.2.1<0)) (oc (α:=((Gt.Rdr×Unit)×(Int×Bool×Unit))) (β:=Unit) (c121 (((Gt.Rdr.mk t1.2.1 t1.2.2.1 t1.2.2.2.1),()):Gt.Rdr×Unit)) (fun (r2:((Gt.Rdr×Unit)×(Int×Bool×Unit)))=>(br (!r2.2.2.1) (some (.inr (.inl (t1.1,(Gt.Rdr.s r2.1.1),(Gt.Rdr.at_ r2.1.1),(Gt.Rdr.bad r2.1.1),())))) (ob (cat? t1.1 [r2.2.1]) fun l3=>(some (.inl (l3,(Gt.Rdr.s r2.1.1),(Gt.Rdr.at_ r2.1.1),(Gt.Rdr.bad r2.1.1),())))))) fun (_:Unit)=>(some (.inr (.inr (.inr (())))))) (some (.inr (.inl (t1.1,t1.2.1,t1.2.2.1,t1.2.2.2.1,())))))) ([],(Gt.Rdr.s rc.1),(Gt.Rdr.at_ rc.1),(Gt.Rdr.bad rc.1),())) fun (t5:List (Int)×List UInt8×Int×Int×Unit)=>(br ((len t5.1)==0) (oc (α:=((Gt.Rdr×Unit)×(Unit))) (β:=Unit) (c90 (((Gt.Rdr.mk t5.2.1 t5.2.2.1 t5.2.2.2.1),()):Gt.Rdr×Unit) t5.2.2.1) (fun (r6:((Gt.Rdr×Unit)×(Unit)))=>(some (.inl ((r6.1.1,()),((strOf t5.1),()))))) fun (_:Unit)=>(some (.inr (())))) (some (.inl (((Gt.Rdr.mk t5.2.1 t5.2.2.1 t5.2.2.2.1),()),((strOf t5.1),()))))))
theorem c88_le (n:Nat) (rc:Gt.Rdr×Unit): @Le (((Gt.Rdr×Unit)×(List UInt8×Unit))⊕(Unit)) (c88 rc) ((orcN (n+3)).e 88 [.ptr 0 0] [59] [(.st 8)] rc [.str] [] 0):=by
 refine le_q (q88 (n+2) rc) ?_
 unfold c88 m88
 repeat' (first | (with_reducible exact le_some _) | (with_reducible refine le_br ?_ ?_)  | (with_reducible refine le_same ?_ ?_) | (with_reducible refine le_cut ?_ fun _=> ?_) | (with_reducible refine le_loop (fun _=> ?_) _) | (exact c90_le (n+1) _ _) | (exact c121_le n _) | (refine le_ob ?_ fun _=> ?_) | (refine le_oc ?_ (fun _=> ?_) fun _=> ?_) | exact le_refl _)
noncomputable def c86 (rc:Gt.Rdr×Unit):Option (((Gt.Rdr×Unit)×(List (List UInt8)×Unit))⊕(Unit)):=(oc (α:=((Gt.Rdr×Unit)×(List UInt8×Unit))) (β:=Unit) (c88 ((rc.1,()):Gt.Rdr×Unit)) (fun (r1:((Gt.Rdr×Unit)×(List UInt8×Unit)))=>(cutM (σ:=List (List UInt8)×List UInt8×Int×Int×Unit) (R:=_) (itC (σ:=List (List UInt8)×List UInt8×Int×Int×Unit) (R:=_) (fun (t2:List (List UInt8)×List UInt8×Int×Int×Unit)=>(ob (br (decide (t2.2.2.2.1<0)) (ob (α:=Int×Unit) (br (decide (t2.2.2.1<(len t2.2.1))) (ob (at? t2.2.1 t2.2.2.1) fun c4=>(some ((UInt8.toNat c4:Int),()))) (some (0,()))) fun (r5:Int×Unit)=>(some (r5.1==47))) (some false)) fun b6=>(br b6 (oc (α:=((Gt.Rdr×Unit)×(List UInt8×Unit))) (β:=Unit) (c88 (((Gt.Rdr.mk t2.2.1 (IntKind.i64.wrap (t2.2.2.1+1)) t2.2.2.2.1),()):Gt.Rdr×Unit)) (fun (r7:((Gt.Rdr×Unit)×(List UInt8×Unit)))=>(ob (cat? t2.1 [r7.2.1]) fun l8=>(some (.inl (l8,(Gt.Rdr.s r7.1.1),(Gt.Rdr.at_ r7.1.1),(Gt.Rdr.bad r7.1.1),()))))) fun (_:Unit)=>(some (.inr (.inr (.inr (())))))) (some (.inr (.inl (t2.1,t2.2.1,t2.2.2.1,t2.2.2.2.1,()))))))) ([r1.2.1],(Gt.Rdr.s r1.1.1),(Gt.Rdr.at_ r1.1.1),(Gt.Rdr.bad r1.1.1),())) fun (t10:List (List UInt8)×List UInt8×Int×Int×Unit)=>(some (.inl (((Gt.Rdr.mk t10.2.1 t10.2.2.1 t10.2.2.2.1),()),(t10.1,())))))) fun (_:Unit)=>(some (.inr (()))))
theorem c86_le (n:Nat) (rc:Gt.Rdr×Unit): @Le (((Gt.Rdr×Unit)×(List (List UInt8)×Unit))⊕(Unit)) (c86 rc) ((orcN (n+4)).e 86 [.ptr 0 0] [59] [(.st 8)] rc [(.sl .str)] [] 0):=by
 refine le_q (q86 (n+3) rc) ?_
 unfold c86 m86
 repeat' (first | (with_reducible exact le_some _) | (with_reducible refine le_br ?_ ?_)  | (with_reducible refine le_same ?_ ?_) | (with_reducible refine le_cut ?_ fun _=> ?_) | (with_reducible refine le_loop (fun _=> ?_) _) | (exact c88_le n _) | (refine le_ob ?_ fun _=> ?_) | (refine le_oc ?_ (fun _=> ?_) fun _=> ?_) | exact le_refl _)
noncomputable def c89 (rc:Gt.Rdr×Unit):Option (((Gt.Rdr×Unit)×(Gt.Pair×Unit))⊕(Unit)):=(cutM (σ:=List UInt8×Int×Int×Unit) (R:=_) (itC (σ:=List UInt8×Int×Int×Unit) (R:=_) (fun (t1:List UInt8×Int×Int×Unit)=>(ob (br (decide (t1.2.1<(len t1.1))) (ob (at? t1.1 t1.2.1) fun c2=>(ob (α:=Bool×Unit) (c122 (UInt8.toNat c2:Int) (t1.2.1==(Gt.Rdr.at_ rc.1))) fun (r3:Bool×Unit)=>(some r3.1))) (some false)) fun b4=>(br b4 (some (.inl (t1.1,(IntKind.i64.wrap (t1.2.1+1)),t1.2.2.1,()))) (some (.inr (.inl (t1.1,t1.2.1,t1.2.2.1,()))))))) ((Gt.Rdr.s rc.1),(Gt.Rdr.at_ rc.1),(Gt.Rdr.bad rc.1),())) fun (t5:List UInt8×Int×Int×Unit)=>(ob (part? t5.1 (Gt.Rdr.at_ rc.1) t5.2.1) fun s6=>(ob (br (s6==[]) (some true) (ob (α:=Int×Unit) (br (decide (t5.2.1<(len t5.1))) (ob (at? t5.1 t5.2.1) fun c8=>(some ((UInt8.toNat c8:Int),()))) (some (0,()))) fun (r9:Int×Unit)=>(some (r9.1 != 61)))) fun b10=>(br b10 (oc (α:=((Gt.Rdr×Unit)×(Unit))) (β:=Unit) (c90 (((Gt.Rdr.mk t5.1 t5.2.1 t5.2.2.1),()):Gt.Rdr×Unit) t5.2.1) (fun (r11:((Gt.Rdr×Unit)×(Unit)))=>(some (.inl ((r11.1.1,()),((Gt.Pair.mk [] []),()))))) fun (_:Unit)=>(some (.inr (())))) (oc (α:=((Gt.Rdr×Unit)×(List UInt8×Unit))) (β:=Unit) (c88 (((Gt.Rdr.mk t5.1 (IntKind.i64.wrap (t5.2.1+1)) t5.2.2.1),()):Gt.Rdr×Unit)) (fun (r13:((Gt.Rdr×Unit)×(List UInt8×Unit)))=>(some (.inl ((r13.1.1,()),((Gt.Pair.mk s6 r13.2.1),()))))) fun (_:Unit)=>(some (.inr (()))))))))
theorem c89_le (n:Nat) (rc:Gt.Rdr×Unit): @Le (((Gt.Rdr×Unit)×(Gt.Pair×Unit))⊕(Unit)) (c89 rc) ((orcN (n+4)).e 89 [.ptr 0 0] [59] [(.st 8)] rc [(.st 3)] [] 0):=by
 refine le_q (q89 (n+3) rc) ?_
 unfold c89 m89
 repeat' (first | (with_reducible exact le_some _) | (with_reducible refine le_br ?_ ?_)  | (with_reducible refine le_same ?_ ?_) | (with_reducible refine le_cut ?_ fun _=> ?_) | (with_reducible refine le_loop (fun _=> ?_) _) | (exact c88_le n _) | (exact c90_le (n+2) _ _) | (exact c122_le (n+2) _ _) | (refine le_ob ?_ fun _=> ?_) | (refine le_oc ?_ (fun _=> ?_) fun _=> ?_) | exact le_refl _)
noncomputable def c38 (b0_0:List UInt8) (b0_1:Int) (b0_2:Int):Option ((List UInt8×Int×Int×List UInt8×List UInt8×List UInt8×List UInt8×List (Gt.Pair)×List UInt8×Unit)⊕(Unit)):=(oc (α:=((Gt.Rdr×Unit)×(List UInt8×Unit))) (β:=Unit) (c85 (((Gt.Rdr.mk b0_0 b0_1 b0_2),()):Gt.Rdr×Unit) false) (fun (r1:((Gt.Rdr×Unit)×(List UInt8×Unit)))=>(br (decide (0≤(Gt.Rdr.bad r1.1.1))) (some (.inl ((Gt.Rdr.s r1.1.1),(Gt.Rdr.at_ r1.1.1),(Gt.Rdr.bad r1.1.1),r1.2.1,[],[],[],[],[],()))) (oc (α:=((Gt.Rdr×Unit)×(List (List UInt8)×Unit))) (β:=Unit) (c86 ((r1.1.1,()):Gt.Rdr×Unit)) (fun (r2:((Gt.Rdr×Unit)×(List (List UInt8)×Unit)))=>(cutM (σ:=List UInt8×List UInt8×List UInt8×List UInt8×List (Gt.Pair)×List UInt8×Unit) (R:=_) (ob (at? r2.2.1 (IntKind.i64.wrap ((len r2.2.1) - 1))) fun y154=>(ob (part? r2.2.1 0 (IntKind.i64.wrap ((len r2.2.1) - 1))) fun s162=>(ob (α:=List UInt8×Unit) (c45 s162 [47]) fun (r163:List UInt8×Unit)=>(some (.inl (r1.2.1,r163.1,y154,[],[],[],())))))) fun (t164:List UInt8×List UInt8×List UInt8×List UInt8×List (Gt.Pair)×List UInt8×Unit)=>(cutM (σ:=List UInt8×Int×Int×List UInt8×List UInt8×List UInt8×List UInt8×List (Gt.Pair)×List UInt8×Unit) (R:=_) (ob (br (decide ((Gt.Rdr.bad r2.1.1)<0)) (ob (α:=Int×Unit) (br (decide ((Gt.Rdr.at_ r2.1.1)<(len (Gt.Rdr.s r2.1.1)))) (ob (at? (Gt.Rdr.s r2.1.1) (Gt.Rdr.at_ r2.1.1)) fun c166=>(some ((UInt8.toNat c166:Int),()))) (some (0,()))) fun (r167:Int×Unit)=>(some (r167.1==64))) (some false)) fun b168=>(br b168 (oc (α:=((Gt.Rdr×Unit)×(List UInt8×Unit))) (β:=Unit) (c88 (((Gt.Rdr.mk (Gt.Rdr.s r2.1.1) (IntKind.i64.wrap ((Gt.Rdr.at_ r2.1.1)+1)) (Gt.Rdr.bad r2.1.1)),()):Gt.Rdr×Unit)) (fun (r169:((Gt.Rdr×Unit)×(List UInt8×Unit)))=>(some (.inl ((Gt.Rdr.s r169.1.1),(Gt.Rdr.at_ r169.1.1),(Gt.Rdr.bad r169.1.1),t164.1,t164.2.1,t164.2.2.1,r169.2.1,t164.2.2.2.2.1,t164.2.2.2.2.2.1,())))) fun (_:Unit)=>(some (.inr (.inr (()))))) (some (.inl ((Gt.Rdr.s r2.1.1),(Gt.Rdr.at_ r2.1.1),(Gt.Rdr.bad r2.1.1),t164.1,t164.2.1,t164.2.2.1,t164.2.2.2.1,t164.2.2.2.2.1,t164.2.2.2.2.2.1,()))))) fun (t171:List UInt8×Int×Int×List UInt8×List UInt8×List UInt8×List UInt8×List (Gt.Pair)×List UInt8×Unit)=>(cutM (σ:=List UInt8×Int×Int×List UInt8×List UInt8×List UInt8×List UInt8×List (Gt.Pair)×List UInt8×Unit) (R:=_) (itC (σ:=Int×List UInt8×Int×Int×List UInt8×List UInt8×List UInt8×List UInt8×List (Gt.Pair)×List UInt8×Unit) (R:=_) (fun (t172:Int×List UInt8×Int×Int×List UInt8×List UInt8×List UInt8×List UInt8×List (Gt.Pair)×List UInt8×Unit)=>(ob (br (decide (t172.2.2.2.1<0)) (some (decide (t172.2.2.1<(len t172.2.1)))) (some false)) fun b173=>(ob (br b173 (ob (α:=Int×Unit) (br (decide (t172.2.2.1<(len t172.2.1))) (ob (at? t172.2.1 t172.2.2.1) fun c175=>(some ((UInt8.toNat c175:Int),()))) (some (0,()))) fun (r176:Int×Unit)=>(some (r176.1==t172.1))) (some false)) fun b177=>(br b177 (oc (α:=((Gt.Rdr×Unit)×(Gt.Pair×Unit))) (β:=Unit) (c89 (((Gt.Rdr.mk t172.2.1 (IntKind.i64.wrap (t172.2.2.1+1)) t172.2.2.2.1),()):Gt.Rdr×Unit)) (fun (r181:((Gt.Rdr×Unit)×(Gt.Pair×Unit)))=>(ob (cat? t172.2.2.2.2.2.2.2.2.1 [r181.2.1]) fun l183=>(some (.inl (38,(Gt.Rdr.s r181.1.1),(Gt.Rdr.at_ r181.1.1),(Gt.Rdr.bad r181.1.1),t172.2.2.2.2.1,t172.2.2.2.2.2.1,t172.2.2.2.2.2.2.1,t172.2.2.2.2.2.2.2.1,l183,t172.2.2.2.2.2.2.2.2.2.1,()))))) fun (_:Unit)=>(some (.inr (.inr (.inr (())))))) (some (.inr (.inl (t172.2.1,t172.2.2.1,t172.2.2.2.1,t172.2.2.2.2.1,t172.2.2.2.2.2.1,t172.2.2.2.2.2.2.1,t172.2.2.2.2.2.2.2.1,t172.2.2.2.2.2.2.2.2.1,t172.2.2.2.2.2.2.2.2.2.1,())))))))) (63,t171.1,t171.2.1,t171.2.2.1,t171.2.2.2.1,t171.2.2.2.2.1,t171.2.2.2.2.2.1,t171.2.2.2.2.2.2.1,t171.2.2.2.2.2.2.2.1,t171.2.2.2.2.2.2.2.2.1,())) fun (t185:List UInt8×Int×Int×List UInt8×List UInt8×List UInt8×List UInt8×List (Gt.Pair)×List UInt8×Unit)=>(cutM (σ:=List UInt8×Int×Int×List UInt8×List UInt8×List UInt8×List UInt8×List (Gt.Pair)×List UInt8×Unit) (R:=_) (ob (br (decide (t185.2.2.1<0)) (ob (α:=Int×Unit) (br (decide (t185.2.1<(len t185.1))) (ob (at? t185.1 t185.2.1) fun c187=>(some ((UInt8.toNat c187:Int),()))) (some (0,()))) fun (r188:Int×Unit)=>(some (r188.1==35))) (some false)) fun b189=>(br b189 (oc (α:=((Gt.Rdr×Unit)×(List (List UInt8)×Unit))) (β:=Unit) (c86 (((Gt.Rdr.mk t185.1 (IntKind.i64.wrap (t185.2.1+1)) t185.2.2.1),()):Gt.Rdr×Unit)) (fun (r190:((Gt.Rdr×Unit)×(List (List UInt8)×Unit)))=>(ob (α:=List UInt8×Unit) (c45 r190.2.1 [47]) fun (r191:List UInt8×Unit)=>(some (.inl ((Gt.Rdr.s r190.1.1),(Gt.Rdr.at_ r190.1.1),(Gt.Rdr.bad r190.1.1),t185.2.2.2.1,t185.2.2.2.2.1,t185.2.2.2.2.2.1,t185.2.2.2.2.2.2.1,t185.2.2.2.2.2.2.2.1,r191.1,()))))) fun (_:Unit)=>(some (.inr (.inr (()))))) (some (.inl (t185.1,t185.2.1,t185.2.2.1,t185.2.2.2.1,t185.2.2.2.2.1,t185.2.2.2.2.2.1,t185.2.2.2.2.2.2.1,t185.2.2.2.2.2.2.2.1,t185.2.2.2.2.2.2.2.2.1,()))))) fun (t193:List UInt8×Int×Int×List UInt8×List UInt8×List UInt8×List UInt8×List (Gt.Pair)×List UInt8×Unit)=>(ob (br (decide (t193.2.2.1<0)) (some (decide (t193.2.1<(len t193.1)))) (some false)) fun b194=>(br b194 (oc (α:=((Gt.Rdr×Unit)×(Unit))) (β:=Unit) (c90 (((Gt.Rdr.mk t193.1 t193.2.1 t193.2.2.1),()):Gt.Rdr×Unit) t193.2.1) (fun (r195:((Gt.Rdr×Unit)×(Unit)))=>(some (.inl ((Gt.Rdr.s r195.1.1),(Gt.Rdr.at_ r195.1.1),(Gt.Rdr.bad r195.1.1),t193.2.2.2.1,t193.2.2.2.2.1,t193.2.2.2.2.2.1,t193.2.2.2.2.2.2.1,t193.2.2.2.2.2.2.2.1,t193.2.2.2.2.2.2.2.2.1,())))) fun (_:Unit)=>(some (.inr (())))) (some (.inl (t193.1,t193.2.1,t193.2.2.1,t193.2.2.2.1,t193.2.2.2.2.1,t193.2.2.2.2.2.1,t193.2.2.2.2.2.2.1,t193.2.2.2.2.2.2.2.1,t193.2.2.2.2.2.2.2.2.1,())))))))))) fun (_:Unit)=>(some (.inr (())))))) fun (_:Unit)=>(some (.inr (()))))
theorem c38_le (n:Nat) (b0_0:List UInt8) (b0_1:Int) (b0_2:Int): @Le ((List UInt8×Int×Int×List UInt8×List UInt8×List UInt8×List UInt8×List (Gt.Pair)×List UInt8×Unit)⊕(Unit)) (c38 b0_0 b0_1 b0_2) ((orcN (n+5)).l 38 sg38 ((b0_0,b0_1,b0_2,()):List UInt8×Int×Int×Unit)):=by
 refine le_q (q38 (n+4) b0_0 b0_1 b0_2) ?_
 unfold c38 m38
 repeat' (first | (with_reducible exact le_some _) | (with_reducible refine le_br ?_ ?_)  | (with_reducible refine le_tri (fun s=>c45_le (n+3) s [47]) fun y s w hy hs hw=> ?_) | (with_reducible refine le_same ?_ ?_) | (with_reducible refine le_cut ?_ fun _=> ?_) | (with_reducible refine le_loop (fun _=> ?_) _) | (exact c45_le (n+3) _ _) | (exact c85_le (n+2) _ _) | (exact c86_le n _) | (exact c88_le (n+1) _) | (exact c89_le n _) | (exact c90_le (n+3) _ _) | (refine le_ob ?_ fun _=> ?_) | (refine le_oc ?_ (fun _=> ?_) fun _=> ?_) | exact le_refl _)
 simp only [hy,hs,hw,ob_some_eq,same_self']
noncomputable def c125 (c:Int):Option (Bool×Unit):=(ob (br (c==45) (some true) (some (c==95))) fun b1=>(ob (br b1 (some true) (some (c==46))) fun b2=>(some (b2,()))))
theorem c125_le (n:Nat) (c:Int): @Le (Bool×Unit) (c125 c) ((orcN (n+1)).d 125 [.int .u8 c] [.bool]):=by
 refine le_q (q125 n c) ?_
 unfold c125 m125
 repeat' (first | (with_reducible exact le_some _) | (with_reducible refine le_br ?_ ?_)  | (with_reducible refine le_same ?_ ?_) | (with_reducible refine le_cut ?_ fun _=> ?_) | (with_reducible refine le_loop (fun _=> ?_) _) | (refine le_ob ?_ fun _=> ?_) | (refine le_oc ?_ (fun _=> ?_) fun _=> ?_) | exact le_refl _)
noncomputable def c94 (s:(List UInt8)):Option (List UInt8×Unit):=(cutM (σ:=List (Int)×Unit) (R:=_) (itC (σ:=Int×List (Int)×Unit) (R:=_) (fun (t1:Int×List (Int)×Unit)=>(br (decide (t1.1<(len s))) (ob (at? s t1.1) fun c2=>(ob (α:=Bool×Unit) (c125 (UInt8.toNat c2:Int)) fun (r3:Bool×Unit)=>(br (!r3.1) (ob (at? s t1.1) fun c4=>(ob (cat? t1.2.1 [(UInt8.toNat c4:Int)]) fun l5=>(some (.inl ((IntKind.i64.wrap (t1.1+1)),l5,()))))) (ob (br (t1.1==0) (some true) (ob (at? s (IntKind.i64.wrap (t1.1 - 1))) fun c6=>(ob (α:=Bool×Unit) (c125 (UInt8.toNat c6:Int)) fun (r7:Bool×Unit)=>(some (!r7.1))))) fun b8=>(br b8 (ob (cat? t1.2.1 [45]) fun l9=>(some (.inl ((IntKind.i64.wrap (t1.1+1)),l9,())))) (some (.inl ((IntKind.i64.wrap (t1.1+1)),t1.2.1,())))))))) (some (.inr (.inl (t1.2.1,())))))) (0,[],())) fun (t10:List (Int)×Unit)=>(ob (str? t10.1) fun s11=>(some (s11,()))))
theorem c94_le (n:Nat) (s:(List UInt8)): @Le (List UInt8×Unit) (c94 s) ((orcN (n+2)).d 94 [.str s] [.str]):=by
 refine le_q (q94 (n+1) s) ?_
 unfold c94 m94
 repeat' (first | (with_reducible exact le_some _) | (with_reducible refine le_br ?_ ?_)  | (with_reducible refine le_same ?_ ?_) | (with_reducible refine le_cut ?_ fun _=> ?_) | (with_reducible refine le_loop (fun _=> ?_) _) | (exact c125_le n _) | (refine le_ob ?_ fun _=> ?_) | (refine le_oc ?_ (fun _=> ?_) fun _=> ?_) | exact le_refl _)
noncomputable def c42 (p:Gt.Purl):Option ((List UInt8×List UInt8×List UInt8×List UInt8×List (Gt.Pair)×List UInt8×Unit)⊕(Unit)):=(ob (α:=Gt.KindRule×Int×Unit) (c16 (Gt.Purl.kind p)) fun (r1:Gt.KindRule×Int×Unit)=>(cutM (σ:=List UInt8×List UInt8×List UInt8×List UInt8×List (Gt.Pair)×List UInt8×Unit) (R:=_) (br (Gt.KindRule.small r1.1) (ob (α:=List UInt8×Unit) (c93 (Gt.Purl.space p)) fun (r2:List UInt8×Unit)=>(ob (α:=List UInt8×Unit) (c93 (Gt.Purl.name p)) fun (r3:List UInt8×Unit)=>(some (.inl ((Gt.Purl.kind p),r2.1,r3.1,(Gt.Purl.version p),(Gt.Purl.qualifiers p),(Gt.Purl.sub p),()))))) (some (.inl ((Gt.Purl.kind p),(Gt.Purl.space p),(Gt.Purl.name p),(Gt.Purl.version p),(Gt.Purl.qualifiers p),(Gt.Purl.sub p),())))) fun (t4:List UInt8×List UInt8×List UInt8×List UInt8×List (Gt.Pair)×List UInt8×Unit)=>(cutM (σ:=List UInt8×List UInt8×List UInt8×List UInt8×List (Gt.Pair)×List UInt8×Unit) (R:=_) (br (Gt.KindRule.dashes r1.1) (ob (α:=List UInt8×Unit) (c94 t4.2.2.1) fun (r5:List UInt8×Unit)=>(some (.inl (t4.1,t4.2.1,r5.1,t4.2.2.2.1,t4.2.2.2.2.1,t4.2.2.2.2.2.1,())))) (some (.inl (t4.1,t4.2.1,t4.2.2.1,t4.2.2.2.1,t4.2.2.2.2.1,t4.2.2.2.2.2.1,())))) fun (t6:List UInt8×List UInt8×List UInt8×List UInt8×List (Gt.Pair)×List UInt8×Unit)=>(ob (cat? [] t6.2.2.2.2.1) fun l7=>(some (.inl (t6.1,t6.2.1,t6.2.2.1,t6.2.2.2.1,l7,t6.2.2.2.2.2.1,())))))))
theorem c42_le (n:Nat) (p:Gt.Purl): @Le ((List UInt8×List UInt8×List UInt8×List UInt8×List (Gt.Pair)×List UInt8×Unit)⊕(Unit)) (c42 p) ((orcN (n+4)).l 42 sg42 ((p,()):Gt.Purl×Unit)):=by
 refine le_q (q42 (n+3) p) ?_
 unfold c42 m42
 repeat' (first | (with_reducible exact le_some _) | (with_reducible refine le_br ?_ ?_)  | (with_reducible refine le_same ?_ ?_) | (with_reducible refine le_cut ?_ fun _=> ?_) | (with_reducible refine le_loop (fun _=> ?_) _) | (exact c16_le n _) | (exact c93_le (n+2) _) | (exact c94_le (n+1) _) | (refine le_ob ?_ fun _=> ?_) | (refine le_oc ?_ (fun _=> ?_) fun _=> ?_) | exact le_refl _)
noncomputable def c10 (s:(List UInt8)):Option (Gt.Purl×Int×Int×Unit):=(br (decide (3000<(len s))) (some ((Gt.Purl.mk [] [] [] [] [] []),0,3,())) (oc (α:=List UInt8×Int×Int×List UInt8×List UInt8×List UInt8×List UInt8×List (Gt.Pair)×List UInt8×Unit) (β:=Unit) (c38 s 0 (-1)) (fun (r1:List UInt8×Int×Int×List UInt8×List UInt8×List UInt8×List UInt8×List (Gt.Pair)×List UInt8×Unit)=>(br (decide (0≤r1.2.2.1)) (some ((Gt.Purl.mk [] [] [] [] [] []),r1.2.2.1,6,())) (ob (α:=List (Gt.Pair)) (c39 r1.2.2.2.2.2.2.2.1) fun (l3:List (Gt.Pair))=>(cutM (σ:=List UInt8×List UInt8×List UInt8×List UInt8×List (Gt.Pair)×List UInt8×List UInt8×List UInt8×List UInt8×List UInt8×List (Gt.Pair)×List UInt8×Unit) (R:=_) (itC (σ:=Int×List UInt8×List UInt8×List UInt8×List UInt8×List (Gt.Pair)×List UInt8×List UInt8×List UInt8×List UInt8×List UInt8×List (Gt.Pair)×List UInt8×Unit) (R:=_) (fun (t4:Int×List UInt8×List UInt8×List UInt8×List UInt8×List (Gt.Pair)×List UInt8×List UInt8×List UInt8×List UInt8×List UInt8×List (Gt.Pair)×List UInt8×Unit)=>(br (decide (t4.1<(len t4.2.2.2.2.2.2.2.2.2.2.2.1))) (ob (idx? t4.2.2.2.2.2.2.2.2.2.2.2.1 t4.1) fun j5=>(ob (get? t4.2.2.2.2.2.2.2.2.2.2.2.1 j5) fun y6=>(ob (idx? t4.2.2.2.2.2.2.2.2.2.2.2.1 (IntKind.i64.wrap (t4.1 - 1))) fun j7=>(ob (get? t4.2.2.2.2.2.2.2.2.2.2.2.1 j7) fun y8=>(br ((Gt.Pair.name y6)==(Gt.Pair.name y8)) (some (.inr (.inr ((Gt.Purl.mk [] [] [] [] [] []),0,5,())))) (some (.inl ((IntKind.i64.wrap (t4.1+1)),t4.2.1,t4.2.2.1,t4.2.2.2.1,t4.2.2.2.2.1,t4.2.2.2.2.2.1,t4.2.2.2.2.2.2.1,t4.2.2.2.2.2.2.2.1,t4.2.2.2.2.2.2.2.2.1,t4.2.2.2.2.2.2.2.2.2.1,t4.2.2.2.2.2.2.2.2.2.2.1,t4.2.2.2.2.2.2.2.2.2.2.2.1,t4.2.2.2.2.2.2.2.2.2.2.2.2.1,())))))))) (some (.inr (.inl (t4.2.1,t4.2.2.1,t4.2.2.2.1,t4.2.2.2.2.1,t4.2.2.2.2.2.1,t4.2.2.2.2.2.2.1,t4.2.2.2.2.2.2.2.1,t4.2.2.2.2.2.2.2.2.1,t4.2.2.2.2.2.2.2.2.2.1,t4.2.2.2.2.2.2.2.2.2.2.1,t4.2.2.2.2.2.2.2.2.2.2.2.1,t4.2.2.2.2.2.2.2.2.2.2.2.2.1,())))))) (1,[],[],[],[],[],[],r1.2.2.2.1,r1.2.2.2.2.1,r1.2.2.2.2.2.1,r1.2.2.2.2.2.2.1,l3,r1.2.2.2.2.2.2.2.2.1,())) fun (t9:List UInt8×List UInt8×List UInt8×List UInt8×List (Gt.Pair)×List UInt8×List UInt8×List UInt8×List UInt8×List UInt8×List (Gt.Pair)×List UInt8×Unit)=>(ob (α:=Int×Unit) (c25 (Gt.Purl.mk t9.2.2.2.2.2.2.1 t9.2.2.2.2.2.2.2.1 t9.2.2.2.2.2.2.2.2.1 t9.2.2.2.2.2.2.2.2.2.1 t9.2.2.2.2.2.2.2.2.2.2.1 t9.2.2.2.2.2.2.2.2.2.2.2.1)) fun (r10:Int×Unit)=>(br (r10.1 != 0) (some ((Gt.Purl.mk [] [] [] [] [] []),0,r10.1,())) (oc (α:=List UInt8×List UInt8×List UInt8×List UInt8×List (Gt.Pair)×List UInt8×Unit) (β:=Unit) (c42 (Gt.Purl.mk t9.2.2.2.2.2.2.1 t9.2.2.2.2.2.2.2.1 t9.2.2.2.2.2.2.2.2.1 t9.2.2.2.2.2.2.2.2.2.1 t9.2.2.2.2.2.2.2.2.2.2.1 t9.2.2.2.2.2.2.2.2.2.2.2.1)) (fun (r11:List UInt8×List UInt8×List UInt8×List UInt8×List (Gt.Pair)×List UInt8×Unit)=>(some ((Gt.Purl.mk r11.1 r11.2.1 r11.2.2.1 r11.2.2.2.1 r11.2.2.2.2.1 r11.2.2.2.2.2.1),0,0,()))) fun (_:Unit)=>none))))))) fun (_:Unit)=>none))
theorem c10_le (n:Nat) (s:(List UInt8)): @Le (Gt.Purl×Int×Int×Unit) (c10 s) ((orcN (n+6)).d 10 [.str s] [(.st 4),(.int .i64),(.int .i64)]):=by
 refine le_q (q10 (n+5) s) ?_
 unfold c10 m10
 repeat' (first | (with_reducible exact le_some _) | (with_reducible refine le_br ?_ ?_)  | (with_reducible refine le_same ?_ ?_) | (with_reducible refine le_cut ?_ fun _=> ?_) | (with_reducible refine le_loop (fun _=> ?_) _) | (exact c25_le (n+1) _) | (exact c38_le n _ _ _) | (exact c39_le (n+2) _) | (exact c42_le (n+1) _) | (refine le_ob ?_ fun _=> ?_) | (refine le_oc ?_ (fun _=> ?_) fun _=> ?_) | exact le_refl _)
noncomputable def c53 (s:(List UInt8)):Option (List UInt8×Unit):=(cutM (σ:=List (Int)×Unit) (R:=_) (itC (σ:=Int×List (Int)×Unit) (R:=_) (fun (t1:Int×List (Int)×Unit)=>(br (decide (t1.1<(len s))) (ob (at? s t1.1) fun c2=>(ob (α:=Bool×Unit) (c102 (UInt8.toNat c2:Int)) fun (r3:Bool×Unit)=>(ob (br r3.1 (some true) (ob (br (decide (48≤(UInt8.toNat c2:Int))) (some (decide ((UInt8.toNat c2:Int)≤57))) (some false)) fun b4=>(some b4))) fun b5=>(ob (br b5 (some true) (ob (α:=Int×Unit) (c64 [46,45,95,126] (UInt8.toNat c2:Int)) fun (r6:Int×Unit)=>(some (decide (0≤r6.1))))) fun b7=>(br b7 (ob (cat? t1.2.1 [(UInt8.toNat c2:Int)]) fun l8=>(some (.inl ((IntKind.i64.wrap (t1.1+1)),l8,())))) (ob (part? [48,49,50,51,52,53,54,55,56,57,65,66,67,68,69,70] (IntKind.u8.wrap (Int.tdiv (UInt8.toNat c2:Int) 16)) (IntKind.u8.wrap ((IntKind.u8.wrap (Int.tdiv (UInt8.toNat c2:Int) 16))+1))) fun s9=>(ob (cat? ([37]:List UInt8) s9) fun s10=>(ob (part? [48,49,50,51,52,53,54,55,56,57,65,66,67,68,69,70] (Int.tmod (UInt8.toNat c2:Int) 16) (IntKind.u8.wrap ((Int.tmod (UInt8.toNat c2:Int) 16)+1))) fun s11=>(ob (cat? s10 s11) fun s12=>(ob (cat? t1.2.1 (bytesOf s12)) fun l13=>(some (.inl ((IntKind.i64.wrap (t1.1+1)),l13,()))))))))))))) (some (.inr (.inl (t1.2.1,())))))) (0,[],())) fun (t14:List (Int)×Unit)=>(ob (str? t14.1) fun s15=>(some (s15,()))))
theorem c53_le (n:Nat) (s:(List UInt8)): @Le (List UInt8×Unit) (c53 s) ((orcN (n+2)).d 53 [.str s] [.str]):=by
 refine le_q (q53 (n+1) s) ?_
 unfold c53 m53
 repeat' (first | (with_reducible exact le_some _) | (with_reducible refine le_br ?_ ?_)  | (with_reducible refine le_same ?_ ?_) | (with_reducible refine le_cut ?_ fun _=> ?_) | (with_reducible refine le_loop (fun _=> ?_) _) | (exact c64_le n _ _) | (exact c102_le n _) | (refine le_ob ?_ fun _=> ?_) | (refine le_oc ?_ (fun _=> ?_) fun _=> ?_) | exact le_refl _)
noncomputable def c54 (s:(List UInt8)):Option (List UInt8×Unit):=(cutM (σ:=List (List UInt8)×Unit) (R:=_) (ob (α:=List (List UInt8)×Unit) (c63 s) fun (r1:List (List UInt8)×Unit)=>(itC (σ:=List (List UInt8)×Int×Unit) (R:=_) (fun (t2:List (List UInt8)×Int×Unit)=>(br (decide (t2.2.1<(len r1.1))) (ob (at? r1.1 t2.2.1) fun y3=>(ob (α:=List UInt8×Unit) (c53 y3) fun (r4:List UInt8×Unit)=>(ob (cat? t2.1 [r4.1]) fun l5=>(some (.inl (l5,(IntKind.i64.wrap (t2.2.1+1)),())))))) (some (.inr (.inl (t2.1,())))))) ([],0,()))) fun (t6:List (List UInt8)×Unit)=>(ob (α:=List UInt8×Unit) (c45 t6.1 [47]) fun (r7:List UInt8×Unit)=>(some (r7.1,()))))
theorem c54_le (n:Nat) (s:(List UInt8)): @Le (List UInt8×Unit) (c54 s) ((orcN (n+3)).d 54 [.str s] [.str]):=by
 refine le_q (q54 (n+2) s) ?_
 unfold c54 m54
 repeat' (first | (with_reducible exact le_some _) | (with_reducible refine le_br ?_ ?_)  | (with_reducible refine le_same ?_ ?_) | (with_reducible refine le_cut ?_ fun _=> ?_) | (with_reducible refine le_loop (fun _=> ?_) _) | (exact c45_le (n+1) _ _) | (exact c53_le n _) | (exact c63_le n _) | (refine le_ob ?_ fun _=> ?_) | (refine le_oc ?_ (fun _=> ?_) fun _=> ?_) | exact le_refl _)
noncomputable def c52 (p:Gt.Purl):Option (List UInt8×Unit):=(ob (cat? ([112,107,103,58]:List UInt8) (Gt.Purl.kind p)) fun s1=>(ob (cat? s1 [47]) fun s2=>(cutM (σ:=List UInt8×Unit) (R:=_) (br ((Gt.Purl.space p) != []) (ob (α:=List UInt8×Unit) (c54 (Gt.Purl.space p)) fun (r3:List UInt8×Unit)=>(ob (cat? r3.1 [47]) fun s4=>(ob (cat? s2 s4) fun s5=>(some (.inl (s5,())))))) (some (.inl (s2,())))) fun (t6:List UInt8×Unit)=>(ob (α:=List UInt8×Unit) (c53 (Gt.Purl.name p)) fun (r7:List UInt8×Unit)=>(ob (cat? t6.1 r7.1) fun s8=>(some (s8,())))))))
theorem c52_le (n:Nat) (p:Gt.Purl): @Le (List UInt8×Unit) (c52 p) ((orcN (n+4)).d 52 [.st 4 p] [.str]):=by
 refine le_q (q52 (n+3) p) ?_
 unfold c52 m52
 repeat' (first | (with_reducible exact le_some _) | (with_reducible refine le_br ?_ ?_)  | (with_reducible refine le_same ?_ ?_) | (with_reducible refine le_cut ?_ fun _=> ?_) | (with_reducible refine le_loop (fun _=> ?_) _) | (exact c53_le (n+1) _) | (exact c54_le n _) | (refine le_ob ?_ fun _=> ?_) | (refine le_oc ?_ (fun _=> ?_) fun _=> ?_) | exact le_refl _)
noncomputable def c14 (p:Gt.Purl):Option (List UInt8×Int×Unit):=(ob (α:=Int×Unit) (c25 p) fun (r1:Int×Unit)=>(br (r1.1 != 0) (some ([],r1.1,())) (oc (α:=List UInt8×List UInt8×List UInt8×List UInt8×List (Gt.Pair)×List UInt8×Unit) (β:=Unit) (c42 p) (fun (r2:List UInt8×List UInt8×List UInt8×List UInt8×List (Gt.Pair)×List UInt8×Unit)=>(ob (α:=List UInt8×Unit) (c52 (Gt.Purl.mk r2.1 r2.2.1 r2.2.2.1 r2.2.2.2.1 r2.2.2.2.2.1 r2.2.2.2.2.2.1)) fun (r4:List UInt8×Unit)=>(cutM (σ:=List UInt8×List UInt8×List UInt8×List UInt8×List UInt8×List (Gt.Pair)×List UInt8×Unit) (R:=_) (br (r2.2.2.2.1 != []) (ob (α:=List UInt8×Unit) (c53 r2.2.2.2.1) fun (r5:List UInt8×Unit)=>(ob (cat? ([64]:List UInt8) r5.1) fun s6=>(ob (cat? r4.1 s6) fun s7=>(some (.inl (s7,r2.1,r2.2.1,r2.2.2.1,r2.2.2.2.1,r2.2.2.2.2.1,r2.2.2.2.2.2.1,())))))) (some (.inl (r4.1,r2.1,r2.2.1,r2.2.2.1,r2.2.2.2.1,r2.2.2.2.2.1,r2.2.2.2.2.2.1,())))) fun (t8:List UInt8×List UInt8×List UInt8×List UInt8×List UInt8×List (Gt.Pair)×List UInt8×Unit)=>(cutM (σ:=List UInt8×List UInt8×List UInt8×List UInt8×List UInt8×List (Gt.Pair)×List UInt8×Unit) (R:=_) (itC (σ:=List UInt8×List (Gt.Pair)×Int×List UInt8×List UInt8×List UInt8×List UInt8×List (Gt.Pair)×List UInt8×Unit) (R:=_) (fun (t9:List UInt8×List (Gt.Pair)×Int×List UInt8×List UInt8×List UInt8×List UInt8×List (Gt.Pair)×List UInt8×Unit)=>(br (decide (t9.2.2.1<(len t8.2.2.2.2.2.1))) (ob (at? t9.2.1 t9.2.2.1) fun y10=>(cutM (σ:=List UInt8×Unit) (R:=_) (br (t9.2.2.1==0) (some (.inl ([63],()))) (some (.inl ([38],())))) fun (t11:List UInt8×Unit)=>(ob (cat? t11.1 (Gt.Pair.name y10)) fun s12=>(ob (cat? s12 [61]) fun s13=>(ob (α:=List UInt8×Unit) (c53 (Gt.Pair.value y10)) fun (r14:List UInt8×Unit)=>(ob (cat? s13 r14.1) fun s15=>(ob (cat? t9.1 s15) fun s16=>(some (.inl (s16,t9.2.1,(IntKind.i64.wrap (t9.2.2.1+1)),t9.2.2.2.1,t9.2.2.2.2.1,t9.2.2.2.2.2.1,t9.2.2.2.2.2.2.1,t9.2.2.2.2.2.2.2.1,t9.2.2.2.2.2.2.2.2.1,())))))))))) (some (.inr (.inl (t9.1,t9.2.2.2.1,t9.2.2.2.2.1,t9.2.2.2.2.2.1,t9.2.2.2.2.2.2.1,t9.2.2.2.2.2.2.2.1,t9.2.2.2.2.2.2.2.2.1,())))))) (t8.1,t8.2.2.2.2.2.1,0,t8.2.1,t8.2.2.1,t8.2.2.2.1,t8.2.2.2.2.1,t8.2.2.2.2.2.1,t8.2.2.2.2.2.2.1,())) fun (t17:List UInt8×List UInt8×List UInt8×List UInt8×List UInt8×List (Gt.Pair)×List UInt8×Unit)=>(cutM (σ:=List UInt8×Unit) (R:=_) (br (t17.2.2.2.2.2.2.1 != []) (ob (α:=List UInt8×Unit) (c54 t17.2.2.2.2.2.2.1) fun (r18:List UInt8×Unit)=>(ob (cat? ([35]:List UInt8) r18.1) fun s19=>(ob (cat? t17.1 s19) fun s20=>(some (.inl (s20,())))))) (some (.inl (t17.1,())))) fun (t21:List UInt8×Unit)=>(br (decide (3000<(len t21.1))) (some ([],3,())) (some (t21.1,0,())))))))) fun (_:Unit)=>none)))
theorem c14_le (n:Nat) (p:Gt.Purl): @Le (List UInt8×Int×Unit) (c14 p) ((orcN (n+5)).d 14 [.st 4 p] [.str,(.int .i64)]):=by
 refine le_q (q14 (n+4) p) ?_
 unfold c14 m14
 repeat' (first | (with_reducible exact le_some _) | (with_reducible refine le_br ?_ ?_)  | (with_reducible refine le_same ?_ ?_) | (with_reducible refine le_cut ?_ fun _=> ?_) | (with_reducible refine le_loop (fun _=> ?_) _) | (exact c25_le n _) | (exact c42_le n _) | (exact c52_le n _) | (exact c53_le (n+2) _) | (exact c54_le (n+1) _) | (refine le_ob ?_ fun _=> ?_) | (refine le_oc ?_ (fun _=> ?_) fun _=> ?_) | exact le_refl _)
noncomputable def c13  :Option (Bool×Unit):=(ob (α:=Gt.Purl×Int×Int×Unit) (c10 [80,75,71,58,83,116,97,103,101,100,47,77,121,95,95,84,111,111,108,46,88,64,49,46,48]) fun (r1:Gt.Purl×Int×Int×Unit)=>(ob (α:=List UInt8×Int×Unit) (c14 r1.1) fun (r2:List UInt8×Int×Unit)=>(ob (br (r1.2.1==0) (some (r1.2.2.1==0)) (some false)) fun b3=>(ob (br b3 (some (r2.2.1==0)) (some false)) fun b4=>(ob (br b4 (some (r2.1==[112,107,103,58,115,116,97,103,101,100,47,109,121,45,116,111,111,108,45,120,64,49,46,48])) (some false)) fun b5=>(some (b5,())))))))
theorem c13_le (n:Nat)  : @Le (Bool×Unit) (c13 ) ((orcN (n+7)).d 13 [] [.bool]):=by
 refine le_q (q13 (n+6)) ?_
 unfold c13 m13
 repeat' (first | (with_reducible exact le_some _) | (with_reducible refine le_br ?_ ?_)  | (with_reducible refine le_same ?_ ?_) | (with_reducible refine le_cut ?_ fun _=> ?_) | (with_reducible refine le_loop (fun _=> ?_) _) | (exact c10_le n _) | (exact c14_le (n+1) _) | (refine le_ob ?_ fun _=> ?_) | (refine le_oc ?_ (fun _=> ?_) fun _=> ?_) | exact le_refl _)
noncomputable def c20  :Option (List (List UInt8)×Unit):=(some ([[100,111,116,116,101,100],[114,101,118,105,115,101,100],[115,116,97,103,101,100],[113,117,97,108,105,102,105,101,100],[112,108,97,105,110]],()))
theorem c20_le (n:Nat)  : @Le (List (List UInt8)×Unit) (c20 ) ((orcN (n+1)).d 20 [] [(.sl .str)]):=by
 refine le_q (q20 n) ?_
 unfold c20 m20
 repeat' (first | (with_reducible exact le_some _) | (with_reducible refine le_br ?_ ?_)  | (with_reducible refine le_same ?_ ?_) | (with_reducible refine le_cut ?_ fun _=> ?_) | (with_reducible refine le_loop (fun _=> ?_) _) | (refine le_ob ?_ fun _=> ?_) | (refine le_oc ?_ (fun _=> ?_) fun _=> ?_) | exact le_refl _)
noncomputable def c57 (kind:(List UInt8)):Option (Int×Unit):=(cutM (σ:=Unit) (R:=_) (ob (α:=List (List UInt8)×Unit) (c20) fun (r1:List (List UInt8)×Unit)=>(itC (σ:=Int×Unit) (R:=_) (fun (t2:Int×Unit)=>(br (decide (t2.1<(len r1.1))) (ob (at? r1.1 t2.1) fun y3=>(br (y3==kind) (some (.inr (.inr (t2.1,())))) (some (.inl ((IntKind.i64.wrap (t2.1+1)),()))))) (some (.inr (.inl (())))))) (0,()))) fun (_:Unit)=>(some ((-1),())))
theorem c57_le (n:Nat) (kind:(List UInt8)): @Le (Int×Unit) (c57 kind) ((orcN (n+2)).d 57 [.str kind] [(.int .i64)]):=by
 refine le_q (q57 (n+1) kind) ?_
 unfold c57 m57
 repeat' (first | (with_reducible exact le_some _) | (with_reducible refine le_br ?_ ?_)  | (with_reducible refine le_same ?_ ?_) | (with_reducible refine le_cut ?_ fun _=> ?_) | (with_reducible refine le_loop (fun _=> ?_) _) | (exact c20_le n) | (refine le_ob ?_ fun _=> ?_) | (refine le_oc ?_ (fun _=> ?_) fun _=> ?_) | exact le_refl _)
noncomputable def c58  :Option (List (Gt.KindRule)×Unit):=(some ([(Gt.KindRule.mk [100,111,116,116,101,100] 2 true false 1),(Gt.KindRule.mk [114,101,118,105,115,101,100] 3 true false 2),(Gt.KindRule.mk [115,116,97,103,101,100] 1 true true 3),(Gt.KindRule.mk [113,117,97,108,105,102,105,101,100] 3 false false 4),(Gt.KindRule.mk [112,108,97,105,110] 2 false false 5)],()))
theorem c58_le (n:Nat)  : @Le (List (Gt.KindRule)×Unit) (c58 ) ((orcN (n+1)).d 58 [] [(.sl (.st 2))]):=by
 refine le_q (q58 n) ?_
 unfold c58 m58
 repeat' (first | (with_reducible exact le_some _) | (with_reducible refine le_br ?_ ?_)  | (with_reducible refine le_same ?_ ?_) | (with_reducible refine le_cut ?_ fun _=> ?_) | (with_reducible refine le_loop (fun _=> ?_) _) | (refine le_ob ?_ fun _=> ?_) | (refine le_oc ?_ (fun _=> ?_) fun _=> ?_) | exact le_refl _)
noncomputable def c17 (kind:(List UInt8)):Option (Gt.KindRule×Int×Unit):=(ob (α:=Int×Unit) (c57 kind) fun (r1:Int×Unit)=>(br (decide (0≤r1.1)) (ob (α:=List (Gt.KindRule)×Unit) (c58) fun (r2:List (Gt.KindRule)×Unit)=>(ob (at? r2.1 r1.1) fun y3=>(some (y3,0,())))) (some ((Gt.KindRule.mk [] 0 false false 0),7,()))))
theorem c17_le (n:Nat) (kind:(List UInt8)): @Le (Gt.KindRule×Int×Unit) (c17 kind) ((orcN (n+3)).d 17 [.str kind] [(.st 2),(.int .i64)]):=by
 refine le_q (q17 (n+2) kind) ?_
 unfold c17 m17
 repeat' (first | (with_reducible exact le_some _) | (with_reducible refine le_br ?_ ?_)  | (with_reducible refine le_same ?_ ?_) | (with_reducible refine le_cut ?_ fun _=> ?_) | (with_reducible refine le_loop (fun _=> ?_) _) | (exact c57_le n _) | (exact c58_le (n+1)) | (refine le_ob ?_ fun _=> ?_) | (refine le_oc ?_ (fun _=> ?_) fun _=> ?_) | exact le_refl _)
end Pe.Tryd
end
section
/- PROVED: the small name reads and prints as it is told, at every depth from 7 on; the rules of all kinds are what is specified, and the kinds are. -/
set_option maxRecDepth 100000
namespace Pe.Tryd
open Go Go.Proofs Pe Pe.Told
theorem c13_eval:c13=some (true,()):=by kernel_rfl
theorem told (n:Nat):(orcN (n+7)).d 13 [] [.bool]=some (true,()):=c13_le n _ c13_eval
def dotted:List UInt8:=[100,111,116,116,101,100]
def revised:List UInt8:=[114,101,118,105,115,101,100]
def staged:List UInt8:=[115,116,97,103,101,100]
def qualified:List UInt8:=[113,117,97,108,105,102,105,101,100]
def plainK:List UInt8:=[112,108,97,105,110]
def ruleS (k:List UInt8):Option Gt.KindRule :=
 if dotted=k then some ⟨dotted,2,true,false,1⟩ else if revised=k then some ⟨revised,3,true,false,2⟩ else if staged=k then some ⟨staged,1,true,true,3⟩
 else if qualified=k then some ⟨qualified,3,false,false,4⟩ else if plainK=k then some ⟨plainK,2,false,false,5⟩ else none
def ruleR (k:List UInt8):Gt.KindRule×Int×Unit:=match ruleS k with
 | some r=>(r,0,())
 | none=>(⟨[],0,false,false,0⟩,7,())
theorem beqF {a b:List UInt8} (h:¬a=b):(a==b)=false:=by simpa using h
theorem c16_eq (k:List UInt8):c16 k=some (ruleR k):=by
 by_cases h1:dotted=k
 ·subst h1;kernel_rfl
 by_cases h2:revised=k
 ·subst h2;kernel_rfl
 by_cases h3:staged=k
 ·subst h3;kernel_rfl
 by_cases h4:qualified=k
 ·subst h4;kernel_rfl
 by_cases h5:plainK=k
 ·subst h5;kernel_rfl
 have:c55 k=some (-1,()):=by
  have e1:=beqF h1;have e2:=beqF h2;have e3:=beqF h3;have e4:=beqF h4;have e5:=beqF h5
  simp only [dotted,revised,staged,qualified,plainK] at e1 e2 e3 e4 e5
  simp [c55,c56,ob,itC,iter,br,at?,IntKind.wrap,IntKind.bits,IntKind.signed,e1,e2,e3,e4,e5,cutM]
 unfold c16
 rw [this]
 simp [ruleR,ruleS,h1,h2,h3,h4,h5,ob,br]
theorem c17_eq (k:List UInt8):c17 k=some (ruleR k):=by
 by_cases h1:dotted=k
 ·subst h1;kernel_rfl
 by_cases h2:revised=k
 ·subst h2;kernel_rfl
 by_cases h3:staged=k
 ·subst h3;kernel_rfl
 by_cases h4:qualified=k
 ·subst h4;kernel_rfl
 by_cases h5:plainK=k
 ·subst h5;kernel_rfl
 have:c57 k=some (-1,()):=by
  have e1:=beqF h1;have e2:=beqF h2;have e3:=beqF h3;have e4:=beqF h4;have e5:=beqF h5
  simp only [dotted,revised,staged,qualified,plainK] at e1 e2 e3 e4 e5
  simp [c57,c20,ob,itC,iter,br,at?,len,IntKind.wrap,IntKind.bits,IntKind.signed,e1,e2,e3,e4,e5,cutM]
 unfold c17
 rw [this]
 simp [ruleR,ruleS,h1,h2,h3,h4,h5,ob,br]
theorem L16 (n:Nat) (k:List UInt8):(orcN (n+3)).d 16 [.str k] [(.st 2),(.int .i64)]=some (ruleR k):=c16_le n k _ (c16_eq k)
theorem L17 (n:Nat) (k:List UInt8):(orcN (n+3)).d 17 [.str k] [(.st 2),(.int .i64)]=some (ruleR k):=c17_le n k _ (c17_eq k)
end Pe.Tryd
end
