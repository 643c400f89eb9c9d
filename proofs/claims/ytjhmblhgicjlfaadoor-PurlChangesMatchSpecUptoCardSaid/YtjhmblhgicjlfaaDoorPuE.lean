/- PROVED HERE: a part of the seat's proofs; see the text that holds the claim's theorem. -/
import Derived.Test.YtjhmblhgicjlfaaDoorPuC
import Derived.Test.YtjhmblhgicjlfaaDoorPuSrt
section
/- Plain words of names: letters, escapes, small letters, dashes; and the models of the functions that tell them. -/
set_option maxRecDepth 100000
namespace Pe.Tryd
open Go Go.Proofs Pe Pe.Told
theorem all8 {p:UInt8→Bool} (h:((List.range 256).all fun n=>p (UInt8.ofNat n))=true) (c:UInt8):p c=true:=by
 have:=List.all_eq_true.1 h c.toNat (by simpa using c.toNat_lt)
 simpa using this
theorem eq8 {α:Type} [DecidableEq α] {f g:UInt8→α} (h:((List.range 256).all fun n=>decide (f (UInt8.ofNat n)=g (UInt8.ofNat n)))=true) (c:UInt8):f c=g c:=by
 have:=all8 (p:=fun c=>decide (f c=g c)) h c
 simpa using this
def isDash (c:UInt8):Bool:=c==45||c==95||c==46
def ctl (c:UInt8):Bool:=decide (c<32)||c==127
def plainB (c:UInt8):Bool:=decide (97≤c)&&decide (c≤122)||decide (65≤c)&&decide (c≤90)||decide (48≤c)&&decide (c≤57)||c==46||c==45||c==95||c==126
def low (c:UInt8):UInt8:=bif decide (65≤c)&&decide (c≤90) then c+32 else c
def nameB (c:UInt8) (first:Bool):Bool:=decide (97≤c)&&decide (c≤122)||(!first&&(decide (48≤c)&&decide (c≤57)||c==46||c==45||c==95))
def digs:List UInt8:=[48,49,50,51,52,53,54,55,56,57,65,66,67,68,69,70]
def escB (c:UInt8):List UInt8:=bif plainB c then [c] else [37,digs.getD (c / 16).toNat 0,digs.getD (c % 16).toNat 0]
def escS (s:List UInt8):List UInt8:=s.flatMap escB
def smallS (s:List UInt8):List UInt8:=s.map low
def dashS:Bool→List UInt8→List UInt8
 | _,[]=>[]
 | b,c::r=>bif isDash c then (bif b then [] else [45])++dashS true r else c::dashS false r
theorem s125 (o:Orc Sx) (c:UInt8):m125 o (c.toNat:Int)=some (isDash c,()):=by
 simp only [m125,ob_some_eq,br_some_eq]
 exact congrArg some (Prod.ext (eq8 (f:=fun c=>bif (bif ((c.toNat:Int)==45) then true else ((c.toNat:Int)==95)) then true else ((c.toNat:Int)==46)) (g:=isDash) (by decide+kernel) c) rfl)
theorem s122 (o:Orc Sx) (c:UInt8) (f:Bool):m122 o (c.toNat:Int) f=some (nameB c f,()):=by
 cases f
 ·exact eq8 (f:=fun c=>m122 o (c.toNat:Int) false) (g:=fun c=>some (nameB c false,())) (by kernel_rfl) c
 ·exact eq8 (f:=fun c=>m122 o (c.toNat:Int) true) (g:=fun c=>some (nameB c true,())) (by kernel_rfl) c
def letB (c:UInt8):Bool:=decide (97≤c)&&decide (c≤122)||decide (65≤c)&&decide (c≤90)
theorem s102 (o:Orc Sx) (c:UInt8):m102 o (c.toNat:Int)=some (letB c,()) :=
 eq8 (f:=fun c=>m102 o (c.toNat:Int)) (g:=fun c=>some (letB c,())) (by kernel_rfl) c
theorem L125 (n:Nat) (c:UInt8): @Eq (Option (Bool×Unit)) ((orcN (n+1)).d 125 [.int .u8 (c.toNat:Int)] [.bool]) (some (isDash c,())):=(q125 n _).trans (s125 _ c)
theorem L122 (n:Nat) (c:UInt8) (f:Bool): @Eq (Option (Bool×Unit)) ((orcN (n+1)).d 122 [.int .u8 (c.toNat:Int),.bool f] [.bool]) (some (nameB c f,())):=(q122 n _ _).trans (s122 _ c f)
theorem L102 (n:Nat) (c:UInt8): @Eq (Option (Bool×Unit)) ((orcN (n+1)).d 102 [.int .u8 (c.toNat:Int)] [.bool]) (some (letB c,())):=(q102 n _).trans (s102 _ c)
theorem L64 (n:Nat) (s:List UInt8) (c:Int): @Eq (Option (Int×Unit)) ((orcN (n+1)).d 64 [.str s,.int .u8 c] [.int .i64]) (some (Lib.indexByte s (UInt8.ofNat (Int.toNat c)),())):=c64_le n s c _ rfl
theorem L69 (n:Nat) (s:List UInt8) (c:UInt8): @Eq (Option (Bool×Unit)) ((orcN (n+1)).d 69 [.str s,.str [c]] [.bool]) (some (decide (0≤Lib.indexByte s c),())):=by kernel_rfl
theorem L106 (n:Nat) {s:List UInt8} (c:UInt8) (h:s.length≤4000000000): @Eq (Option (List (List UInt8)×Unit)) ((orcN (n+1)).d 106 [.str s,.str [c]] [.sl .str]) (some (splitS c s,())) :=
 c106_le n s [c] _ (by show (bif Nat.ble s.length 4000000000 then some (splitS c s,()) else none)=_;rw [show Nat.ble s.length 4000000000=true by rw [Nat.ble_eq];exact h];rfl)
theorem L45 (n:Nat) {l:List (List UInt8)} {s:List UInt8} (h1:l.length≤1000000) (h2:(Lib.join l s).length≤100000000): @Eq (Option (List UInt8×Unit)) ((orcN (n+1)).d 45 [.sl .str l,.str s] [.str]) (some (Lib.join l s,())) :=
 c45_le n l s _ (by unfold c45;rw [show Nat.ble l.length 1000000=true by rw [Nat.ble_eq];exact h1,show Nat.ble (Lib.join l s).length 100000000=true by rw [Nat.ble_eq];exact h2];rfl)
theorem strOf_bytes (s:List UInt8):strOf (bytesOf s)=s:=by simp [strOf,bytesOf,Function.comp_def]
theorem str?_bytes (s:List UInt8):str? (bytesOf s)=some s:=by
 unfold str?
 have:((bytesOf s).all fun n=>decide (0≤n)&&decide (n<256))=true:=by
  rw [List.all_eq_true]
  intro x hx
  simp only [bytesOf,List.mem_map] at hx
  obtain ⟨c,_,rfl⟩:=hx
  have:=c.toNat_lt
  simp;omega
 rw [this,strOf_bytes];rfl
theorem bytes_app (a b:List UInt8):bytesOf (a++b)=bytesOf a++bytesOf b:=by simp [bytesOf]
theorem bytes_len (a:List UInt8):(bytesOf a).length=a.length:=by simp [bytesOf]
theorem cat?_bytes {a b:List UInt8} (h:a.length+b.length≤lim):cat? (bytesOf a) (bytesOf b)=some (bytesOf (a++b)):=by
 rw [cat?_ok (by simpa [bytes_len] using h),bytes_app]
theorem cat?_nil {α:Type} (s:List α) (h:s.length≤lim):cat? [] s=some s:=by rw [cat?_ok (by simpa using h)];rfl
theorem ctl_eq (c:UInt8):(bif decide ((c.toNat:Int)<32) then true else ((c.toNat:Int)==127))=ctl c :=
 eq8 (f:=fun c=>bif decide ((c.toNat:Int)<32) then true else ((c.toNat:Int)==127)) (g:=ctl) (by decide+kernel) c
theorem any_range (s:List UInt8) (p:UInt8→Bool):((List.range s.length).any fun k=>p (s.getD k 0))=s.any p:=by
 rw [Bool.eq_iff_iff]
 simp only [List.any_eq_true,List.mem_range]
 constructor
 ·rintro ⟨k,hk,h⟩
  refine ⟨s[k],List.getElem_mem hk,?_⟩
  simpa [List.getD_eq_getElem?_getD,hk] using h
 ·rintro ⟨x,hx,h⟩
  obtain ⟨k,hk,rfl⟩:=List.getElem_of_mem hx
  exact ⟨k,hk,by simpa [List.getD_eq_getElem?_getD,hk] using h⟩
theorem s66 (o:Orc Sx) {s:List UInt8} (h:s.length≤1000000000):m66 o s=some (s.any ctl,()):=by
 unfold m66
 rw [loop_any s.length (fun k=>ctl (s.getD k 0)) (.inr (true,())) (.inl ()) (fun k hk=> ?_) ?_,any_range]
 ·cases s.any ctl<;>rfl
 ·simp [len_lt,br_false]
 ·simp only [len_lt,hk,decide_true,at?_get hk,ob_some_eq,br_some_eq,ctl_eq,wrap_succ hk (by omega)]
  cases h2:ctl s[k]<;>simp [List.getD_eq_getElem?_getD,hk,h2]
theorem s71 (o:Orc Sx) {s:List UInt8} (h:s.length≤1000000000):m71 o s=some (!s.any ctl,()):=by
 unfold m71
 rw [loop_any s.length (fun k=>ctl (s.getD k 0)) (.inr (false,())) (.inl ()) (fun k hk=> ?_) ?_,any_range]
 ·cases s.any ctl<;>rfl
 ·simp [len_lt,br_false]
 ·simp only [len_lt,hk,decide_true,at?_get hk,ob_some_eq,br_some_eq,ctl_eq,wrap_succ hk (by omega)]
  cases h2:ctl s[k]<;>simp [List.getD_eq_getElem?_getD,hk,h2]
end Pe.Tryd
end
section
/- The models of the functions on texts of names: qualifiers' names, segments, small letters, dashes, escapes, paths. -/
set_option maxRecDepth 100000
namespace Pe.Tryd
open Go Go.Proofs Pe Pe.Told
theorem bif_if {α:Type} {X P:Bool} {a b:α} (h:X=P):some (bif X then a else b)=if P=true then some a else some b:=by subst h;cases X<;>rfl
theorem br_eq {α:Type} {X P:Bool} {a b:Option α} (h:X=P):br X a b=br P a b:=by rw [h]
theorem any_rangeG {α:Type} (s:List α) (d:α) (p:α→Bool):((List.range s.length).any fun k=>p (s.getD k d))=s.any p:=by
 rw [Bool.eq_iff_iff]
 simp only [List.any_eq_true,List.mem_range]
 constructor
 ·rintro ⟨k,hk,h⟩
  refine ⟨s[k],List.getElem_mem hk,?_⟩
  simpa [List.getD_eq_getElem?_getD,hk] using h
 ·rintro ⟨x,hx,h⟩
  obtain ⟨k,hk,rfl⟩:=List.getElem_of_mem hx
  exact ⟨k,hk,by simpa [List.getD_eq_getElem?_getD,hk] using h⟩
theorem getD_get {α:Type} {s:List α} {k:Nat} (d:α) (h:k<s.length):s.getD k d=s[k]:=by simp [List.getD_eq_getElem?_getD,h]
theorem cut_of {σ R:Type} {x:Option (σ⊕R)} {r:σ⊕R} {g:σ→Option R} {y:Option R} (h:x=some r) (h2:cutM (some r) g=y):cutM x g=y:=by rw [h,h2]
def nameS (s:List UInt8):Bool:=bif (List.range s.length).any (fun k=> !nameB (s.getD k 0) ((k:Int)==0)) then false else s != []
theorem s108 (n:Nat) {s:List UInt8} (h:s.length≤1000000000):m108 (orcN (n+1)) s=some (nameS s,()):=by
 unfold m108
 rw [loop_any s.length (fun k=> !nameB (s.getD k 0) ((k:Int)==0)) (.inr (false,())) (.inl ()) (fun k hk=> ?_) ?_]
 ·unfold nameS;cases (List.range s.length).any (fun k=> !nameB (s.getD k 0) ((k:Int)==0))<;>rfl
 ·simp [len_lt,br_false]
 ·simp only [len_lt,hk,decide_true,br_true,at?_get hk,ob_some_eq,L122,wrap_succ hk (by omega),getD_get 0 hk]
  rw [br_if]
theorem s70 (o:Orc Sx) {s:List UInt8} (h:s.length≤1000000000):m70 o s=some (nameS s,()):=by
 unfold m70
 rw [loop_any s.length (fun k=> !nameB (s.getD k 0) ((k:Int)==0)) (.inr (false,())) (.inl ()) (fun k hk=> ?_) ?_]
 ·unfold nameS;cases (List.range s.length).any (fun k=> !nameB (s.getD k 0) ((k:Int)==0))<;>rfl
 ·simp [len_lt,br_false]
 ·simp only [len_lt,hk,decide_true,at?_get hk,ob_some_eq,wrap_succ hk (by omega),getD_get 0 hk,br_some_eq,cond_true]
  refine bif_if ?_
  generalize s[k]=c
  generalize ((k:Int)==0)=f
  cases f
  ·revert c;exact eq8 (by decide+kernel)
  ·revert c;exact eq8 (by decide+kernel)
def segs (s:List UInt8):List (List UInt8):=bif s==[] then [] else splitS 47 s
theorem s63 (n:Nat) {s:List UInt8} (h:s.length≤1000000000):m63 (orcN (n+1)) s=some (segs s,()):=by
 unfold m63 segs
 rw [L106 n 47 (by omega)]
 cases (s==[])<;>rfl
theorem s109 (n:Nat) {s:List UInt8} (h:s.length≤1000000000):m109 (orcN (n+1)) s=some (segs s,()):=by
 unfold m109 segs
 rw [L106 n 47 (by omega)]
 cases (s==[])<;>rfl
def segBad (dots:Bool) (x:List UInt8):Bool:=bif x==[] then true else bif dots then (bif x==[46] then true else x==[46,46]) else false
def pathBad (l:List (List UInt8)) (dots:Bool):Bool:=bif l.any (segBad dots) then true else decide (10<len l)
theorem s62 (o:Orc Sx) {l:List (List UInt8)} (dots:Bool) (h:l.length≤1000000000):m62 o l dots=some (pathBad l dots,()):=by
 unfold m62
 rw [loop_any l.length (fun k=>segBad dots (l.getD k [])) (.inr (true,())) (.inl ()) (fun k hk=> ?_) ?_,any_rangeG]
 ·unfold pathBad;cases l.any (segBad dots)<;>rfl
 ·simp [len_lt,br_false]
 ·simp only [len_lt,hk,decide_true,at?_get hk,ob_some_eq,wrap_succ hk (by omega),getD_get [] hk,br_some_eq,cond_true]
  exact bif_if rfl
theorem s68 (n:Nat) {s:List UInt8} (dots:Bool) (h:s.length≤1000000000) (h2:(segs s).length≤1000000000):m68 (orcN (n+2)) s dots=some (pathBad (segs s) dots,()):=by
 unfold m68
 rw [show (orcN (n+2)).d 109 [.str s] [(.sl .str)]=_ from (q109 (n+1) s).trans (s109 n h)]
 simp only [ob_some_eq]
 generalize segs s=l at h2
 rw [loop_any l.length (fun k=>segBad dots (l.getD k [])) (.inr (true,())) (.inl ()) (fun k hk=> ?_) ?_,any_rangeG]
 ·unfold pathBad;cases l.any (segBad dots)<;>rfl
 ·simp [len_lt,br_false]
 ·simp only [len_lt,hk,decide_true,at?_get hk,ob_some_eq,wrap_succ hk (by omega),getD_get [] hk,br_some_eq,cond_true]
  exact bif_if rfl
theorem dig1 (c:UInt8):part? ([48,49,50,51,52,53,54,55,56,57,65,66,67,68,69,70]:List UInt8) (IntKind.u8.wrap (Int.tdiv (c.toNat:Int) 16)) (IntKind.u8.wrap ((IntKind.u8.wrap (Int.tdiv (c.toNat:Int) 16))+1))=some [digs.getD (c / 16).toNat 0] :=
 eq8 (f:=fun c=>part? ([48,49,50,51,52,53,54,55,56,57,65,66,67,68,69,70]:List UInt8) (IntKind.u8.wrap (Int.tdiv (c.toNat:Int) 16)) (IntKind.u8.wrap ((IntKind.u8.wrap (Int.tdiv (c.toNat:Int) 16))+1))) (g:=fun c=>some [digs.getD (c / 16).toNat 0]) (by decide+kernel) c
theorem dig2 (c:UInt8):part? ([48,49,50,51,52,53,54,55,56,57,65,66,67,68,69,70]:List UInt8) (Int.tmod (c.toNat:Int) 16) (IntKind.u8.wrap ((Int.tmod (c.toNat:Int) 16)+1))=some [digs.getD (c % 16).toNat 0] :=
 eq8 (f:=fun c=>part? ([48,49,50,51,52,53,54,55,56,57,65,66,67,68,69,70]:List UInt8) (Int.tmod (c.toNat:Int) 16) (IntKind.u8.wrap ((Int.tmod (c.toNat:Int) 16)+1))) (g:=fun c=>some [digs.getD (c % 16).toNat 0]) (by decide+kernel) c
theorem fold_flat (g:UInt8→List UInt8):∀(s a:List UInt8),s.foldl (fun b c=>b++g c) a=a++s.flatMap g
 | [],a=>by simp
 | c::r,a=>by simp [fold_flat g r,List.append_assoc]
theorem escB_len (c:UInt8):(escB c).length≤3:=by unfold escB;cases plainB c<;>simp
theorem esc_len:∀s:List UInt8,(escS s).length≤3*s.length
 | []=>by simp [escS]
 | c::r=>by have:=esc_len r;have:=escB_len c;simp only [escS,List.flatMap_cons,List.length_append,List.length_cons] at *;omega
theorem s53 (n:Nat) {s:List UInt8} (h:s.length≤1000000000):m53 (orcN (n+1)) s=some (escS s,()):=by
 unfold m53
 refine cut_of (loop_fold (fun k (b:List UInt8)=>((k:Int),bytesOf b,())) s (fun b c=>b++escB c) (fun b=> .inl (bytesOf b,())) (fun k b=>b.length≤3*k) (fun k hk b hI=> ?_) (fun b _=> ?_) [] (by simp)) ?_
 ·have hl:=escB_len s[k]
  refine ⟨?_,by simp;omega⟩
  simp only [len_lt,hk,decide_true,br_true,at?_get hk,ob_some_eq,wrap_succ hk (by omega),br_some_eq,L102,L64]
  generalize s[k]=c at hl
  refine (br_eq (P:=plainB c) ?_).trans ?_
  ·clear hl;revert c;exact eq8 (by decide+kernel)
  ·cases hc:plainB c
   ·simp only [br_false,dig1,dig2,ob_some_eq]
    rw [show cat? ([37]:List UInt8) [digs.getD (c / 16).toNat 0]=some [37,digs.getD (c / 16).toNat 0] from rfl]
    simp only [ob_some_eq]
    rw [show cat? [37,digs.getD (c / 16).toNat 0] [digs.getD (c % 16).toNat 0]=some [37,digs.getD (c / 16).toNat 0,digs.getD (c % 16).toNat 0] from rfl]
    simp only [ob_some_eq]
    rw [cat?_bytes (by simp [lim];omega)]
    simp [ob_some_eq,escB,hc]
   ·simp only [br_true]
    rw [show cat? (bytesOf b) [(c.toNat:Int)]=some (bytesOf (b++[c])) from cat?_bytes (b:=[c]) (by simp [lim];omega)]
    simp [ob_some_eq,escB,hc]
 ·simp [len_lt,br_false]
 ·rw [fold_flat]
  simp only [List.nil_append,cutM_inl,str?_bytes,ob_some_eq];rfl
end Pe.Tryd
end
section
/- The models: small letters, dashes, paths. -/
set_option maxRecDepth 100000
namespace Pe.Tryd
open Go Go.Proofs Pe Pe.Told
theorem low1 (c:UInt8):(bif (bif decide (65≤(c.toNat:Int)) then decide ((c.toNat:Int)≤90) else false) then IntKind.u8.wrap ((IntKind.u8.wrap ((c.toNat:Int)+97)) - 65) else (c.toNat:Int))=((low c).toNat:Int) :=
 eq8 (f:=fun c=>(bif (bif decide (65≤(c.toNat:Int)) then decide ((c.toNat:Int)≤90) else false) then IntKind.u8.wrap ((IntKind.u8.wrap ((c.toNat:Int)+97)) - 65) else (c.toNat:Int))) (g:=fun c=>((low c).toNat:Int)) (by decide+kernel) c
theorem low2 (c:UInt8):(bif (bif decide (65≤(c.toNat:Int)) then decide ((c.toNat:Int)≤90) else false) then IntKind.u8.wrap ((c.toNat:Int)+32) else (c.toNat:Int))=((low c).toNat:Int) :=
 eq8 (f:=fun c=>(bif (bif decide (65≤(c.toNat:Int)) then decide ((c.toNat:Int)≤90) else false) then IntKind.u8.wrap ((c.toNat:Int)+32) else (c.toNat:Int))) (g:=fun c=>((low c).toNat:Int)) (by decide+kernel) c
def half (s:List UInt8) (k:Nat):List Int:=bytesOf ((s.take k).map low++s.drop k)
theorem half_len (s:List UInt8) (k:Nat):(half s k).length=s.length:=by simp [half,bytesOf];omega
theorem half_at {s:List UInt8} {k:Nat} (h:k<s.length):get? (half s k) k=some ((s[k]).toNat:Int):=by
 unfold get? half
 have hl:((s.take k).map low).length=k:=by simp;omega
 rw [bytesOf,List.getElem?_map,List.getElem?_append_right (by omega),hl]
 simp [h]
theorem half_next {s:List UInt8} {k:Nat} (h:k<s.length):half s (k+1)=(half s k).set k ((low s[k]).toNat:Int):=by
 apply List.ext_getElem?
 intro i
 have hl:((s.take k).map low).length=k:=by simp;omega
 have hl2:((s.take (k+1)).map low).length=k+1:=by simp;omega
 rw [List.getElem?_set]
 by_cases hi:k=i
 ·subst hi
  rw [if_pos rfl,if_pos (by rw [half_len];exact h)]
  simp only [half,bytesOf,List.getElem?_map]
  rw [List.getElem?_append_left (by omega)]
  simp [h]
 ·rw [if_neg hi]
  simp only [half,bytesOf,List.getElem?_map]
  by_cases hlt:i<k
  ·rw [List.getElem?_append_left (by omega),List.getElem?_append_left (by omega)]
   simp [hlt,show i<k+1 by omega]
  ·rw [List.getElem?_append_right (by omega),List.getElem?_append_right (by omega),hl,hl2]
   simp [List.getElem?_drop,show k+1+(i - (k+1))=i by omega,show k+(i - k)=i by omega]
theorem half_same {s:List UInt8} {k:Nat} (h:k<s.length) (hc:(bif decide (65≤((s[k]).toNat:Int)) then decide (((s[k]).toNat:Int)≤90) else false)=false):half s (k+1)=half s k:=by
 rw [half_next h,←low1,hc]
 have:=half_at h
 unfold get? at this
 apply List.ext_getElem?
 intro i
 rw [List.getElem?_set]
 by_cases hi:k=i
 ·subst hi;rw [if_pos rfl,if_pos (by rw [half_len];exact h),this];rfl
 ·rw [if_neg hi]
theorem half_end (s:List UInt8):strOf (half s s.length)=smallS s:=by simp [half,smallS,strOf_bytes]
theorem idx?_nat {α:Type} {l:List α} {k:Nat} (h:k<l.length):idx? l (k:Int)=some k:=by
 show (bif Nat.blt k l.length then some k else none)=_
 rw [show Nat.blt k l.length=true by simpa [Nat.blt_eq] using h];rfl
theorem s93 (o:Orc Sx) {s:List UInt8} (h:s.length≤1000000000):m93 o s=some (smallS s,()):=by
 unfold m93
 rw [cat?_nil s (by simp [lim];omega)]
 simp only [ob_some_eq]
 refine cut_of (loop_st (A:=Unit) (fun k _=>((k:Int),half s k,())) s.length (fun _ _=> .inl (half s s.length,())) (fun _ _=>True) (fun k _ hk _=> ?_) 0 () (Nat.zero_le _) trivial) ?_
 ·by_cases hlt:k<s.length
  ·left
   refine ⟨(),hlt,?_,trivial,rfl⟩
   simp only [len,bytes_len,Int.ofNat_lt,hlt,decide_true,idx?_nat (show k<(half s k).length by rw [half_len];exact hlt),ob_some_eq,half_at hlt,br_some_eq,wrap_succ hlt (by omega)]
   have:=half_next hlt
   rw [←low1] at this
   cases hc:(bif decide (65≤((s[k]).toNat:Int)) then decide (((s[k]).toNat:Int)≤90) else false) with
   | true=>rw [hc] at this;rw [this];rfl
   | false=>rw [half_same hlt hc];rfl
  ·right
   obtain rfl:k=s.length:=by omega
   simp [len,bytes_len,br_false]
 ·simp only [cutM_inl,half_end]
theorem s96 (o:Orc Sx) {s:List UInt8} (h:s.length≤1000000000):m96 o s=some (smallS s,()):=by
 unfold m96
 rw [cat?_nil s (by simp [lim];omega)]
 simp only [ob_some_eq]
 refine cut_of (loop_st (A:=Unit) (fun k _=>((k:Int),half s k,())) s.length (fun _ _=> .inl (half s s.length,())) (fun _ _=>True) (fun k _ hk _=> ?_) 0 () (Nat.zero_le _) trivial) ?_
 ·by_cases hlt:k<s.length
  ·left
   refine ⟨(),hlt,?_,trivial,rfl⟩
   simp only [len,bytes_len,Int.ofNat_lt,hlt,decide_true,idx?_nat (show k<(half s k).length by rw [half_len];exact hlt),ob_some_eq,half_at hlt,br_some_eq,wrap_succ hlt (by omega)]
   have:=half_next hlt
   rw [←low2] at this
   cases hc:(bif decide (65≤((s[k]).toNat:Int)) then decide (((s[k]).toNat:Int)≤90) else false) with
   | true=>rw [hc] at this;rw [this];rfl
   | false=>rw [half_same hlt hc];rfl
  ·right
   obtain rfl:k=s.length:=by omega
   simp [len,bytes_len,br_false]
 ·simp only [cutM_inl,half_end]
def prevD (s:List UInt8) (k:Nat):Bool:=k != 0&&isDash (s.getD (k - 1) 0)
theorem prevD_succ {s:List UInt8} {k:Nat} (h:k<s.length):prevD s (k+1)=isDash s[k]:=by
 simp [prevD,List.getD_eq_getElem?_getD,h]
theorem dash_step {s:List UInt8} {k:Nat} (h:k<s.length):dashS (prevD s k) (s.drop k)=(bif isDash s[k] then (bif prevD s k then [] else [45]) else [s[k]])++dashS (prevD s (k+1)) (s.drop (k+1)):=by
 rw [List.drop_eq_getElem_cons h,prevD_succ h]
 cases hc:isDash s[k]<;>simp [dashS,hc]
theorem cat1 {b:List UInt8} {c:UInt8} (h:b.length+1≤lim):cat? (bytesOf b) [(c.toNat:Int)]=some (bytesOf (b++[c])):=cat?_bytes (b:=[c]) h
theorem cat45 {b:List UInt8} (h:b.length+1≤lim):cat? (bytesOf b) [45]=some (bytesOf (b++[45])):=cat?_bytes (b:=[45]) h
theorem s94 (n:Nat) {s:List UInt8} (h:s.length≤1000000000):m94 (orcN (n+1)) s=some (dashS false s,()):=by
 unfold m94
 refine cut_of (loop_st (A:=List UInt8) (fun k b=>((k:Int),bytesOf b,())) s.length (fun k b=> .inl (bytesOf (b++dashS (prevD s k) (s.drop k)),())) (fun k b=>b.length≤k) (fun k b hk hb=> ?_) 0 [] (Nat.zero_le _) (by simp)) ?_
 ·by_cases hlt:k<s.length
  ·left
   have hl:b.length+1≤lim:=by simp [lim];omega
   simp only [len_lt,hlt,decide_true,br_true,at?_get hlt,ob_some_eq,wrap_succ hlt (by omega),L125]
   have hcond:∀{β:Type} (g:Bool→Option β),ob (br ((k:Int)==0) (some true) (ob (at? s (IntKind.i64.wrap ((k:Int) - 1))) fun c6=>(some (!isDash c6)))) g=g (!prevD s k):=by
    intro β g
    cases k with
    | zero=>rfl
    | succ k =>
      have hk':k<s.length:=by omega
      have:(((k+1:Nat):Int)==0)=false:=by simp;omega
      rw [this,wrap_id (by omega) (by omega),show ((k+1:Nat):Int) - 1=(k:Int) by omega]
      simp only [br_false,at?_get hk',ob_some_eq,prevD_succ hk']
   cases hc:isDash s[k] with
   | false =>
     refine ⟨b++[s[k]],trivial,?_,by simp;omega,?_⟩
     ·simp only [Bool.not_false,br_true,cat1 hl,ob_some_eq]
     ·rw [dash_step hlt,hc];simp
   | true =>
     cases hp:prevD s k with
     | false =>
       refine ⟨b++[45],trivial,?_,by simp;omega,?_⟩
       ·simp only [Bool.not_true,br_false]
        refine (hcond _).trans ?_
        simp only [hp,Bool.not_false,br_true,cat45 hl,ob_some_eq]
       ·rw [←hp,dash_step hlt,hc,hp];simp
     | true =>
       refine ⟨b,trivial,?_,by omega,?_⟩
       ·simp only [Bool.not_true,br_false]
        refine (hcond _).trans ?_
        simp only [hp,Bool.not_true,br_false]
       ·rw [←hp,dash_step hlt,hc,hp];simp
  ·right
   obtain rfl:k=s.length:=by omega
   simp [len_lt,br_false,dashS]
 ·simp [cutM_inl,str?_bytes,ob_some_eq,prevD]
def lastD (b:List UInt8):Bool:=b.getLast? ==some 45
theorem lastD_app (b:List UInt8) (c:UInt8):lastD (b++[c])=(c==45):=by simp [lastD]
theorem dash45 (c:UInt8) (h:isDash c=false):(c==45)=false:=by
 cases h2:(c==45) with
 | false=>rfl
 | true=>rw [show isDash c=true by simp [isDash,h2]] at h;cases h
theorem s101 (o:Orc Sx) {s:List UInt8} (h:s.length≤1000000000):m101 o s=some (dashS false s,()):=by
 unfold m101
 refine cut_of (loop_st (A:=List UInt8) (fun k b=>(bytesOf b,(k:Int),())) s.length (fun k b=> .inl (bytesOf (b++dashS (prevD s k) (s.drop k)),())) (fun k b=>b.length≤k∧lastD b=prevD s k) (fun k b hk hb=> ?_) 0 [] (Nat.zero_le _) ⟨by simp,rfl⟩) ?_
 ·by_cases hlt:k<s.length
  ·left
   have hl:b.length+1≤lim:=by have:=hb.1;simp [lim];omega
   simp only [len_lt,hlt,decide_true,br_true,at?_get hlt,ob_some_eq,wrap_succ hlt (by omega),br_some_eq]
   have hcond:∀{β:Type} (g:Bool→Option β),ob (br ((len (bytesOf b))==0) (some true) (ob (at? (bytesOf b) (IntKind.i64.wrap ((len (bytesOf b)) - 1))) fun y5=>(some (y5 != 45)))) g=g (!prevD s k):=by
    intro β g
    rw [←hb.2]
    rcases List.eq_nil_or_concat b with rfl | ⟨b',x,rfl⟩
    ·rfl
    ·rw [List.concat_eq_append] at hb hl ⊢
     have e1:len (bytesOf (b'++[x]))=((b'.length+1:Nat):Int):=by simp [len,bytes_len]
     have:(((b'.length+1:Nat):Int)==0)=false:=by simp;omega
     have hb1:=hb.1
     rw [List.length_append,List.length_singleton] at hb1
     rw [e1,this,wrap_id (by omega) (by omega),show ((b'.length+1:Nat):Int) - 1=(b'.length:Int) by omega]
     have e2:at? (bytesOf (b'++[x])) (b'.length:Int)=some (x.toNat:Int):=by
      rw [at?_nat,bytes_app,List.getElem?_append_right (by simp [bytes_len]),bytes_len];simp [bytesOf]
     simp only [br_false,e2,ob_some_eq,lastD_app]
     rw [show ((x.toNat:Int) != 45)= !(x==45) from eq8 (f:=fun x=>((x.toNat:Int) != 45)) (g:=fun x=> !(x==45)) (by decide+kernel) x]
   have hd:(bif (bif ((s[k].toNat:Int)==45) then true else ((s[k].toNat:Int)==95)) then true else ((s[k].toNat:Int)==46))=isDash s[k] :=
    eq8 (f:=fun c=>bif (bif ((c.toNat:Int)==45) then true else ((c.toNat:Int)==95)) then true else ((c.toNat:Int)==46)) (g:=isDash) (by decide+kernel) _
   rw [hd]
   cases hc:isDash s[k] with
   | false =>
     refine ⟨b++[s[k]],trivial,?_,⟨by simp;exact hb.1,by rw [lastD_app,prevD_succ hlt,hc,dash45 _ hc]⟩,?_⟩
     ·simp only [br_false,cat1 hl,ob_some_eq]
     ·rw [dash_step hlt,hc];simp
   | true =>
     cases hp:prevD s k with
     | false =>
       refine ⟨b++[45],trivial,?_,⟨by simp;exact hb.1,by rw [lastD_app,prevD_succ hlt,hc];rfl⟩,?_⟩
       ·simp only [br_true]
        refine (hcond _).trans ?_
        simp only [hp,Bool.not_false,br_true,cat45 hl,ob_some_eq]
       ·rw [←hp,dash_step hlt,hc,hp];simp
     | true =>
       refine ⟨b,trivial,?_,⟨by have:=hb.1;omega,by rw [hb.2,hp,prevD_succ hlt,hc]⟩,?_⟩
       ·simp only [br_true]
        refine (hcond _).trans ?_
        simp only [hp,Bool.not_true,br_false]
       ·rw [←hp,dash_step hlt,hc,hp];simp
  ·right
   obtain rfl:k=s.length:=by omega
   simp [len_lt,br_false,dashS]
 ·simp [cutM_inl,strOf_bytes,prevD]
end Pe.Tryd
end
section
/- What is right of a name: both checks answer the same. -/
set_option maxRecDepth 100000
namespace Pe.Tryd
open Go Go.Proofs Pe Pe.Told
theorem loop_anyM {σ R:Type} {f:σ→Option (σ⊕R)} (mk:Nat→σ) (n:Nat) (p:Nat→Bool) (yes no:R)
  (h:∀k,k<n→f (mk k)=if p k=true then some (.inr yes) else some (.inl (mk (k+1))))
  (he:f (mk n)=some (.inr no)):loopM f (mk 0)=some (bif (List.range n).any p then yes else no):=by
 refine loop_st (A:=Unit) (fun k _=>mk k) n (fun _ _=>bif (List.range n).any p then yes else no) (fun k _=>∀j,j<k→p j=false) (fun k _ hk hI=> ?_) 0 () (Nat.zero_le _) (fun j hj=>by omega)
 by_cases hlt:k<n
 ·cases hp:p k with
  | true =>
    right
    have:(List.range n).any p=true:=List.any_eq_true.2 ⟨k,by simpa using hlt,hp⟩
    show f (mk k)=_
    rw [h k hlt,hp,this];rfl
  | false =>
    left
    refine ⟨(),hlt,by rw [h k hlt,hp];rfl,fun j hj=> ?_,rfl⟩
    by_cases hjk:j=k
    ·subst hjk;exact hp
    ·exact hI j (by omega)
 ·right
  obtain rfl:k=n:=by omega
  have:(List.range k).any p=false:=by rw [List.any_eq_false];intro x hx;simpa using hI x (by simpa using hx)
  rw [he,this];rfl
theorem cut_bif {σ R:Type} {A:Bool} {x:R} {y:σ} {g:σ→Option R}:cutM (some (bif A then .inr x else .inl y)) g=br A (some x) (g y):=by cases A<;>rfl
def big (s:List UInt8):Bool:=decide (200<len s)
def four (p:Gt.Purl):List (List UInt8):=[p.space,p.name,p.version,p.sub]
def longQ (q:Gt.Pair):Bool:=bif big q.name then true else big q.value
def longS (p:Gt.Purl):Bool:=bif (four p).any big then true else bif p.qualifiers.any longQ then true else decide (10<len p.qualifiers)
theorem big_le {s:List UInt8} (h:big s=false):s.length≤200:=by have:=of_decide_eq_false h;unfold len at this;omega
structure Tiny (p:Gt.Purl):Prop where
 space:p.space.length≤200
 name:p.name.length≤200
 version:p.version.length≤200
 sub:p.sub.length≤200
 quals:p.qualifiers.length≤10
 each:∀q∈p.qualifiers,q.name.length≤200∧q.value.length≤200
theorem longQ_le {q:Gt.Pair} (h:longQ q=false):q.name.length≤200∧q.value.length≤200:=by
 unfold longQ at h
 cases h1:big q.name with
 | true=>rw [h1] at h;cases h
 | false=>rw [h1] at h;exact ⟨big_le h1,big_le h⟩
theorem tiny {p:Gt.Purl} (h:longS p=false):Tiny p:=by
 unfold longS at h
 cases h1:(four p).any big with
 | true=>rw [h1] at h;cases h
 | false =>
   rw [h1] at h
   cases h2:p.qualifiers.any longQ with
   | true=>rw [h2] at h;cases h
   | false =>
     rw [h2] at h
     simp only [four,List.any_cons,List.any_nil,Bool.or_false,Bool.or_eq_false_iff] at h1
     refine ⟨big_le h1.1,big_le h1.2.1,big_le h1.2.2.1,big_le h1.2.2.2,?_,fun q hq=>longQ_le ?_⟩
     ·have:=of_decide_eq_false h;unfold len at this;omega
     ·have:=List.any_eq_false.1 h2 q hq;simpa using this
theorem s67 (o:Orc Sx) {l:List (List UInt8)} (h:l.length≤1000000000):m67 o l=some (l.any big,()):=by
 unfold m67
 rw [loop_any l.length (fun k=>big (l.getD k [])) (.inr (true,())) (.inl ()) (fun k hk=> ?_) ?_,any_rangeG]
 ·cases l.any big<;>rfl
 ·simp [len_lt,br_false]
 ·simp only [len_lt,hk,decide_true,br_true,at?_get hk,ob_some_eq,wrap_succ hk (by omega),getD_get [] hk]
  rw [br_if];rfl
theorem L67 (n:Nat) {l:List (List UInt8)} (h:l.length≤1000000000): @Eq (Option (Bool×Unit)) ((orcN (n+1)).d 67 [.sl .str l] [.bool]) (some (l.any big,())):=(q67 n _).trans (s67 _ h)
abbrev pair0:Gt.Pair:=⟨[],[]⟩
theorem s61 (o:Orc Sx) {p:Gt.Purl} (h:p.qualifiers.length≤1000000000):m61 o p=some (longS p,()):=by
 unfold m61
 refine cut_of (r:=bif (four p).any big then .inr (true,()) else .inl ()) ((loop_anyM (fun k=>(four p,(k:Int),())) 4 (fun k=>big ((four p).getD k [])) (.inr (true,())) (.inl ()) (fun k hk=> ?_) ?_).trans ?_) ?_
 ·have hk':k<(four p).length:=hk
  simp only [show len [p.space,p.name,p.version,p.sub]=((4:Nat):Int) from rfl,Int.ofNat_lt,hk,decide_true,br_true,at?_get hk',ob_some_eq,wrap_succ hk (by omega),getD_get [] hk']
  rw [br_if];rfl
 ·rfl
 ·rw [show (List.range 4)=List.range (four p).length from rfl,any_rangeG]
 ·rw [cut_bif]
  unfold longS
  cases (four p).any big with
  | true=>rfl
  | false =>
    simp only [br_false,cond_false]
    rw [loop_any p.qualifiers.length (fun k=>longQ (p.qualifiers.getD k pair0)) (.inr (true,())) (.inl ()) (fun k hk=> ?_) ?_,any_rangeG,cut_bif]
    ·cases p.qualifiers.any longQ<;>rfl
    ·simp [len_lt,br_false]
    ·simp only [len_lt,hk,decide_true,at?_get hk,ob_some_eq,wrap_succ hk (by omega),getD_get pair0 hk,br_some_eq,cond_true]
     exact bif_if rfl
theorem L61 (n:Nat) {p:Gt.Purl} (h:p.qualifiers.length≤1000000000): @Eq (Option (Bool×Unit)) ((orcN (n+1)).d 61 [.st 4 p] [.bool]) (some (longS p,())):=(q61 n _).trans (s61 _ h)
def qF (l:List Gt.Pair) (k:Nat):Int :=
 bif !nameS (l.getD k pair0).name then 8 else bif (l.getD k pair0).value==[] then 2 else
 bif decide (0<(k:Int))&&(Op.bytesLess (l.getD k pair0).name (l.getD (k - 1) pair0).name||((l.getD k pair0).name==(l.getD (k - 1) pair0).name)) then 10 else 0
def qE (l:List Gt.Pair):Int:=ff (qF l) l.length
theorem before {l:List Gt.Pair} {k:Nat} (hk:k<l.length) (hl:l.length≤1000000000) (G:Gt.Pair→Bool) :
  br (decide (0<(k:Int))) (ob (at? l (IntKind.i64.wrap ((k:Int) - 1))) fun y=>some (G y)) (some false)=some (decide (0<(k:Int))&&G (l.getD (k - 1) pair0)):=by
 cases k with
 | zero=>rfl
 | succ k =>
   have hk':k<l.length:=by omega
   rw [show decide (0<((k+1:Nat):Int))=true from decide_eq_true (by omega),wrap_id (by omega) (by omega),show ((k+1:Nat):Int) - 1=(k:Int) by omega]
   simp only [br_true,at?_get hk',ob_some_eq,Nat.add_sub_cancel,getD_get pair0 hk',Bool.true_and]
theorem L108 (n:Nat) {s:List UInt8} (h:s.length≤1000000000): @Eq (Option (Bool×Unit)) ((orcN (n+2)).d 108 [.str s] [.bool]) (some (nameS s,())):=(q108 (n+1) _).trans (s108 n h)
theorem L70 (n:Nat) {s:List UInt8} (h:s.length≤1000000000): @Eq (Option (Bool×Unit)) ((orcN (n+1)).d 70 [.str s] [.bool]) (some (nameS s,())):=(q70 n _).trans (s70 _ h)
theorem s65 (n:Nat) {l:List Gt.Pair} (h:l.length≤1000000000) (h2:∀q∈l,q.name.length≤1000000000):m65 (orcN (n+2)) l=some (qE l,()):=by
 unfold m65
 refine cut_of (loop_ff1 l.length (qF l) (fun c=> .inr (c,())) (.inl ()) (fun k hk _=> ?_) ?_) ?_
 ·have hn:=h2 l[k] (List.getElem_mem hk)
  simp only [len_lt,hk,decide_true,br_true,at?_get hk,ob_some_eq,L108 n hn,before hk h]
  rw [wrap_succ hk (by omega)]
  unfold qF
  simp only [getD_get pair0 hk]
  refine br_ff (out:=fun c=>Sum.inr (c,())) 8 (by decide) fun _=>br_ff (out:=fun c=>Sum.inr (c,())) 2 (by decide) fun _=>br_ff (out:=fun c=>Sum.inr (c,())) 10 (by decide) fun _=> ?_
  exact ffS_zero.symm
 ·simp [len_lt,br_false]
 ·unfold qE
  by_cases h0:ff (qF l) l.length=0
  ·rw [if_neg (by simpa using h0),h0];rfl
  ·rw [if_pos h0];rfl
theorem L65 (n:Nat) {l:List Gt.Pair} (h:l.length≤1000000000) (h2:∀q∈l,q.name.length≤1000000000): @Eq (Option (Int×Unit)) ((orcN (n+3)).d 65 [.sl (.st 3) l] [(.int .i64)]) (some (qE l,())):=(q65 (n+2) _).trans (s65 n h h2)
theorem splitB_mem (sep:ByteArray):∀(k:Nat) (s:ByteArray),∀x∈Lib.splitB sep 0 k s,x.size≤s.size
 | 0,s,x,hx=>by simp [Lib.splitB] at hx;subst hx;exact Nat.le_refl _
 | k+1,s,x,hx=>by
   unfold Lib.splitB at hx
   split at hx
   ·simp at hx;subst hx;exact Nat.le_refl _
   ·rcases List.mem_cons.1 hx with rfl | hx
    ·rw [ByteArray.size_extract];omega
    ·have:=splitB_mem sep k _ x hx
     rw [ByteArray.size_extract] at this;omega
theorem segs_len (s:List UInt8):(segs s).length≤s.length+1:=by
 unfold segs
 cases (s==[]) with
 | true=>simp
 | false =>
   simp only [cond_false]
   unfold splitS
   have h1:=Lib.splitB_length_le ⟨#[47]⟩ 0 (Lib.countB ⟨s.toArray⟩ ⟨#[47]⟩) ⟨s.toArray⟩
   have h2:=Lib.countB_le ⟨#[47]⟩ (Nat.le_refl 1) _ ⟨s.toArray⟩ (Nat.le_refl _)
   have h3:(ByteArray.mk s.toArray).size=s.length:=rfl
   rw [List.length_map];omega
theorem segs_mem {s x:List UInt8} (h:x∈segs s):x.length≤s.length:=by
 unfold segs at h
 cases hs:(s==[]) with
 | true=>rw [hs] at h;cases h
 | false =>
   rw [hs] at h
   simp only [cond_false] at h
   unfold splitS at h
   obtain ⟨y,hy,rfl⟩:=List.mem_map.1 h
   have:=splitB_mem _ _ _ y hy
   have h3:(ByteArray.mk s.toArray).size=s.length:=rfl
   have h4:y.data.toList.length=y.size:=rfl
   omega
theorem L63 (n:Nat) {s:List UInt8} (h:s.length≤1000000000): @Eq (Option (List (List UInt8)×Unit)) ((orcN (n+2)).d 63 [.str s] [(.sl .str)]) (some (segs s,())):=(q63 (n+1) _).trans (s63 n h)
theorem L62 (n:Nat) {l:List (List UInt8)} (dots:Bool) (h:l.length≤1000000000): @Eq (Option (Bool×Unit)) ((orcN (n+1)).d 62 [.sl .str l,.bool dots] [.bool]) (some (pathBad l dots,())):=(q62 n _ _).trans (s62 _ dots h)
theorem L68 (n:Nat) {s:List UInt8} (dots:Bool) (h:s.length≤100000000): @Eq (Option (Bool×Unit)) ((orcN (n+3)).d 68 [.str s,.bool dots] [.bool]) (some (pathBad (segs s) dots,())):=(q68 (n+2) _ _).trans (s68 n dots (by omega) (by have:=segs_len s;omega))
theorem L66 (n:Nat) {s:List UInt8} (h:s.length≤1000000000): @Eq (Option (Bool×Unit)) ((orcN (n+1)).d 66 [.str s] [.bool]) (some (s.any ctl,())):=(q66 n _).trans (s66 _ h)
theorem L71 (n:Nat) {s:List UInt8} (h:s.length≤1000000000): @Eq (Option (Bool×Unit)) ((orcN (n+1)).d 71 [.str s] [.bool]) (some (!s.any ctl,())):=(q71 n _).trans (s71 _ h)
def spaceBad (r:Gt.KindRule) (p:Gt.Purl):Bool:=bif (bif p.space != [] then r.space==1 else false) then true else (bif p.space==[] then r.space==3 else false)
def nameBad (p:Gt.Purl):Bool:=bif p.name==[] then true else decide (0≤Lib.indexByte p.name 47)
def ctl4 (p:Gt.Purl):Bool:=(four p).any fun s=>s.any ctl
def ctlQ (p:Gt.Purl):Bool:=p.qualifiers.any fun q=>q.value.any ctl
def checkS (p:Gt.Purl):Int :=
 bif (ruleR p.kind).2.1 != 0 then (ruleR p.kind).2.1 else bif longS p then 3 else bif spaceBad (ruleR p.kind).1 p then 2 else bif pathBad (segs p.space) false then 2 else
 bif nameBad p then 8 else bif qE p.qualifiers != 0 then qE p.qualifiers else bif pathBad (segs p.sub) true then 2 else bif ctl4 p then 8 else bif ctlQ p then 8 else 0
theorem s25 (n:Nat) {p:Gt.Purl} (h:p.qualifiers.length≤1000000000):m25 (orcN (n+3)) p=some (checkS p,()):=by
 unfold m25
 rw [L16 n,L61 (n+2) h]
 simp only [ob_some_eq]
 unfold checkS
 cases h1:((ruleR p.kind).2.1 != 0) with
 | true=>rfl
 | false =>
   cases hl:longS p with
   | true=>rfl
   | false =>
     have T:=tiny hl
     have t1:=T.space;have t2:=T.name;have t3:=T.sub;have t4:=T.quals
     have tp:=segs_len p.space;have ts:=segs_len p.sub
     simp only [br_false,cond_false,br_some_eq,ob_some_eq]
     rw [L63 (n+1) (by omega)]
     simp only [ob_some_eq]
     rw [L62 (n+2) false (by omega),L64,L65 n (by omega) (fun q hq=>by have:=(T.each q hq).1;omega),L63 (n+1) (by omega)]
     simp only [ob_some_eq,br_some_eq]
     rw [L62 (n+2) true (by omega)]
     simp only [ob_some_eq]
     rw [show loopM _ ([p.space,p.name,p.version,p.sub],(0:Int),())=_ from (loop_anyM (fun k=>(four p,(k:Int),())) 4 (fun k=>((four p).getD k []).any ctl) (.inr (8,())) (.inl ()) (fun k hk=> ?_) ?_).trans (by rw [show (List.range 4)=List.range (four p).length from rfl,any_rangeG (four p) [] (fun s=>s.any ctl)]),cut_bif]
     ·rw [loop_any p.qualifiers.length (fun k=>(p.qualifiers.getD k pair0).value.any ctl) (.inr (8,())) (.inl ()) (fun k hk=> ?_) ?_,any_rangeG p.qualifiers pair0 (fun q=>q.value.any ctl),cut_bif]
      ·simp only [br_some_eq]
       have e1:(bif (bif p.space != [] then (ruleR p.kind).1.space==1 else false) then true else (bif p.space==[] then (ruleR p.kind).1.space==3 else false))=spaceBad (ruleR p.kind).1 p:=rfl
       have e2:(bif p.name==[] then true else decide (0≤Lib.indexByte p.name (UInt8.ofNat (Int.toNat 47))))=nameBad p:=rfl
       rw [e1,e2]
       unfold ctl4 ctlQ
       cases spaceBad (ruleR p.kind).1 p<;>cases pathBad (segs p.space) false<;>cases nameBad p<;>cases (qE p.qualifiers != 0)<;>cases pathBad (segs p.sub) true<;>cases (four p).any (fun s=>s.any ctl)<;>cases p.qualifiers.any (fun q=>q.value.any ctl)<;>rfl
      ·simp [len_lt,br_false]
      ·have:=(T.each _ (List.getElem_mem hk)).2
       simp only [len_lt,hk,decide_true,br_true,at?_get hk,ob_some_eq,wrap_succ hk (by omega),getD_get pair0 hk,L66 (n+2) (show (p.qualifiers[k]).value.length≤1000000000 by omega)]
       exact bif_if rfl
     ·rfl
     ·have hk':k<(four p).length:=hk
      have hb:((four p)[k]).length≤1000000000:=by
       have:(four p)[k]∈four p:=List.getElem_mem hk'
       have t5:=T.version
       simp only [four,List.mem_cons,List.not_mem_nil,or_false] at this
       rcases this with h | h | h | h<;> · simp only [four] at h ⊢;rw [h];omega
      simp only [show len [p.space,p.name,p.version,p.sub]=((4:Nat):Int) from rfl,Int.ofNat_lt,hk,decide_true,br_true,at?_get hk',ob_some_eq,wrap_succ hk (by omega),getD_get [] hk',L66 (n+2) hb]
      exact bif_if rfl
end Pe.Tryd
end
section
/- The reference's check is the same; the canonical form of both sides. -/
set_option maxRecDepth 100000
namespace Pe.Tryd
open Go Go.Proofs Pe Pe.Told
theorem any_or {α:Type} (l:List α) (p:α→Bool) (a:Bool):l.foldl (fun b x=>bif b then !p x else false) a=(bif a then !l.any p else false):=by
 induction l generalizing a with
 | nil=>cases a<;>rfl
 | cons x r ih=>rw [List.foldl_cons,ih];cases a<;>cases h:p x<;>simp [h]
theorem bif_ffS {σ R:Type} {out:Int→R} {nxt:σ} {b:Bool} {c:Int} (hc:c≠0):some (bif b then .inr (out c) else .inl nxt)=ffS out nxt (bif b then c else 0):=by
 cases b
 ·rfl
 ·simp [ffS,hc]
theorem s26 (n:Nat) {p:Gt.Purl} (h:p.qualifiers.length≤1000000000):m26 (orcN (n+3)) p=some (checkS p,()):=by
 unfold m26
 rw [L17 n]
 simp only [ob_some_eq]
 unfold checkS
 cases h1:((ruleR p.kind).2.1 != 0) with
 | true=>rfl
 | false =>
   have e67: @Eq (Option (Bool×Unit)) ((orcN (n+3)).d 67 [.sl .str [p.space,p.name,p.version,p.sub]] [.bool]) (some ((four p).any big,())):=L67 (n+2) (l:=four p) (by simp [four])
   rw [e67]
   simp only [br_false,cond_false,br_some_eq,ob_some_eq]
   cases hb:(bif (four p).any big then true else decide (10<len p.qualifiers)) with
   | true =>
     have hl:longS p=true:=by
      unfold longS
      cases h3:(four p).any big with
      | true=>rfl
      | false=>rw [h3] at hb;simp only [cond_false] at hb ⊢;rw [hb];cases p.qualifiers.any longQ<;>rfl
     rw [hl];rfl
   | false =>
     simp only [br_false]
     rw [loop_any p.qualifiers.length (fun k=>longQ (p.qualifiers.getD k pair0)) (.inr (3,())) (.inl ()) (fun k hk=> ?_) ?_,any_rangeG p.qualifiers pair0 longQ,cut_bif]
     ·have hq:longS p=p.qualifiers.any longQ:=by
       unfold longS
       cases h3:(four p).any big with
       | true=>rw [h3] at hb;cases hb
       | false=>rw [h3] at hb;simp only [cond_false] at hb ⊢;rw [hb];cases p.qualifiers.any longQ<;>rfl
      rw [←hq]
      cases hl:longS p with
      | true=>rfl
      | false =>
        have T:=tiny hl
        have t1:=T.space;have t2:=T.name;have t3:=T.sub;have t4:=T.quals;have t5:=T.version
        simp only [br_false,cond_false]
        rw [L68 n false (by omega),L69,L68 n true (by omega),L71 (n+2) (show p.space.length≤1000000000 by omega),L71 (n+2) (show p.name.length≤1000000000 by omega),L71 (n+2) (show p.version.length≤1000000000 by omega),L71 (n+2) (show p.sub.length≤1000000000 by omega)]
        simp only [ob_some_eq,br_some_eq]
        rw [loop_ff1 p.qualifiers.length (qF p.qualifiers) (fun c=> .inr (c,())) (.inl ()) (fun k hk _=> ?_) ?_]
        ·refine Eq.trans (b:=br (bif spaceBad (ruleR p.kind).1 p then true else pathBad (segs p.space) false) (some (2,())) (br (nameBad p) (some (8,())) (br (qE p.qualifiers != 0) (some (qE p.qualifiers,())) (br (pathBad (segs p.sub) true) (some (2,())) (br (bif ctl4 p then true else ctlQ p) (some (8,())) (some (0,()))))))) ?_ ?_
         ·congr 1
          congr 1
          have hcut:∀(X:Option (Int×Unit)),cutM (some (if ff (qF p.qualifiers) p.qualifiers.length≠0 then Sum.inr (ff (qF p.qualifiers) p.qualifiers.length,()) else Sum.inl ())) (fun (_:Unit)=>X)=br (qE p.qualifiers != 0) (some (qE p.qualifiers,())) X:=by
           intro X
           unfold qE
           by_cases h0:ff (qF p.qualifiers) p.qualifiers.length=0
           ·rw [if_neg (by simpa using h0),h0];rfl
           ·rw [if_pos h0,show (ff (qF p.qualifiers) p.qualifiers.length != 0)=true by simpa using h0];rfl
          refine (hcut _).trans ?_
          congr 1
          congr 1
          refine cut_of (loop_fold (fun k (b:Bool)=>(b,(k:Int),())) p.qualifiers (fun b q=>bif b then !q.value.any ctl else false) (fun b=> .inl (b,())) (fun _ _=>True) (fun k hk b _=>⟨?_,trivial⟩) (fun b _=> ?_) _ trivial) ?_
          ·have:=(T.each _ (List.getElem_mem hk)).2
           simp only [len_lt,hk,decide_true,at?_get hk,ob_some_eq,wrap_succ hk (by omega),L71 (n+2) (show (p.qualifiers[k]).value.length≤1000000000 by omega),br_some_eq]
           rfl
          ·simp [len_lt,br_false]
          ·rw [any_or p.qualifiers (fun q=>q.value.any ctl)]
           simp only [cutM_inl,ctl4,ctlQ,four,List.any_cons,List.any_nil,Bool.or_false]
           cases p.space.any ctl<;>cases p.name.any ctl<;>cases p.version.any ctl<;>cases p.sub.any ctl<;>cases p.qualifiers.any (fun q=>q.value.any ctl)<;>rfl
         ·cases spaceBad (ruleR p.kind).1 p<;>cases pathBad (segs p.space) false<;>cases nameBad p<;>cases (qE p.qualifiers != 0)<;>cases pathBad (segs p.sub) true<;>cases ctl4 p<;>cases ctlQ p<;>rfl
        ·simp [len_lt,br_false]
        ·have hn:=(T.each _ (List.getElem_mem hk)).1
         simp only [len_lt,hk,decide_true,br_true,at?_get hk,ob_some_eq,L70 (n+2) (show (p.qualifiers[k]).name.length≤1000000000 by omega),before hk h]
         rw [wrap_succ hk (by omega)]
         unfold qF
         simp only [getD_get pair0 hk]
         refine br_ff (out:=fun c=>Sum.inr (c,())) 8 (by decide) fun _=>br_ff (out:=fun c=>Sum.inr (c,())) 2 (by decide) fun _=>bif_ffS (c:=10) (out:=fun c=>Sum.inr (c,())) (by decide)
     ·simp [len_lt,br_false]
     ·have:([p.qualifiers[k].name,p.qualifiers[k].value]:List (List UInt8)).length≤1000000000:=by simp
      have e67: @Eq (Option (Bool×Unit)) ((orcN (n+3)).d 67 [.sl .str [p.qualifiers[k].name,p.qualifiers[k].value]] [.bool]) (some ([p.qualifiers[k].name,p.qualifiers[k].value].any big,())):=L67 (n+2) (l:=[p.qualifiers[k].name,p.qualifiers[k].value]) this
      simp only [len_lt,hk,decide_true,br_true,at?_get hk,ob_some_eq,wrap_succ hk (by omega),getD_get pair0 hk,e67]
      refine bif_if ?_
      simp only [List.any_cons,List.any_nil,Bool.or_false,longQ]
      cases big p.qualifiers[k].name<;>rfl
theorem L25 (n:Nat) {p:Gt.Purl} (h:p.qualifiers.length≤1000000000): @Eq (Option (Int×Unit)) ((orcN (n+4)).d 25 [.st 4 p] [(.int .i64)]) (some (checkS p,())):=(q25 (n+3) _).trans (s25 n h)
theorem L26 (n:Nat) {p:Gt.Purl} (h:p.qualifiers.length≤1000000000): @Eq (Option (Int×Unit)) ((orcN (n+4)).d 26 [.st 4 p] [(.int .i64)]) (some (checkS p,())):=(q26 (n+3) _).trans (s26 n h)
def canonS (p:Gt.Purl):Gt.Purl :=
 ⟨p.kind,bif (ruleR p.kind).1.small then smallS p.space else p.space,
  bif (ruleR p.kind).1.dashes then dashS false (bif (ruleR p.kind).1.small then smallS p.name else p.name) else (bif (ruleR p.kind).1.small then smallS p.name else p.name),p.version,p.qualifiers,p.sub⟩
theorem L93 (n:Nat) {s:List UInt8} (h:s.length≤1000000000): @Eq (Option (List UInt8×Unit)) ((orcN (n+1)).d 93 [.str s] [.str]) (some (smallS s,())):=(q93 n _).trans (s93 _ h)
theorem L96 (n:Nat) {s:List UInt8} (h:s.length≤1000000000): @Eq (Option (List UInt8×Unit)) ((orcN (n+1)).d 96 [.str s] [.str]) (some (smallS s,())):=(q96 n _).trans (s96 _ h)
theorem L94 (n:Nat) {s:List UInt8} (h:s.length≤1000000000): @Eq (Option (List UInt8×Unit)) ((orcN (n+2)).d 94 [.str s] [.str]) (some (dashS false s,())):=(q94 (n+1) _).trans (s94 n h)
theorem L101 (n:Nat) {s:List UInt8} (h:s.length≤1000000000): @Eq (Option (List UInt8×Unit)) ((orcN (n+1)).d 101 [.str s] [.str]) (some (dashS false s,())):=(q101 n _).trans (s101 _ h)
theorem small_len (s:List UInt8):(smallS s).length=s.length:=by simp [smallS]
theorem dash_len:∀(b:Bool) (s:List UInt8),(dashS b s).length≤s.length
 | _,[]=>by simp [dashS]
 | b,c::r=>by
   have h1:=dash_len true r;have h2:=dash_len false r
   unfold dashS
   cases isDash c<;>cases b<;>simp<;>omega
abbrev P6:=List UInt8×List UInt8×List UInt8×List UInt8×List (Gt.Pair)×List UInt8×Unit
def cells6 (p:Gt.Purl):P6:=(p.kind,p.space,p.name,p.version,p.qualifiers,p.sub,())
theorem s42 (n:Nat) {p:Gt.Purl} (T:Tiny p):m42 (orcN (n+3)) p=some (.inl (cells6 (canonS p))):=by
 have t1:=T.space;have t2:=T.name;have t4:=T.quals
 unfold m42 cells6 canonS
 rw [L16 n,L93 (n+2) (show p.space.length≤1000000000 by omega),L93 (n+2) (show p.name.length≤1000000000 by omega)]
 simp only [ob_some_eq]
 cases (ruleR p.kind).1.small<;>cases (ruleR p.kind).1.dashes
 ·simp only [br_false,cond_false,cutM_inl]
  rw [cat?_nil _ (by simp [lim];omega)];rfl
 ·simp only [br_true,br_false,cond_false,cond_true,cutM_inl]
  rw [L94 (n+1) (by omega)]
  simp only [ob_some_eq,cutM_inl]
  rw [cat?_nil _ (by simp [lim];omega)];rfl
 ·simp only [br_true,br_false,cond_false,cond_true,cutM_inl]
  rw [cat?_nil _ (by simp [lim];omega)];rfl
 ·simp only [br_true,cond_true,cutM_inl]
  rw [L94 (n+1) (by rw [small_len];omega)]
  simp only [ob_some_eq,cutM_inl]
  rw [cat?_nil _ (by simp [lim];omega)];rfl
theorem s50 (n:Nat) {p:Gt.Purl} (T:Tiny p):m50 (orcN (n+3)) p=some (canonS p,()):=by
 have t1:=T.space;have t2:=T.name;have t4:=T.quals
 unfold m50 canonS
 rw [L17 n,L96 (n+2) (show p.space.length≤1000000000 by omega),L96 (n+2) (show p.name.length≤1000000000 by omega)]
 simp only [ob_some_eq]
 cases (ruleR p.kind).1.small<;>cases (ruleR p.kind).1.dashes
 ·simp only [br_false,cond_false,cutM_inl]
  rw [cat?_nil _ (by simp [lim];omega)];rfl
 ·simp only [br_true,br_false,cond_false,cond_true,cutM_inl]
  rw [L101 (n+2) (by omega)]
  simp only [ob_some_eq,cutM_inl]
  rw [cat?_nil _ (by simp [lim];omega)];rfl
 ·simp only [br_true,br_false,cond_false,cond_true,cutM_inl]
  rw [cat?_nil _ (by simp [lim];omega)];rfl
 ·simp only [br_true,cond_true,cutM_inl]
  rw [L101 (n+2) (by rw [small_len];omega)]
  simp only [ob_some_eq,cutM_inl]
  rw [cat?_nil _ (by simp [lim];omega)];rfl
theorem tiny_canon {p:Gt.Purl} (T:Tiny p):Tiny (canonS p):=by
 have t1:=T.space;have t2:=T.name
 have h1:=dash_len false p.name;have h2:=dash_len false (smallS p.name);have h3:=small_len p.name;have h4:=small_len p.space
 refine ⟨?_,?_,T.version,T.sub,T.quals,T.each⟩
 ·unfold canonS;cases (ruleR p.kind).1.small<;>simp<;>omega
 ·unfold canonS;cases (ruleR p.kind).1.small<;>cases (ruleR p.kind).1.dashes<;>simp<;>omega
theorem L42 (n:Nat) {p:Gt.Purl} (T:Tiny p): @Eq (Option (P6⊕Unit)) ((orcN (n+4)).l 42 sg42 ((p,()):Gt.Purl×Unit)) (some (.inl (cells6 (canonS p)))):=(q42 (n+3) _).trans (s42 n T)
theorem L50 (n:Nat) {p:Gt.Purl} (T:Tiny p): @Eq (Option (Gt.Purl×Unit)) ((orcN (n+4)).d 50 [.st 4 p] [(.st 4)]) (some (canonS p,())):=(q50 (n+3) _).trans (s50 n T)
theorem check_tiny {p:Gt.Purl} (h:checkS p=0):Tiny p:=by
 cases hl:longS p with
 | false=>exact tiny hl
 | true =>
   unfold checkS at h
   cases h1:((ruleR p.kind).2.1 != 0) with
   | true=>rw [h1] at h;simp only [cond_true] at h;rw [h] at h1;cases h1
   | false=>rw [h1,hl] at h;simp at h
def canonR (p:Gt.Purl):Gt.Purl×Int×Unit:=bif checkS p != 0 then (⟨[],[],[],[],[],[]⟩,checkS p,()) else (canonS p,0,())
theorem L21 (n:Nat) {p:Gt.Purl} (h:p.qualifiers.length≤1000000000): @Eq (Option (Gt.Purl×Int×Unit)) ((orcN (n+5)).d 21 [.st 4 p] [(.st 4),(.int .i64)]) (some (canonR p)):=by
 rw [q21]
 unfold m21 canonR
 rw [L25 n h]
 simp only [ob_some_eq]
 cases hc:(checkS p != 0) with
 | true=>rfl
 | false =>
   simp only [br_false]
   refine (congrArg (fun z=>oc (α:=P6) (β:=Unit) z _ _) (L42 n (check_tiny (by simpa using hc)))).trans ?_
   rfl
theorem L15 (n:Nat) {p:Gt.Purl} (h:p.qualifiers.length≤1000000000): @Eq (Option (Gt.Purl×Int×Unit)) ((orcN (n+5)).d 15 [.st 4 p] [(.st 4),(.int .i64)]) (some (canonR p)):=by
 rw [q15]
 unfold m15 canonR
 rw [L26 n h]
 simp only [ob_some_eq]
 cases hc:(checkS p != 0) with
 | true=>rfl
 | false=>rw [L50 n (check_tiny (by simpa using hc))];rfl
end Pe.Tryd
end
section
/- The texts of names: both sides print the same; THE LAW OF CANONICAL FORMS. -/
set_option maxRecDepth 100000
namespace Pe.Tryd
open Go Go.Proofs Pe Pe.Told
theorem L53 (n:Nat) {s:List UInt8} (h:s.length≤1000000000): @Eq (Option (List UInt8×Unit)) ((orcN (n+2)).d 53 [.str s] [.str]) (some (escS s,())):=(q53 (n+1) _).trans (s53 n h)
def pathS (s:List UInt8):List UInt8:=Lib.join ((segs s).map escS) [47]
theorem tail_len {M:Nat}:∀{l:List (List UInt8)},(∀x∈l,x.length≤M)→(Lib.joinTail [47] l).length≤l.length*(M+1)
 | [],_=>by simp [Lib.joinTail]
 | x::r,h=>by
   have h1:=h x (by simp)
   have h2:=tail_len (l:=r) fun y hy=>h y (by simp [hy])
   simp only [Lib.joinTail,List.map_cons,List.flatten_cons,List.length_append,List.length_cons,List.length_nil] at h2 ⊢
   rw [Nat.succ_mul];omega
theorem join_len {M:Nat}:∀{l:List (List UInt8)},(∀x∈l,x.length≤M)→(Lib.join l [47]).length≤l.length*(M+1)
 | [],_=>by simp [Lib.join_nil]
 | x::r,h=>by
   have h1:=h x (by simp)
   have h2:=tail_len (l:=r) fun y hy=>h y (by simp [hy])
   rw [Lib.join_cons]
   simp only [List.length_append,List.length_cons]
   rw [Nat.succ_mul];omega
theorem path_len {s:List UInt8} (h:s.length≤200):(pathS s).length≤130000:=by
 have h1:=segs_len s
 have h2:=join_len (M:=600) (l:=(segs s).map escS) (fun x hx=>by
  obtain ⟨y,hy,rfl⟩:=List.mem_map.1 hx
  have:=segs_mem hy;have:=esc_len y;omega)
 rw [List.length_map] at h2
 have:(segs s).length*(600+1)≤201*601:=Nat.mul_le_mul (by omega) (by omega)
 unfold pathS;omega
theorem fold_map {α β:Type} (g:α→β):∀(l:List α) (a:List β),l.foldl (fun b x=>b++[g x]) a=a++l.map g
 | [],a=>by simp
 | x::r,a=>by simp [fold_map g r,List.append_assoc]
theorem s54 (n:Nat) {s:List UInt8} (h:s.length≤200):m54 (orcN (n+2)) s=some (pathS s,()):=by
 unfold m54
 rw [L63 n (by omega)]
 simp only [ob_some_eq]
 have hs:=segs_len s
 refine cut_of (loop_fold (fun k (b:List (List UInt8))=>(b,(k:Int),())) (segs s) (fun b x=>b++[escS x]) (fun b=> .inl (b,())) (fun k b=>b.length≤k) (fun k hk b hI=> ?_) (fun b _=> ?_) [] (by simp)) ?_
 ·refine ⟨?_,by simpa using hI⟩
  have:=segs_mem (List.getElem_mem hk)
  simp only [len_lt,hk,decide_true,br_true,at?_get hk,ob_some_eq,wrap_succ hk (by omega),L53 n (show ((segs s)[k]).length≤1000000000 by omega)]
  rw [cat?_ok (by simp [lim];omega)];rfl
 ·simp [len_lt,br_false]
 ·have hp:=path_len h
  unfold pathS at hp
  rw [fold_map]
  simp only [List.nil_append,cutM_inl]
  rw [L45 (n+1) (by rw [List.length_map];omega) (by omega)];rfl
end Pe.Tryd
end
section
/- What a name's text is read as: plain lists of bytes. -/
set_option maxRecDepth 100000
namespace Pe.Tryd
open Go Go.Proofs Pe Pe.Told
abbrev B:=List UInt8
def P (s l:B):Nat:=s.length - l.length
section
variable {s l r:B} {c:UInt8}
end
inductive Oct where
 | stop
 | bad (e:B)
 | byte (c:UInt8) (r:B)
end Pe.Tryd
end
section
/- The canonical form of a right name is right, and its own canonical form. -/
set_option maxRecDepth 100000
namespace Pe.Tryd
open Go Go.Proofs Pe Pe.Told
def consHd (b:UInt8):List B→List B
 | []=>[[b]]
 | x::r=>(b::x)::r
def splitP (c:UInt8):B→List B
 | []=>[[]]
 | b::l=>bif b==c then []::splitP c l else consHd b (splitP c l)
theorem splitK_P (c:UInt8):∀s:B,Lib.splitK [c] 0 (s.count c) s=splitP c s
 | []=>rfl
 | b::l=>by
   have ih:=splitK_P c l
   by_cases h:b=c
   ·subst h
    have hix:Lib.index (b::l) [b]=0:=by rw [Lib.index];simp [List.isPrefixOf]
    rw [List.count_cons_self,Lib.splitK,hix]
    simp [splitP,ih]
   ·have hp:([c]:List UInt8).isPrefixOf (b::l)=false:=by simp [List.isPrefixOf,Ne.symm h]
    have hix:Lib.index (b::l) [c]=if Lib.index l [c]== -1 then -1 else Lib.index l [c]+1:=by rw [Lib.index,hp];simp
    have hb:(b==c)=false:=by simpa using h
    rw [List.count_cons_of_ne h]
    simp only [splitP,hb,cond_false]
    rw [←ih]
    cases hk:l.count c with
    | zero=>rfl
    | succ k =>
      rw [Lib.splitK,Lib.splitK,hix]
      by_cases hm:Lib.index l [c]= -1
      ·simp [hm,consHd]
      ·have hge:=Lib.index_ge l [c]
       obtain ⟨j,hj⟩:∃j:Nat,Lib.index l [c]=j:=⟨(Lib.index l [c]).toNat,by omega⟩
       rw [if_neg (fun e=>hm (beq_iff_eq.1 e)),hj]
       have e1:((((j:Nat):Int)+1== -1)=false):=by rw [beq_eq_false_iff_ne];omega
       have e2:((((j:Nat):Int)== -1)=false):=by rw [beq_eq_false_iff_ne];omega
       rw [e1,e2]
       rw [show (((j:Nat):Int)+1).toNat=j+1 by omega,show (((j:Nat):Int)).toNat=j by omega]
       simp [consHd]
theorem splitS_P (c:UInt8) (s:B):splitS c s=splitP c s:=by
 unfold splitS
 rw [Lib.splitB_data]
 have e:Lib.countB ⟨s.toArray⟩ ⟨#[c]⟩=s.count c:=Lib.count_one c s
 rw [e]
 exact splitK_P c s
theorem low_low (c:UInt8):low (low c)=low c:=eq8 (f:=fun c=>low (low c)) (g:=low) (by decide+kernel) c
theorem low_47 (c:UInt8):(low c==47)=(c==47):=eq8 (f:=fun c=>(low c==47)) (g:=fun c=>(c==47)) (by decide+kernel) c
theorem low_ctl (c:UInt8):ctl (low c)=ctl c:=eq8 (f:=fun c=>ctl (low c)) (g:=ctl) (by decide+kernel) c
theorem low_dash (c:UInt8):isDash (low c)=isDash c:=eq8 (f:=fun c=>isDash (low c)) (g:=isDash) (by decide+kernel) c
theorem small_small (s:B):smallS (smallS s)=smallS s:=by simp [smallS,low_low]
theorem small_nil (s:B):(smallS s==[])=(s==[]):=by cases s<;>rfl
theorem small_ctl (s:B):(smallS s).any ctl=s.any ctl:=by
 unfold smallS
 rw [List.any_map]
 congr 1
 funext c
 exact low_ctl c
theorem dash_small:∀(b:Bool) (s:B),smallS (dashS b s)=dashS b (smallS s)
 | _,[]=>rfl
 | b,c::r=>by
   have h1:=dash_small true r;have h2:=dash_small false r
   simp only [smallS,List.map_cons] at h1 h2 ⊢
   unfold dashS
   rw [low_dash]
   cases isDash c with
   | true=>cases b<;>simp [h1,show low 45=45 from rfl]
   | false=>simp [h2]
theorem dash_dash:∀(b:Bool) (s:B),dashS b (dashS b s)=dashS b s
 | _,[]=>rfl
 | b,c::r=>by
   have h1:=dash_dash true r;have h2:=dash_dash false r
   rw [dashS]
   cases hc:isDash c with
   | true =>
     cases b with
     | true=>simp only [cond_true,List.nil_append,h1]
     | false=>simp only [cond_true,cond_false,List.cons_append,List.nil_append,dashS,show isDash 45=true from rfl,h1]
   | false=>simp only [cond_false,dashS,hc,h2]
theorem dash_nil (s:B):(dashS false s==[])=(s==[]):=by
 cases s with
 | nil=>rfl
 | cons c r=>unfold dashS;cases isDash c<;>rfl
theorem dash_mem:∀(b:Bool) (s:B) (x:UInt8),x∈dashS b s→x=45∨x∈s
 | _,[],x,h=>by cases h
 | b,c::r,x,h=>by
   unfold dashS at h
   cases hc:isDash c with
   | true =>
     rw [hc] at h
     simp only [cond_true,List.mem_append] at h
     rcases h with h | h
     ·left
      cases b with
      | true=>cases h
      | false=>simpa using h
     ·rcases dash_mem true r x h with h | h
      ·exact .inl h
      ·exact .inr (List.mem_cons_of_mem _ h)
   | false =>
     rw [hc] at h
     simp only [cond_false,List.mem_cons] at h
     rcases h with rfl | h
     ·exact .inr (List.mem_cons_self ..)
     ·rcases dash_mem false r x h with h | h
      ·exact .inl h
      ·exact .inr (List.mem_cons_of_mem _ h)
theorem dash_any {p:UInt8→Bool} (hp:p 45=false) {b:Bool} {s:B} (h:s.any p=false):(dashS b s).any p=false:=by
 rw [List.any_eq_false] at *
 intro x hx
 rcases dash_mem b s x hx with rfl | h2
 ·simp [hp]
 ·exact h x h2
theorem index_any (c:UInt8):∀s:B,decide (0≤Lib.indexByte s c)=s.any (· ==c)
 | []=>rfl
 | b::l=>by
   have ih:=index_any c l
   have hge:=Lib.indexByte_ge l c
   unfold Lib.indexByte
   rw [List.any_cons,←ih]
   cases hb:(b==c) with
   | true=>simp
   | false =>
     simp only [Bool.false_or,Bool.false_eq_true,if_false]
     by_cases h:Lib.indexByte l c= -1
     ·rw [if_pos (by simpa using h),h]
     ·rw [if_neg (by simpa using h),decide_eq_true (by omega),decide_eq_true (by omega)]
theorem consHd_map (g:UInt8→UInt8) (b:UInt8) (l:List B):consHd (g b) (l.map (List.map g))=(consHd b l).map (List.map g):=by cases l<;>rfl
theorem split_small:∀s:B,splitP 47 (smallS s)=(splitP 47 s).map smallS
 | []=>rfl
 | c::r=>by
   have ih:=split_small r
   simp only [smallS,List.map_cons] at ih ⊢
   unfold splitP
   rw [low_47,ih]
   cases (c==47) with
   | true=>simp [smallS]
   | false=>exact consHd_map low c _
theorem segs_small (s:B):segs (smallS s)=(segs s).map smallS:=by
 unfold segs
 rw [small_nil]
 cases (s==[]) with
 | true=>rfl
 | false=>simp only [cond_false];rw [splitS_P,splitS_P,split_small]
theorem path_small (s:B):pathBad (segs (smallS s)) false=pathBad (segs s) false:=by
 rw [segs_small]
 unfold pathBad
 have:((segs s).map smallS).any (segBad false)=(segs s).any (segBad false):=by
  rw [List.any_map]
  congr 1
  funext x
  simp only [Function.comp_def,segBad,small_nil,cond_false]
 have h2:len ((segs s).map smallS)=len (segs s):=by simp [len]
 rw [this]
 simp only [h2]
theorem check_zero {p:Gt.Purl}:checkS p=0↔(ruleR p.kind).2.1=0∧longS p=false∧spaceBad (ruleR p.kind).1 p=false∧pathBad (segs p.space) false=false∧nameBad p=false∧qE p.qualifiers=0∧pathBad (segs p.sub) true=false∧ctl4 p=false∧ctlQ p=false:=by
 unfold checkS
 generalize (ruleR p.kind).2.1=a
 generalize spaceBad (ruleR p.kind).1 p=b
 generalize pathBad (segs p.space) false=c
 generalize pathBad (segs p.sub) true=d
 generalize qE p.qualifiers=e
 by_cases ha:a=0
 ·subst ha
  by_cases he:e=0
  ·subst he
   cases longS p<;>cases b<;>cases c<;>cases nameBad p<;>cases d<;>cases ctl4 p<;>cases ctlQ p<;>simp
  ·have:(e != 0)=true:=by simpa using he
   rw [this]
   cases longS p<;>cases b<;>cases c<;>cases nameBad p<;>simp [he]
 ·have:(a != 0)=true:=by simpa using ha
  rw [this]
  simp [ha]
theorem big_of {s:B} (h:s.length≤200):big s=false:=decide_eq_false (by unfold len;omega)
theorem long_tiny {p:Gt.Purl} (T:Tiny p):longS p=false:=by
 unfold longS
 rw [show (four p).any big=false by simp [four,big_of T.space,big_of T.name,big_of T.version,big_of T.sub]]
 simp only [cond_false]
 rw [show p.qualifiers.any longQ=false by
  rw [List.any_eq_false]
  intro q hq
  have:=T.each q hq
  simp [longQ,big_of this.1,big_of this.2]]
 simp only [cond_false]
 exact decide_eq_false (by have:=T.quals;unfold len;omega)
theorem canon_name (p:Gt.Purl) {pr:UInt8→Bool} (h45:pr 45=false) (hl:∀c,pr (low c)=pr c) (h:p.name.any pr=false):(canonS p).name.any pr=false:=by
 have hs:(smallS p.name).any pr=false:=by
  unfold smallS
  rw [List.any_map,←h]
  congr 1
  funext c
  exact hl c
 unfold canonS
 cases (ruleR p.kind).1.small<;>cases (ruleR p.kind).1.dashes
 ·exact h
 ·exact dash_any h45 h
 ·exact hs
 ·exact dash_any h45 hs
theorem check_canon {p:Gt.Purl} (h:checkS p=0):checkS (canonS p)=0:=by
 have T:=check_tiny h
 rw [check_zero] at h ⊢
 obtain ⟨h1,h2,h3,h4,h5,h6,h7,h8,h9⟩:=h
 have hsp:((canonS p).space==[])=(p.space==[]):=by
  unfold canonS
  cases (ruleR p.kind).1.small
  ·rfl
  ·exact small_nil _
 have hna:((canonS p).name==[])=(p.name==[]):=by
  unfold canonS
  cases (ruleR p.kind).1.small<;>cases (ruleR p.kind).1.dashes
  ·rfl
  ·exact dash_nil _
  ·exact small_nil _
  ·exact (dash_nil _).trans (small_nil _)
 refine ⟨h1,long_tiny (tiny_canon T),?_,?_,?_,h6,h7,?_,h9⟩
 ·have e:spaceBad (ruleR (canonS p).kind).1 (canonS p)=spaceBad (ruleR p.kind).1 p:=by
   unfold spaceBad
   rw [show ((canonS p).space != [])=(p.space != []) from congrArg (!·) hsp,hsp]
   rfl
  rw [e];exact h3
 ·unfold canonS
  cases (ruleR p.kind).1.small
  ·exact h4
  ·exact (path_small _).trans h4
 ·unfold nameBad at h5 ⊢
  rw [hna,index_any]
  rw [index_any] at h5
  cases hn:(p.name==[]) with
  | true=>rw [hn] at h5;cases h5
  | false =>
    rw [hn] at h5
    exact canon_name p rfl (fun c=>low_47 c) h5
 ·unfold ctl4 four at h8 ⊢
  simp only [List.any_cons,List.any_nil,Bool.or_false,Bool.or_eq_false_iff] at h8 ⊢
  refine ⟨?_,canon_name p rfl low_ctl h8.2.1,h8.2.2⟩
  unfold canonS
  cases (ruleR p.kind).1.small
  ·exact h8.1
  ·exact (small_ctl _).trans h8.1
theorem canon_canon (p:Gt.Purl):canonS (canonS p)=canonS p:=by
 unfold canonS
 cases (ruleR p.kind).1.small<;>cases (ruleR p.kind).1.dashes<;>simp [small_small,dash_small,dash_dash]
end Pe.Tryd
end
section
/- What is printed of a right canonical name is read as that name. -/
set_option maxRecDepth 100000
namespace Pe.Tryd
open Go Go.Proofs Pe Pe.Told
theorem lt_total {a b:Q} (h1:ltQ a b=false) (h2:ltQ b a=false):a.name=b.name:=by
 unfold ltQ at h1 h2
 rw [bytesLess_eq] at h1 h2
 exact List.le_antisymm (of_decide_eq_false h2) (of_decide_eq_false h1)
theorem asc_of:∀{l:List Q},(∀k,(h:k+1<l.length)→ltQ l[k] l[k+1]=true)→l.Pairwise fun a b=>ltQ a b=true
 | [],_=>List.Pairwise.nil
 | [a],_=>by simp
 | a::b::r,h=>by
   have h0:=h 0 (by simp)
   simp only [List.getElem_cons_zero,List.getElem_cons_succ] at h0
   have ih:=asc_of (l:=b::r) fun k hk=>by have:=h (k+1) (by simpa using hk);simpa using this
   refine List.pairwise_cons.2 ⟨fun x hx=> ?_,ih⟩
   rcases List.mem_cons.1 hx with rfl | hx
   ·exact h0
   ·have h1:=(List.pairwise_cons.1 ih).1 x hx
    unfold ltQ at *
    rw [bytesLess_eq] at *
    exact decide_eq_true (List.lt_trans (of_decide_eq_true h0) (of_decide_eq_true h1))
theorem qE_each {l:List Q} (h:qE l=0) {q:Q} (hq:q∈l):nameS q.name=true∧q.value≠[]:=by
 obtain ⟨k,hk,rfl⟩:=List.getElem_of_mem hq
 have:=ff_at (F:=qF l) h hk
 unfold qF at this
 rw [getD_get pair0 hk] at this
 cases h1:nameS l[k].name with
 | false=>rw [h1] at this;simp at this
 | true =>
   rw [h1] at this
   refine ⟨rfl,fun h2=> ?_⟩
   rw [h2] at this
   simp at this
theorem qE_asc {l:List Q} (h:qE l=0):l.Pairwise fun a b=>ltQ a b=true:=by
 refine asc_of fun k hk=> ?_
 have h1:=qE_each h (List.getElem_mem hk)
 have:=ff_at (F:=qF l) h hk
 unfold qF at this
 rw [getD_get pair0 hk,Nat.add_sub_cancel,getD_get pair0 (show k<l.length by omega),h1.1,show (l[k+1].value==[])=false by simpa using h1.2,decide_eq_true (show (0:Int)<((k+1:Nat):Int) by omega)] at this
 simp only [Bool.not_true,cond_false,Bool.true_and] at this
 cases h3:(Op.bytesLess l[k+1].name l[k].name||(l[k+1].name==l[k].name)) with
 | true=>rw [h3] at this;simp at this
 | false =>
   rw [Bool.or_eq_false_iff] at h3
   cases h4:ltQ l[k] l[k+1] with
   | true=>rfl
   | false=>have:=lt_total (a:=l[k+1]) (b:=l[k]) h3.1 h4;rw [this] at h3;simp at h3
def Hd (cs:List UInt8) (r:B):Prop:=r=[]∨∃c t,r=c::t∧c∈cs
theorem Hd.imp {cs ds:List UInt8} {r:B} (h:Hd cs r) (hs:∀c∈cs,c∈ds):Hd ds r:=by
 rcases h with h | ⟨c,t,h1,h2⟩
 ·exact .inl h
 ·exact .inr ⟨c,t,h1,hs c h2⟩
end Pe.Tryd
end
section
/- The law of changes, in plain: a name with another version, or with a qualifier that has another value. -/
set_option maxRecDepth 100000
namespace Pe.Tryd
open Go Go.Proofs Pe Pe.Told
def Asc (l:List Q):Prop:=l.Pairwise fun a b=>ltQ a b=true
def stepR (nm vl:List UInt8) (a:Bool×List Q) (q:Q):Bool×List Q :=
 let b:=bif !a.1&& !(Op.bytesLess q.name nm) then (true,a.2++[⟨nm,vl⟩]) else a
 (b.1,bif q.name != nm then b.2++[q] else b.2)
def endR (nm vl:List UInt8) (a:Bool×List Q):List Q:=bif !a.1 then a.2++[⟨nm,vl⟩] else a.2
theorem less_irr (s:List UInt8):Op.bytesLess s s=false:=by
 rw [bytesLess_eq];exact decide_eq_false (List.lt_irrefl _)
theorem less_ne {a b:List UInt8} (h:Op.bytesLess a b=true):(a != b)=true:=by
 cases he:a != b with
 | true=>rfl
 | false =>
   have:a=b:=by simpa using he
   subst this
   rw [less_irr] at h;cases h
theorem less_trans {a b c:List UInt8} (h:Op.bytesLess a b=true) (k:Op.bytesLess b c=true):Op.bytesLess a c=true:=by
 rw [bytesLess_eq] at *
 exact decide_eq_true (List.lt_trans (of_decide_eq_true h) (of_decide_eq_true k))
theorem less_tri {a b:List UInt8} (h:Op.bytesLess a b=false) (k:(a==b)=false):Op.bytesLess b a=true:=by
 rw [bytesLess_eq] at *
 have h:=of_decide_eq_false h
 have k:a≠b:=by simpa using k
 refine decide_eq_true ?_
 exact Classical.byContradiction fun h2=>k (List.le_antisymm (List.not_lt.1 h2) (List.not_lt.1 h))
theorem fold_lo {nm vl:List UInt8}:∀{A:List Q} (b:Bool) (out:List Q),(∀q∈A,Op.bytesLess q.name nm=true)→A.foldl (stepR nm vl) (b,out)=(b,out++A)
 | [],b,out,_=>by simp
 | q::A,b,out,h=>by
   have h1:=h q (by simp)
   have e:stepR nm vl (b,out) q=(b,out++[q]):=by
    unfold stepR
    simp only [h1,Bool.not_true,Bool.and_false,cond_false,less_ne h1,cond_true]
   rw [List.foldl_cons,e,fold_lo b _ fun q hq=>h q (by simp [hq])]
   simp
theorem fold_hi {nm vl:List UInt8}:∀{C:List Q} (out:List Q),(∀q∈C,Op.bytesLess nm q.name=true)→C.foldl (stepR nm vl) (true,out)=(true,out++C)
 | [],out,_=>by simp
 | q::C,out,h=>by
   have h1:=h q (by simp)
   have h2:(q.name != nm)=true:=by rw [bne_comm];exact less_ne h1
   have e:stepR nm vl (true,out) q=(true,out++[q]):=by
    unfold stepR
    simp only [Bool.not_true,Bool.false_and,cond_false,h2,cond_true]
   rw [List.foldl_cons,e,fold_hi _ fun q hq=>h q (by simp [hq])]
   simp
def chgS (l:List Q) (nm vl:List UInt8) (s:Nat) (there:Bool):List Q :=
 bif (vl==[])&&there then l.eraseIdx s else bif (vl != [])&&there then l.set s ⟨nm,vl⟩ else bif vl != [] then l.take s++[⟨nm,vl⟩]++l.drop s else l
def PlaceAt (l:List Q) (nm:List UInt8) (s:Nat):Prop:=s≤l.length∧(s=0∨atP l (s - 1) (fun q=>Op.bytesLess q.name nm)=true)∧(s=l.length∨atP l s (fun q=>Op.bytesLess q.name nm)=false)
theorem place_parts {l:List Q} {nm:List UInt8} {s:Nat} (ha:Asc l) (hp:PlaceAt l nm s):(∀q∈l.take s,Op.bytesLess q.name nm=true)∧(∀q∈l.drop s,Op.bytesLess q.name nm=false):=by
 obtain ⟨h1,h2,h3⟩:=hp
 refine ⟨fun q hq=> ?_,fun q hq=> ?_⟩
 ·obtain ⟨k,hk⟩:=List.getElem?_of_mem hq
  rw [List.getElem?_take] at hk
  split at hk
  ·rename_i hks
   rcases h2 with h2 | h2
   ·omega
   ·have hs:s - 1<l.length:=by omega
    rw [atP_eq (List.getElem?_eq_getElem hs)] at h2
    by_cases he:k=s - 1
    ·subst he
     rw [List.getElem?_eq_getElem hs] at hk;cases hk;exact h2
    ·have hkl:k<l.length:=by omega
     rw [List.getElem?_eq_getElem hkl] at hk;cases hk
     exact less_trans (List.pairwise_iff_getElem.1 ha k (s - 1) hkl hs (by omega)) h2
  ·cases hk
 ·obtain ⟨k,hk⟩:=List.getElem?_of_mem hq
  rw [List.getElem?_drop] at hk
  have hkl:s+k<l.length:=(List.getElem?_eq_some_iff.1 hk).1
  rw [List.getElem?_eq_getElem hkl] at hk;cases hk
  rcases h3 with h3 | h3
  ·omega
  ·have hs:s<l.length:=by omega
   rw [atP_eq (List.getElem?_eq_getElem hs)] at h3
   cases hb:Op.bytesLess l[s+k].name nm with
   | false=>rfl
   | true =>
     cases k with
     | zero=>rw [show l[s+0].name=l[s].name from rfl] at hb;rw [h3] at hb;cases hb
     | succ k=>rw [less_trans (List.pairwise_iff_getElem.1 ha s (s+(k+1)) hs hkl (by omega)) hb] at h3;cases h3
def thereS (l:List Q) (nm:List UInt8) (s:Nat):Bool:=atP l s fun q=>q.name==nm
theorem chg_eq {l:List Q} {nm vl:List UInt8} {s:Nat} (ha:Asc l) (hp:PlaceAt l nm s):endR nm vl (l.foldl (stepR nm vl) (vl==[],[]))=chgS l nm vl s (thereS l nm s):=by
 obtain ⟨hlo,hhi⟩:=place_parts ha hp
 have hcut:l=l.take s++l.drop s:=(List.take_append_drop _ _).symm
 have hl:(l.take s).length=s:=by rw [List.length_take];have:=hp.1;omega
 generalize hA:l.take s=A at *
 generalize hB:l.drop s=B at *
 have hf:∀b,l.foldl (stepR nm vl) (b,[])=B.foldl (stepR nm vl) (b,A):=fun b=>by
  rw [hcut,List.foldl_append,fold_lo b [] hlo,List.nil_append]
 rw [hf]
 have hget:l[s]? =B[0]? :=by rw [hcut,List.getElem?_append_right (by omega),hl,Nat.sub_self]
 cases B with
 | nil =>
   have ht:thereS l nm s=false:=by unfold thereS atP;rw [hget];rfl
   rw [ht]
   unfold chgS endR
   simp only [List.foldl_nil,Bool.and_false,cond_false,hA,hB]
   cases hv:vl==[] with
   | true=>rw [show (vl != [])=false by rw [bne,hv];rfl];simp only [Bool.not_true,cond_false];rw [hcut];simp
   | false=>rw [show (vl != [])=true by rw [bne,hv];rfl];simp
 | cons y C =>
   have hy0:Op.bytesLess y.name nm=false:=hhi y (by simp)
   have hys:ltQ y=fun b=>Op.bytesLess y.name b.name:=rfl
   have hC:∀q∈C,Op.bytesLess y.name q.name=true:=fun q hq=>by
    have h9:(A++y::C).Pairwise fun a b=>ltQ a b=true:=by rw [←hcut];exact ha
    exact (List.pairwise_cons.1 (List.pairwise_append.1 h9).2.1).1 q hq
   have ht:thereS l nm s=(y.name==nm):=by unfold thereS;rw [atP_eq (y:=y) (by rw [hget];rfl)]
   rw [ht]
   cases hyn:y.name==nm with
   | true =>
     have hyn':y.name=nm:=by simpa using hyn
     have hne:(y.name != nm)=false:=by rw [bne,hyn];rfl
     have hCn:∀q∈C,Op.bytesLess nm q.name=true:=fun q hq=>hyn'▸hC q hq
     cases hv:vl==[] with
     | true =>
       have e:stepR nm vl (true,A) y=(true,A):=by
        unfold stepR;simp only [Bool.not_true,Bool.false_and,cond_false,hne]
       rw [List.foldl_cons,e,fold_hi A hCn]
       unfold chgS endR
       simp only [hv,Bool.and_self,cond_true,Bool.not_true,cond_false]
       rw [hcut,List.eraseIdx_append_of_length_le (by omega),hl,Nat.sub_self];rfl
     | false =>
       have hv2:(vl != [])=true:=by rw [bne,hv];rfl
       have e:stepR nm vl (false,A) y=(true,A++[⟨nm,vl⟩]):=by
        unfold stepR;simp only [Bool.not_false,Bool.true_and,hy0,cond_true,hne,cond_false]
       rw [List.foldl_cons,e,fold_hi _ hCn]
       unfold chgS endR
       simp only [hv,Bool.false_and,cond_false,hv2,Bool.and_self,cond_true,Bool.not_true]
       rw [hcut,List.set_append_right _ _ (by omega),hl,Nat.sub_self]
       simp
   | false =>
     have hlt:Op.bytesLess nm y.name=true:=less_tri hy0 hyn
     have hne:(y.name != nm)=true:=by rw [bne,hyn];rfl
     have hCn:∀q∈C,Op.bytesLess nm q.name=true:=fun q hq=>less_trans hlt (hC q hq)
     cases hv:vl==[] with
     | true =>
       have hv2:(vl != [])=false:=by rw [bne,hv];rfl
       have e:stepR nm vl (true,A) y=(true,A++[y]):=by
        unfold stepR;simp only [Bool.not_true,Bool.false_and,cond_false,hne,cond_true]
       rw [List.foldl_cons,e,fold_hi _ hCn]
       unfold chgS endR
       simp only [hv,Bool.and_false,cond_false,hv2,Bool.not_true]
       rw [hcut];simp
     | false =>
       have hv2:(vl != [])=true:=by rw [bne,hv];rfl
       have e:stepR nm vl (false,A) y=(true,A++[⟨nm,vl⟩]++[y]):=by
        unfold stepR;simp only [Bool.not_false,Bool.true_and,hy0,cond_true,hne]
       rw [List.foldl_cons,e,fold_hi _ hCn]
       unfold chgS endR
       simp only [Bool.and_false,cond_false,hv2,cond_true,Bool.not_true,hA,hB]
       simp
end Pe.Tryd
end
section
/- The law of changes, in plain: what both sides do. -/
set_option maxRecDepth 100000
namespace Pe.Tryd
open Go Go.Proofs Pe Pe.Told
noncomputable def bsE (orc:Orc Sx) (l:List Q) (nm:List UInt8):Option (Int×Bool×Unit):=(cutM (σ:=Int×Unit) (R:=_) (loopM (σ:=Int×Int×Unit) (R:=_) (fun (t5:Int×Int×Unit)=>(br (decide (t5.1<t5.2.1)) (ob (at? l (IntKind.i64.wrap (shrI .u64 (IntKind.u64.wrap (IntKind.i64.wrap (t5.1+t5.2.1))) 1))) fun y6=>(ob (α:=Int×Unit) (orc.d 73 [.st 3 y6,.str nm] [(.int .i64)]) fun (r7:Int×Unit)=>(br (decide (r7.1<0)) (some (.inl ((IntKind.i64.wrap ((IntKind.i64.wrap (shrI .u64 (IntKind.u64.wrap (IntKind.i64.wrap (t5.1+t5.2.1))) 1))+1)),t5.2.1,()))) (some (.inl (t5.1,(IntKind.i64.wrap (shrI .u64 (IntKind.u64.wrap (IntKind.i64.wrap (t5.1+t5.2.1))) 1)),())))))) (some (.inr (.inl (t5.1,())))))) (0,(len l),())) fun (t8:Int×Unit)=>(ob (br (decide (t8.1<(len l))) (ob (at? l t8.1) fun y9=>(ob (α:=Int×Unit) (orc.d 73 [.st 3 y9,.str nm] [(.int .i64)]) fun (r10:Int×Unit)=>(some (r10.1==0)))) (some false)) fun b11=>(some (t8.1,b11,()))))
theorem L73 (n:Nat) (y:Q) (nm:List UInt8): @Eq (Option (Int×Unit)) ((orcN (n+3)).d 73 [.st 3 y,.str nm] [(.int .i64)]) (some (cmpS y.name nm,())):=by
 refine (q73 (n+2) y nm).trans ?_
 have h: @Eq (Option (Int×Unit)) ((orcN (n+2)).d 41 [.str y.name,.str nm] [(.int .i64)]) (some (cmpS y.name nm,())):=(q41 (n+1) _ _).trans (s41 n _ _)
 unfold m73
 rw [h];rfl
theorem cmp_less (a b:List UInt8):decide (cmpS a b<0)=Op.bytesLess a b:=by
 unfold cmpS
 cases Op.bytesLess a b<;>cases (a==b)<;>rfl
theorem cmp_zero (a b:List UInt8):(cmpS a b==0)=(a==b):=by
 unfold cmpS
 cases h:Op.bytesLess a b with
 | true =>
   have:=less_ne h
   rw [bne] at this
   cases he:a==b with
   | true=>rw [he] at this;cases this
   | false=>rfl
 | false=>cases (a==b)<;>rfl
noncomputable def bsF (orc:Orc Sx) (l:List Q) (nm:List UInt8):Int×Int×Unit→Option ((Int×Int×Unit)⊕((Int×Unit)⊕(Int×Bool×Unit))):=fun (t5:Int×Int×Unit)=>(br (decide (t5.1<t5.2.1)) (ob (at? l (IntKind.i64.wrap (shrI .u64 (IntKind.u64.wrap (IntKind.i64.wrap (t5.1+t5.2.1))) 1))) fun y6=>(ob (α:=Int×Unit) (orc.d 73 [.st 3 y6,.str nm] [(.int .i64)]) fun (r7:Int×Unit)=>(br (decide (r7.1<0)) (some (.inl ((IntKind.i64.wrap ((IntKind.i64.wrap (shrI .u64 (IntKind.u64.wrap (IntKind.i64.wrap (t5.1+t5.2.1))) 1))+1)),t5.2.1,()))) (some (.inl (t5.1,(IntKind.i64.wrap (shrI .u64 (IntKind.u64.wrap (IntKind.i64.wrap (t5.1+t5.2.1))) 1)),())))))) (some (.inr (.inl (t5.1,())))))
theorem search (n:Nat) {l:List Q} (hl:l.length≤1000000000) (nm:List UInt8):∃s,PlaceAt l nm s∧bsE (orcN (n+3)) l nm=some ((s:Int),thereS l nm s,()):=by
 obtain ⟨s,h1,h2,h3,h4,h5⟩:=bsearch (f:=bsF (orcN (n+3)) l nm) (fun s=>(Sum.inl ((s:Int),()):(Int×Unit)⊕(Int×Bool×Unit))) (fun h=>atP l h fun q=>Op.bytesLess q.name nm) 0 l.length
  (fun i j h1 h2 h3=>by
   unfold bsF
   dsimp only
   have hm:(i+j) / 2<l.length:=by omega
   rw [decide_eq_true (by omega),br_true,midI (by omega),at?_get hm]
   simp only [ob_some_eq,L73,cmp_less]
   rw [atP_eq (List.getElem?_eq_getElem hm),wrapZ (n:=(i+j) / 2+1) (by omega) (by omega)]
   cases Op.bytesLess l[(i+j) / 2].name nm<;>rfl)
  (fun i h1 h2=>by
   unfold bsF
   dsimp only
   rw [decide_eq_false (by omega),br_false])
  l.length 0 l.length (by omega) (Nat.le_refl _) (Nat.zero_le _) (Nat.le_refl _) (.inl rfl) (.inl rfl)
 refine ⟨s,⟨h2,h3,h4⟩,?_⟩
 unfold bsE
 refine (congrArg (fun z=>cutM (σ:=Int×Unit) (R:=Int×Bool×Unit) z _) h5).trans ?_
 rw [cutM_inl]
 dsimp only
 by_cases hs:s<l.length
 ·simp only [len_lt,hs,decide_true,br_true,at?_get hs,ob_some_eq,L73,cmp_zero]
  unfold thereS
  rw [atP_eq (List.getElem?_eq_getElem hs)]
 ·have hs:s=l.length:=by omega
  subst hs
  unfold thereS atP
  simp [len,br_false,ob_some_eq]
theorem G74 (n:Nat) {l:List Q} {k:Nat} (hk:k<l.length): @Eq (Option ((List Q×Unit)⊕Unit)) ((orcN (n+1)).l 74 sg74 ((l,(k:Int),((k+1:Nat):Int),()):List Q×Int×Int×Unit)) (some (.inl (l.eraseIdx k,()))):=by
 refine (show _=delSpec l (k:Int) ((k+1:Nat):Int) by kernel_rfl).trans ?_
 unfold delSpec
 have h1:decide ((0:Int)≤(k:Int))=true:=decide_eq_true (by omega)
 have h2:decide (((k+1:Nat):Int)=(k:Int)+1)=true:=decide_eq_true (by omega)
 have h3:Nat.blt (Int.toNat (k:Int)) l.length=true:=by rw [Nat.blt_eq];exact hk
 rw [h1,h2,h3];rfl
theorem G75 (n:Nat) {l:List Q} {k:Nat} (hk:k≤l.length) (hl:l.length≤1000000) (x:Q): @Eq (Option ((List Q×Unit)⊕Unit)) ((orcN (n+1)).l 75 sg75 ((l,(k:Int),([x]:List Q),()):List Q×Int×List Q×Unit)) (some (.inl (l.take k++[x]++l.drop k,()))):=by
 refine (show _=insSpec l (k:Int) [x] by kernel_rfl).trans ?_
 unfold insSpec
 have h1:decide ((0:Int)≤(k:Int))=true:=decide_eq_true (by omega)
 have h2:Nat.ble (Int.toNat (k:Int)) l.length=true:=by rw [Nat.ble_eq];exact hk
 have h3:Nat.ble l.length 1000000=true:=by rw [Nat.ble_eq];exact hl
 rw [h1,h2,h3];rfl
def withQ (p:Gt.Purl) (q:List Q):Gt.Purl:=⟨p.kind,p.space,p.name,p.version,q,p.sub⟩
def onlyQ (q:List Q):Int:=bif (bif q.any longQ then true else decide (10<len q)) then 3 else bif qE q != 0 then qE q else bif q.any (fun q=>q.value.any ctl) then 8 else 0
theorem check_with {p:Gt.Purl} (h:checkS p=0) (q:List Q):checkS (withQ p q)=onlyQ q:=by
 obtain ⟨h1,h2,h3,h4,h5,h6,h7,h8,h9⟩:=check_zero.1 h
 have hb:(four p).any big=false:=by
  unfold longS at h2
  cases hb:(four p).any big with
  | true=>rw [hb] at h2;cases h2
  | false=>rfl
 have e1:(ruleR (withQ p q).kind).2.1=0:=h1
 have e2:longS (withQ p q)=(bif q.any longQ then true else decide (10<len q)):=by
  unfold longS
  rw [show four (withQ p q)=four p from rfl,hb];rfl
 have e3:spaceBad (ruleR (withQ p q).kind).1 (withQ p q)=false:=h3
 have e4:pathBad (segs (withQ p q).space) false=false:=h4
 have e5:nameBad (withQ p q)=false:=h5
 have e7:pathBad (segs (withQ p q).sub) true=false:=h7
 have e8:ctl4 (withQ p q)=false:=h8
 unfold checkS onlyQ
 rw [e1,e2,e3,e4,e5,e7,e8]
 rfl
theorem canon_with (p:Gt.Purl) (q:List Q):canonS (withQ (canonS p) q)=canonS (withQ p q):=by
 have h:∀r,canonS (withQ r q)=withQ (canonS r) q:=fun r=>rfl
 rw [h,h,canon_canon]
theorem canonR_with {p:Gt.Purl} (h:checkS p=0) (q:List Q):canonR (withQ (canonS p) q)=canonR (withQ p q):=by
 unfold canonR
 rw [check_with h,check_with (check_canon h),canon_with]
theorem quals_asc {p:Gt.Purl} (h:checkS p=0):Asc p.qualifiers:=qE_asc (check_zero.1 h).2.2.2.2.2.1
theorem chg_len {l:List Q} {nm vl:List UInt8} {s:Nat} {b:Bool} (h:l.length≤10):(chgS l nm vl s b).length≤1000000000:=by
 have h1:(l.eraseIdx s).length≤l.length:=List.length_eraseIdx_le l s
 unfold chgS
 cases (vl==[])&&b
 ·cases (vl != [])&&b
  ·cases vl != []
   ·simp only [cond_false];omega
   ·simp only [cond_true,cond_false,List.length_append,List.length_take,List.length_drop,List.length_singleton];omega
  ·simp only [cond_true,cond_false,List.length_set];omega
 ·simp only [cond_true];omega
def none6:Gt.Purl:=⟨[],[],[],[],[],[]⟩
theorem s29 (n:Nat) {p:Gt.Purl} (h:p.qualifiers.length≤1000000000) (nm vl:List UInt8):m29 (orcN (n+5)) p nm vl=some (bif checkS p != 0 then (none6,checkS p,()) else canonR (withQ p (endR nm vl (p.qualifiers.foldl (stepR nm vl) (vl==[],[]))))):=by
 unfold m29
 rw [L25 (n+1) h]
 simp only [ob_some_eq]
 cases hc:(checkS p != 0) with
 | true=>rfl
 | false =>
 have h0:checkS p=0:=by simpa using hc
 have T:=check_tiny h0
 have hq:=T.quals
 obtain ⟨s,hp,hs⟩:=search (n+2) (l:=p.qualifiers) (by omega) nm
 rw [chg_eq (quals_asc h0) hp,←canonR_with h0]
 simp only [br_false,cond_false]
 refine (congrArg (fun z=>oc (α:=P6) (β:=Unit) z _ _) (L42 (n+1) T)).trans ?_
 rw [oc_inl]
 have hs':bsE (orcN (n+5)) ((cells6 (canonS p)).2.2.2.2.1) nm=some ((s:Int),thereS p.qualifiers nm s,()):=hs
 refine (congrArg (fun z=>ob (α:=Int×Bool×Unit) z _) hs').trans ?_
 simp only [ob_some_eq]
 have hq5:(cells6 (canonS p)).2.2.2.2.1=p.qualifiers:=rfl
 simp only [hq5]
 have fin:∀(th:Bool) (q:List Q),q=chgS p.qualifiers nm vl s th→(ob (α:=Gt.Purl×Int×Unit) ((orcN (n+5)).d 21 [.st 4 (withQ (canonS p) q)] [(.st 4),(.int .i64)]) fun (r22:Gt.Purl×Int×Unit)=>(some (r22.1,r22.2.1,())))=some (canonR (withQ (canonS p) (chgS p.qualifiers nm vl s th))):=fun th q hq2=>by
  subst hq2
  rw [L21 n (p:=withQ (canonS p) (chgS p.qualifiers nm vl s th)) (chg_len hq)]
  rfl
 have hthere:∀b,thereS p.qualifiers nm s=b→b=true→s<p.qualifiers.length:=fun b hb h1=>by
  rw [h1] at hb
  unfold thereS atP at hb
  split at hb
  ·rename_i y hy;exact (List.getElem?_eq_some_iff.1 hy).1
  ·cases hb
 cases hb:thereS p.qualifiers nm s with
 | true =>
   have hsl:=hthere _ hb rfl
   cases hv:vl==[] with
   | true =>
     simp only [br_true,ob_some_eq]
     rw [wrapZ (n:=s+1) (by omega) (by omega)]
     refine (congrArg (fun z=>cutM (σ:=P6) (R:=Gt.Purl×Int×Unit) (oc (α:=List Q×Unit) (β:=Unit) z _ _) _) (G74 (n+4) hsl)).trans ?_
     rw [oc_inl,cutM_inl]
     refine fin true _ ?_
     unfold chgS;rw [hv];rfl
   | false =>
     have hv2:(vl != [])=true:=by rw [bne,hv];rfl
     simp only [br_false,ob_some_eq,hv2,br_true]
     rw [idxN hsl]
     simp only [ob_some_eq,get?,List.getElem?_eq_getElem hsl,cutM_inl]
     refine fin true _ ?_
     unfold chgS;rw [hv,hv2]
     have hn:p.qualifiers[s].name=nm:=by
      unfold thereS at hb
      rw [atP_eq (List.getElem?_eq_getElem hsl)] at hb
      simpa using hb
     rw [hn];rfl
 | false =>
   cases hv:vl==[] with
   | true =>
     have hv2:(vl != [])=false:=by rw [bne,hv];rfl
     simp only [br_true,ob_some_eq,br_false,hv2,cutM_inl]
     refine fin false _ ?_
     unfold chgS;rw [hv,hv2];rfl
   | false =>
     have hv2:(vl != [])=true:=by rw [bne,hv];rfl
     simp only [br_true,ob_some_eq,br_false,hv2]
     refine (congrArg (fun z=>cutM (σ:=P6) (R:=Gt.Purl×Int×Unit) (oc (α:=List Q×Unit) (β:=Unit) z _ _) _) (G75 (n+4) hp.1 (by omega) ⟨nm,vl⟩)).trans ?_
     rw [oc_inl,cutM_inl]
     refine fin false _ ?_
     unfold chgS;rw [hv,hv2];rfl
theorem s30 (n:Nat) {p:Gt.Purl} (h:p.qualifiers.length≤1000000000) (nm vl:List UInt8):m30 (orcN (n+5)) p nm vl=some (bif checkS p != 0 then (none6,checkS p,()) else canonR (withQ p (endR nm vl (p.qualifiers.foldl (stepR nm vl) (vl==[],[]))))):=by
 unfold m30
 rw [L26 (n+1) h]
 simp only [ob_some_eq]
 cases hc:(checkS p != 0) with
 | true=>rfl
 | false =>
 have h0:checkS p=0:=by simpa using hc
 have T:=check_tiny h0
 have hq:=T.quals
 simp only [br_false,cond_false]
 have key:(p.qualifiers.foldl (stepR nm vl) (vl==[],[])).2.length≤2*p.qualifiers.length:=by
  have gen:∀(l:List Q) (a:Bool×List Q),(l.foldl (stepR nm vl) a).2.length≤a.2.length+2*l.length:=by
   intro l
   induction l with
   | nil=>intro a;simp
   | cons q l ih =>
     intro a
     rw [List.foldl_cons]
     have h1:(stepR nm vl a q).2.length≤a.2.length+2:=by
      unfold stepR
      cases (!a.1&& !(Op.bytesLess q.name nm))<;>cases (q.name != nm)<;>simp
     have h2:=ih (stepR nm vl a q)
     simp only [List.length_cons]
     omega
  have:=gen p.qualifiers (vl==[],[])
  simpa using this
 refine cut_of (loop_fold (A:=Bool×List Q) (fun k (a:Bool×List Q)=>(a.1,(k:Int),p.kind,p.space,p.name,p.version,a.2,p.sub,())) p.qualifiers (stepR nm vl)
  (fun a=> .inl (a.1,p.kind,p.space,p.name,p.version,a.2,p.sub,())) (fun k a=>a.2.length≤2*k) (fun k hk a ha=> ?_) (fun a _=> ?_) (vl==[],[]) (by simp)) ?_
 ·obtain ⟨a1,a2⟩:=a
  have ha:a2.length≤2*k:=ha
  refine ⟨?_,?_⟩
  ·simp only [len_lt,hk,decide_true,br_true,at?_get hk,ob_some_eq,wrap_succ hk (by omega:p.qualifiers.length≤9223372036854775807)]
   unfold stepR
   have hlim:lim=4294967296:=rfl
   cases a1 with
   | true =>
     simp only [Bool.not_true,br_false,ob_some_eq,Bool.false_and,cond_false,cutM_inl]
     cases (p.qualifiers[k].name != nm) with
     | true=>simp only [br_true,cond_true];rw [cat?_ok (by simp;omega)];rfl
     | false=>rfl
   | false =>
     simp only [Bool.not_false,br_true,ob_some_eq,Bool.true_and]
     cases hlt:Op.bytesLess p.qualifiers[k].name nm with
     | true =>
       simp only [Bool.not_true,br_false,cond_false,cutM_inl]
       cases (p.qualifiers[k].name != nm) with
       | true=>simp only [br_true,cond_true];rw [cat?_ok (by simp;omega)];rfl
       | false=>rfl
     | false =>
       simp only [Bool.not_false,br_true,cond_true]
       rw [cat?_ok (by simp;omega)]
       simp only [ob_some_eq,cutM_inl]
       cases (p.qualifiers[k].name != nm) with
       | true=>simp only [br_true,cond_true];rw [cat?_ok (by simp;omega)];rfl
       | false=>rfl
  ·unfold stepR
   show (_:List Q).length≤_
   cases (!a1&& !(Op.bytesLess p.qualifiers[k].name nm))<;>cases (p.qualifiers[k].name != nm)<;>simp<;>omega
 ·simp [len,br_false]
 ·rw [cutM_inl]
  dsimp only
  generalize p.qualifiers.foldl (stepR nm vl) (vl==[],[])=a at key
  have hlim:lim=4294967296:=rfl
  have fin:∀q:List Q,q.length≤1000000000→(ob (α:=Gt.Purl×Int×Unit) ((orcN (n+5)).d 15 [.st 4 (withQ p q)] [(.st 4),(.int .i64)]) fun (r11:Gt.Purl×Int×Unit)=>(some (r11.1,r11.2.1,())))=some (canonR (withQ p q)):=fun q hq2=>by
   rw [L15 n (p:=withQ p q) hq2];rfl
  unfold endR
  cases a.1 with
  | true=>simp only [Bool.not_true,br_false,cutM_inl,cond_false];exact fin _ (by omega)
  | false =>
    simp only [Bool.not_false,br_true,cond_true]
    rw [cat?_ok (by simp;omega)]
    simp only [ob_some_eq,cutM_inl]
    exact fin _ (by simp;omega)
end Pe.Tryd
end
section
/- PROVED: THE LAW OF CHANGES, plain: With and Qualified are what is specified. -/
set_option maxRecDepth 100000
namespace Pe.Tryd
open Go Go.Proofs Pe Pe.Told
theorem s51 (o:Orc Sx) {l:List Gt.Pair} (h:l.length≤1000000000):m51 o l l=some (true,()):=by
 unfold m51
 rw [show (len l != len l)=false by simp]
 simp only [br_false]
 refine cut_of (r:=Sum.inl ()) (loop_ix (R:=Unit⊕(Bool×Unit)) l.length (fun _=>Sum.inl ()) (fun k hk=> ?_) 0 (Nat.zero_le _)) rfl
 by_cases hlt:k<l.length
 ·left
  refine ⟨hlt,?_,rfl⟩
  simp only [len_lt,hlt,decide_true,br_true,at?_get hlt,ob_some_eq,wrap_succ hlt (by omega)]
  simp [br_false]
 ·right
  obtain rfl:k=l.length:=by omega
  simp [len_lt,br_false]
theorem L51 (n:Nat) {l:List Gt.Pair} (h:l.length≤1000000000): @Eq (Option (Bool×Unit)) ((orcN (n+1)).d 51 [.sl (.st 3) l,.sl (.st 3) l] [.bool]) (some (true,())):=(q51 n _ _).trans (s51 _ h)
theorem L12 (n:Nat) {p:Gt.Purl} (h:p.qualifiers.length≤1000000000): @Eq (Option (Bool×Unit)) ((orcN (n+2)).d 12 [.st 4 p,.st 4 p] [.bool]) (some (true,())):=by
 rw [q12]
 unfold m12
 rw [L51 n h]
 simp [ob_some_eq,br_true]
theorem canonR_len {p:Gt.Purl} (h:p.qualifiers.length≤1000000000):(canonR p).1.qualifiers.length≤1000000000:=by
 unfold canonR;cases (checkS p != 0)<;>simp [canonS];exact h
def withV (p:Gt.Purl) (v:List UInt8):Gt.Purl:=⟨p.kind,p.space,p.name,v,p.qualifiers,p.sub⟩
def verR (p:Gt.Purl) (v:List UInt8):Gt.Purl×Int×Unit:=bif checkS p != 0 then (none6,checkS p,()) else canonR (withV p v)
theorem s27 (n:Nat) {p:Gt.Purl} (h:p.qualifiers.length≤1000000000) (v:List UInt8):m27 (orcN (n+5)) p v=some (verR p v):=by
 unfold m27 verR
 rw [L25 (n+1) h]
 simp only [ob_some_eq]
 cases (checkS p != 0) with
 | true=>rfl
 | false =>
   simp only [br_false,cond_false]
   refine (congrArg (fun z=>ob (α:=Gt.Purl×Int×Unit) z _) (L21 n (p:=withV p v) h)).trans ?_
   rfl
theorem s28 (n:Nat) {p:Gt.Purl} (h:p.qualifiers.length≤1000000000) (v:List UInt8):m28 (orcN (n+5)) p v=some (verR p v):=by
 unfold m28 verR
 rw [L26 (n+1) h]
 simp only [ob_some_eq]
 cases (checkS p != 0) with
 | true=>rfl
 | false =>
   simp only [br_false,cond_false]
   refine (congrArg (fun z=>ob (α:=Gt.Purl×Int×Unit) z _) (L15 n (p:=withV p v) h)).trans ?_
   rfl
theorem verR_len {p:Gt.Purl} (h:p.qualifiers.length≤1000000000) (v:List UInt8):(verR p v).1.qualifiers.length≤1000000000:=by
 unfold verR
 cases (checkS p != 0) with
 | true=>simp [none6]
 | false=>exact canonR_len (p:=withV p v) h
def chgR (p:Gt.Purl) (nm vl:List UInt8):Gt.Purl×Int×Unit:=bif checkS p != 0 then (none6,checkS p,()) else canonR (withQ p (endR nm vl (p.qualifiers.foldl (stepR nm vl) (vl==[],[]))))
theorem chgR_len (p:Gt.Purl) (nm vl:List UInt8):(chgR p nm vl).1.qualifiers.length≤1000000000:=by
 unfold chgR
 cases (checkS p != 0) with
 | true=>simp [none6]
 | false =>
   simp only [cond_false]
   unfold canonR
   cases h:(checkS (withQ p (endR nm vl (p.qualifiers.foldl (stepR nm vl) (vl==[],[])))) != 0) with
   | true=>simp
   | false =>
     rw [bne,Bool.not_eq_false'] at h
     exact Nat.le_trans (check_tiny (eq_of_beq h)).quals (by omega)
theorem L7 (n:Nat) {p:Gt.Purl} (h:p.qualifiers.length≤1000000000) (v nm vl:List UInt8):m7 (orcN (n+10)) p v nm vl=some (true,()):=by
 have e27: @Eq (Option (Gt.Purl×Int×Unit)) ((orcN (n+10)).d 27 [.st 4 p,.str v] [(.st 4),(.int .i64)]) (some (verR p v)):=(q27 (n+9) p v).trans (s27 (n+4) h v)
 have e28: @Eq (Option (Gt.Purl×Int×Unit)) ((orcN (n+10)).d 28 [.st 4 p,.str v] [(.st 4),(.int .i64)]) (some (verR p v)):=(q28 (n+9) p v).trans (s28 (n+4) h v)
 have e29: @Eq (Option (Gt.Purl×Int×Unit)) ((orcN (n+10)).d 29 [.st 4 p,.str nm,.str vl] [(.st 4),(.int .i64)]) (some (chgR p nm vl)):=(q29 (n+9) p nm vl).trans (s29 (n+4) h nm vl)
 have e30: @Eq (Option (Gt.Purl×Int×Unit)) ((orcN (n+10)).d 30 [.st 4 p,.str nm,.str vl] [(.st 4),(.int .i64)]) (some (chgR p nm vl)):=(q30 (n+9) p nm vl).trans (s30 (n+4) h nm vl)
 unfold m7
 rw [e27,e28,e29,e30,told (n+3)]
 simp only [ob_some_eq]
 rw [L12 (n+8) (verR_len h v),L12 (n+8) (chgR_len p nm vl)]
 simp [ob_some_eq,br_true]
end Pe.Tryd
end
