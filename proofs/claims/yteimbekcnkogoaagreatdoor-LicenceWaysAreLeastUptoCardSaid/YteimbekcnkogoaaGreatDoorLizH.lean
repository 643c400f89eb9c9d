/- PROVED HERE: a part of the seat's proofs; see the text that holds the claim's theorem. -/
import Derived.Test.YteimbekcnkogoaaGreatDoorLizG
import Derived.Test.YteimbekcnkogoaaGreatDoorLizE
section
/- The laws of ways in plain, first part: the program's ways. -/
set_option maxRecDepth 100000
namespace Pe.Tryz
open Go Go.Proofs Pe LicSpec
theorem beqU (a b:Gt.Use):((a.name==b.name)&&((a.with_==b.with_)&&true))=(a==b):=by rw [Bool.and_true];rfl
theorem beqU_comm (a b:Gt.Use):(a==b)=(b==a):=by rw [Bool.eq_iff_iff,beq_iff_eq,beq_iff_eq];exact eq_comm
def hasU (l:Way) (u:Gt.Use):Bool:=l.any fun y=>y==u
theorem subL_has (a b:Way):subL a b=a.all (hasU b):=rfl
theorem L122 (o:Orc Sx) {l:Way} (hl:l.length≤1000000000) (u:Gt.Use):m122 o l u=some (ixI (l.findIdx? fun y=>u==y),()):=by
 unfold m122
 rw [loop_find l (fun y=>u==y) (fun k=> .inr ((k:Int),())) (.inl ()) ?h1 ?h2]
 case h1 =>
  intro k hk
  simp only [len_lt,hk,decide_true,br_true,at?_get hk,ob_some_eq,beqU,wrap_succ hk (by omega:l.length≤9223372036854775807)]
  cases u==l[k]<;>rfl
 case h2=>simp [len,br_false]
 cases l.findIdx? (fun y=>u==y)<;>rfl
theorem L83 {n:Nat} (hn:1≤n) {l:Way} (hl:l.length≤1000000000) (u:Gt.Use):m83 (orcN n) l u=some (hasU l u,()):=by
 obtain ⟨n,rfl⟩:∃k,n=k+1:=⟨n - 1,by omega⟩
 unfold m83
 rw [q122,L122 (orcN n) hl]
 simp only [ob_some_eq,ix_pos,findIdx_any]
 unfold hasU
 simp only [beqU_comm u]
theorem L73 {n:Nat} (hn:2≤n) {a b:Way} (ha:a.length≤1000000000) (hb:b.length≤1000000000):m73 (orcN n) a b=some (subL a b,()):=by
 obtain ⟨n,rfl⟩:∃k,n=k+1:=⟨n - 1,by omega⟩
 unfold m73
 rw [loop_all a (hasU b) (false,()) ?h1 ?h2]
 case h1 =>
  intro j hj
  simp only [len_lt,hj,decide_true,br_true,at?_get hj,ob_some_eq,q83,L83 (by omega:1≤n) hb,wrap_succ hj (by omega:a.length≤9223372036854775807)]
  cases hasU b a[j]<;>rfl
 case h2=>simp [len,br_false]
 rw [subL_has]
 cases a.all (hasU b)<;>rfl
theorem L206_two (o:Orc Sx) (a b:Int):m206 o [a,b]=some (if a=0 then b else a,()):=by
 unfold m206
 have l0:((0:Int)<len [a,b]):=by simp [len]
 have l1:((1:Int)<len [a,b]):=by simp [len]
 have l2:¬((2:Int)<len [a,b]):=by simp [len]
 have a0:at? [a,b] 0=some a:=rfl
 have a1:at? [a,b] 1=some b:=rfl
 have s0:IntKind.i64.wrap ((0:Int)+1)=1:=by rfl
 have s1:IntKind.i64.wrap ((1:Int)+1)=2:=by rfl
 by_cases h0:a=0
 ·have e0:(a != 0)=false:=by simp [h0]
  rw [if_pos h0]
  rw [loopM_next (y:=(1,())) (by simp only [l0,decide_true,br_true,a0,ob_some_eq,e0,br_false,s0])]
  by_cases h1:b=0
  ·have e1:(b != 0)=false:=by simp [h1]
   rw [loopM_next (y:=(2,())) (by simp only [l1,decide_true,br_true,a1,ob_some_eq,e1,br_false,s1]),loopM_end (r:= .inl ()) (by simp only [l2,decide_false,br_false])]
   rw [cutM_inl,h1]
  ·have e1:(b != 0)=true:=by simpa using h1
   rw [loopM_end (r:= .inr (b,())) (by simp only [l1,decide_true,br_true,a1,ob_some_eq,e1])]
   rfl
 ·have e0:(a != 0)=true:=by simpa using h0
  rw [if_neg h0]
  rw [loopM_end (r:= .inr (a,())) (by simp only [l0,decide_true,br_true,a0,ob_some_eq,e0])]
  rfl
theorem G206 {n:Nat} (hn:1≤n) (a b:Int): @Eq (Option (Int×Unit)) ((orcN n).d 206 [.sl (.int .i64) ([a,b]:List Int)] [.int .i64]) (some (if a=0 then b else a,())):=by
 obtain ⟨n,rfl⟩:∃k,n=k+1:=⟨n - 1,by omega⟩
 exact (q206 n [a,b]).trans (L206_two _ a b)
theorem L184 {n:Nat} (hn:2≤n) (a b:Gt.Use):m184 (orcN n) a b=some (cU a b,()):=by
 obtain ⟨n,rfl⟩:∃k,n=k+2:=⟨n - 2,by omega⟩
 unfold m184
 rw [q93,q93,L93,L93]
 simp only [ob_some_eq]
 exact congrArg (fun z=>ob (α:=Int×Unit) z fun r=>some (r.1,())) (G206 (n:=n+2) (by omega) _ _)
theorem L207 {n:Nat} (hn:1≤n) (x y:Int):m207 (orcN n) x y=some (if x<y then -1 else if y<x then 1 else 0,()):=by
 obtain ⟨n,rfl⟩:∃k,n=k+1:=⟨n - 1,by omega⟩
 unfold m207
 rw [q230,q230]
 unfold m230
 simp only [bne_self_eq_false,ob_some_eq,br_false]
 by_cases h1:x<y
 ·simp [h1,br_true]
 ·by_cases h2:y<x
  ·simp [h1,h2,br_true,br_false]
  ·simp [h1,h2,br_false]
def cmpO:Way→Way→Option Int
 | [],_=>none
 | _::_,[]=>some 1
 | x::a,y::b=>if cU x y≠0 then some (cU x y) else cmpO a b
theorem cmpO_lex:∀{a b:Way},a.length=b.length→(match cmpO a b with | some v=>v | none=>0)=lexC cU a b
 | [],[],_=>rfl
 | x::a,y::b,hl=>by
   simp only [cmpO,lexC]
   by_cases h:cU x y=0
   ·rw [if_neg (by simp [h]),if_pos h];exact cmpO_lex (by simpa using hl)
   ·rw [if_pos h,if_neg h]
def cmpR (o:Option Int):Unit⊕(Int×Unit):=match o with | some v=> .inr (v,()) | none=> .inl ()
theorem cmp_loop {f:Int×Unit→Option ((Int×Unit)⊕(Unit⊕(Int×Unit)))} {a b:Way}
  (h1:∀k (ha:k<a.length) (hb:k<b.length),f ((k:Int),())=if cU a[k] b[k]≠0 then some (.inr (.inr (cU a[k] b[k],()))) else some (.inl (((k+1:Nat):Int),())))
  (h2:∀k,k<a.length→b.length≤k→f ((k:Int),())=some (.inr (.inr (1,())))) (h3:f ((a.length:Int),())=some (.inr (.inl ()))) :
  ∀d k:Nat,a.length=k+d→loopM f ((k:Int),())=some (cmpR (cmpO (a.drop k) (b.drop k)))
 | 0,k,hk=>by
   have:k=a.length:=by omega
   subst this
   rw [loopM_end h3,List.drop_of_length_le (Nat.le_refl _)];rfl
 | d+1,k,hk=>by
   have ha:k<a.length:=by omega
   by_cases hb:k<b.length
   ·have:=h1 k ha hb
    rw [List.drop_eq_getElem_cons ha,List.drop_eq_getElem_cons hb]
    simp only [cmpO]
    by_cases hc:cU a[k] b[k]≠0
    ·rw [if_pos hc] at this ⊢
     rw [loopM_end this];rfl
    ·rw [if_neg hc] at this ⊢
     rw [loopM_next this]
     exact cmp_loop h1 h2 h3 d (k+1) (by omega)
   ·rw [loopM_end (h2 k ha (by omega)),List.drop_eq_getElem_cons ha,List.drop_of_length_le (by omega:b.length≤k)]
    rfl
theorem L180 {n:Nat} (hn:3≤n) {a b:Way} (ha:a.length≤1000000000) (_:b.length≤1000000000):m180 (orcN n) a b=some (cR cU a b,()):=by
 obtain ⟨n,rfl⟩:∃k,n=k+1:=⟨n - 1,by omega⟩
 unfold m180
 rw [q207,L207 (by omega:1≤n)]
 simp only [ob_some_eq]
 generalize hf:(fun (t3:Int×Unit)=>(br (decide (t3.1<(len a))) _ _:Option ((Int×Unit)⊕(Unit⊕(Int×Unit)))))=f
 have hl:=cmp_loop (f:=f) (a:=a) (b:=b) (fun k h1 h2=>by
  subst hf
  have e1:¬(len b≤(k:Int)):=by unfold len;omega
  simp only [len_lt,h1,decide_true,br_true,at?_get h1,at?_get h2,ob_some_eq,e1,decide_false,br_false,q184,L184 (by omega:2≤n),wrap_succ h1 (by omega:a.length≤9223372036854775807)]
  by_cases hc:cU a[k] b[k]=0
  ·simp [hc,br_false]
  ·have:(cU a[k] b[k] != 0)=true:=by simpa using hc
   rw [this,br_true,if_pos hc]) (fun k h1 h2=>by
  subst hf
  have e1:(len b≤(k:Int)):=by unfold len;omega
  simp only [len_lt,h1,decide_true,br_true,at?_get h1,ob_some_eq,e1]) (by subst hf;simp [len,br_false]) a.length 0 (by omega)
 have hl':loopM f ((0:Int),())=some (cmpR (cmpO a b)):=hl
 rw [hl']
 have hx:∃v,(cutM (some (cmpR (cmpO a b))) (fun (_:Unit)=>(br (decide ((len a)<(len b))) (some ((-1),())) (some (0,())))):Option (Int×Unit))=some (v,())∧(a.length=b.length→v=lexC cU a b):=by
  have:= @cmpO_lex a b
  cases hc:cmpO a b with
  | some v=>rw [hc] at this;exact ⟨v,rfl,this⟩
  | none =>
    rw [hc] at this
    refine ⟨if len a<len b then -1 else 0,?_,fun he=> ?_⟩
    ·show br (decide (len a<len b)) _ _=_
     by_cases h:len a<len b<;>simp [h,br_true,br_false]
    ·rw [if_neg (by unfold len;omega)];exact this he
 obtain ⟨v,hv,hv2⟩:=hx
 rw [hv]
 simp only [ob_some_eq]
 refine (congrArg (fun z=>ob (α:=Int×Unit) z fun r=>some (r.1,())) (G206 (n:=n+1) (by omega) _ _)).trans ?_
 simp only [ob_some_eq]
 unfold cR
 have e1:(len a<len b)=(a.length<b.length):=by unfold len;simp
 have e2:(len b<len a)=(b.length<a.length):=by unfold len;simp
 simp only [e1,e2]
 by_cases h1:a.length<b.length
 ·simp [h1]
 ·by_cases h2:b.length<a.length
  ·simp [h1,h2]
  ·simp [h1,h2,hv2 (by omega)]
theorem L46 (o:Orc Sx) {a b:Way} (ha:a.length≤1000000000):m46 o a b=some (a==b,()):=by
 unfold m46
 by_cases h0:a.length=b.length
 ·have e0:(len a != len b)=false:=by unfold len;simp [h0]
  rw [e0,br_false]
  generalize hf:(fun (t1:Int×Unit)=>(br (decide (t1.1<(len a))) _ _:Option ((Int×Unit)⊕(Unit⊕(Bool×Unit)))))=f
  have key:∀d k:Nat,a.length=k+d→loopM f ((k:Int),())=some (if (a.drop k==b.drop k)=true then .inl () else .inr (false,())):=by
   intro d
   induction d with
   | zero =>
     intro k hk
     have h1:¬((k:Int)<len a):=by rw [len_lt];omega
     rw [loopM_end (r:= .inl ()) (by subst hf;simp only [h1,decide_false,br_false]),List.drop_of_length_le (by omega),List.drop_of_length_le (by omega)]
     rfl
   | succ d ih =>
     intro k hk
     have h1:k<a.length:=by omega
     have h2:k<b.length:=by omega
     rw [List.drop_eq_getElem_cons h1,List.drop_eq_getElem_cons h2,List.cons_beq_cons]
     cases hc:a[k]==b[k] with
     | true =>
       rw [loopM_next (y:=(((k+1:Nat):Int),())) (by subst hf;simp only [len_lt,h1,decide_true,br_true,at?_get h1,at?_get h2,ob_some_eq,beqU,hc,Bool.not_true,br_false,wrap_succ h1 (by omega:a.length≤9223372036854775807)]),ih (k+1) (by omega),Bool.true_and]
     | false =>
       rw [loopM_end (r:= .inr (false,())) (by subst hf;simp only [len_lt,h1,decide_true,br_true,at?_get h1,at?_get h2,ob_some_eq,beqU,hc,Bool.not_false])]
       simp
  have:=key a.length 0 (by omega)
  simp only [List.drop_zero] at this
  have this':loopM f ((0:Int),())=_:=this
  rw [this']
  cases a==b<;>rfl
 ·have e0:(len a != len b)=true:=by unfold len;rw [bne_iff_ne];omega
  rw [e0,br_true]
  have:(a==b)=false:=by
   rw [beq_eq_false_iff_ne];intro he;rw [he] at h0;exact h0 rfl
  rw [this]
theorem L182 {n:Nat} (hn:1≤n) {a b:Way} (ha:a.length≤1000000000):m182 (orcN n) a b=some (a==b,()):=by
 obtain ⟨n,rfl⟩:∃k,n=k+1:=⟨n - 1,by omega⟩
 unfold m182
 rw [q46,L46 (orcN n) ha];rfl
theorem q179 (n:Nat) (l:List Way): @Eq (Option (List Way)) ((orcN (n+1)).p 179 (.sl (.st 6)) 43 [.func (.func 180) [] []] l) (sortO (S:=Sx) (orcN n) 180 (.sl (.st 6)) l) :=
 (show _=opt1 (sortO (S:=Sx) (orcN n) 180 (.sl (.st 6)) l) by kernel_rfl).trans (opt1_eq _)
theorem q210 (n:Nat) (l:Way): @Eq (Option Way) ((orcN (n+1)).p 210 (.st 6) 64 [.func (.func 184) [] []] l) (sortO (S:=Sx) (orcN n) 184 (.st 6) l) :=
 (show _=opt1 (sortO (S:=Sx) (orcN n) 184 (.st 6) l) by kernel_rfl).trans (opt1_eq _)
theorem sort_ways {n:Nat} (hn:5≤n) {l:List Way} (h:∀w∈l,w.length≤1000000) (hl:l.length≤lim): @Eq (Option (List Way)) (sortO (S:=Sx) (orcN n) 180 (.sl (.st 6)) l) (some (sortC (cR cU) l)):=by
 obtain ⟨n,rfl⟩:∃k,n=k+2:=⟨n - 2,by omega⟩
 refine sortO_of (S:=Sx) (u:= .sl (.st 6)) (c:=cR cU) (fun x hx y hy=> ?_) (cW_ord.on l) hl rfl
 exact (q180 (n+1) x y).trans (L180 (by omega) (by have:=h x hx;omega) (by have:=h y hy;omega))
theorem sort_uses {n:Nat} (hn:4≤n) {l:Way} (hl:l.length≤lim): @Eq (Option Way) (sortO (S:=Sx) (orcN n) 184 (.st 6) l) (some (sortC cU l)):=by
 obtain ⟨n,rfl⟩:∃k,n=k+2:=⟨n - 2,by omega⟩
 refine sortO_of (S:=Sx) (u:= .st 6) (c:=cU) (fun x _ y _=> ?_) (cU_ord.on l) hl rfl
 exact (q184 (n+1) x y).trans (L184 (by omega) x y)
theorem m231_gen (o:Orc Sx) (n:Int):m231 o n=growM (Gt.Use.mk [] []) n:=rfl
theorem m209_gen (o:Orc Sx) (s:List Way):m209 o s=concatM (fun n=>o.l 231 sg231 ((n,()):Int×Unit)) s:=rfl
theorem m211_gen (o:Orc Sx) (s:Way):m211 o s=compactM (R:=Unit) (Gt.Use.mk [] []) (fun a b=>some ((a.name==b.name)&&((a.with_==b.with_)&&true))) s:=rfl
theorem m181_gen (o:Orc Sx) (s:List Way):m181 o s=compactG [] (fun a b=>o.d 182 [.sl (.st 6) a,.sl (.st 6) b] [.bool]) s:=rfl
theorem L181 {n:Nat} (hn:2≤n) {s:List Way} (h:∀w∈s,w.length≤1000000) (hl:s.length≤4294967296):m181 (orcN n) s=some (.inl (cmp? (fun a b=>a==b) s s.length,())):=by
 obtain ⟨n,rfl⟩:∃k,n=k+1:=⟨n - 1,by omega⟩
 refine (m181_gen _ s).trans ((compactG_eq _ _ s).trans ?_)
 refine compactM_eq (fun x hx y hy=> ?_) hl
 exact congrArg (fun z=>ob (α:=Bool×Unit) z fun r=>some r.1) ((q182 n x y).trans (L182 (by omega) (by have:=h x hx;omega)))
theorem big_last {s:List Way} (hs:StrC (cR cU) s):(s.any fun w=>decide (40<w.length))=(match s.getLast? with | some w=>decide (40<w.length) | none=>false):=by
 cases h:s.getLast? with
 | none =>
   have:s=[]:=List.getLast?_eq_none_iff.1 h
   rw [this];rfl
 | some w =>
   obtain ⟨r,rfl⟩:=List.getLast?_eq_some_iff.1 h
   obtain ⟨_,_,h3⟩:=List.pairwise_append.1 hs
   rw [List.any_append]
   simp only [List.any_cons,List.any_nil,Bool.or_false]
   cases hw:decide (40<w.length) with
   | true=>simp
   | false =>
     rw [Bool.or_false,List.any_eq_false]
     intro v hv
     have h4:=cR_len (h3 v hv w (by simp))
     have:=of_decide_eq_false hw
     simp;omega
def wAns (o:Option (List Way)):List Way×Bool×Unit:=match o with | some W=>(W,true,()) | none=>([],false,())
theorem L151 {n:Nat} (hn:6≤n) {l:List Way} (h:∀w∈l,w.length≤1000000) (hl:l.length≤100000000):m151 (orcN n) l=some (.inl (wAns (bndS l))):=by
 obtain ⟨n,rfl⟩:∃k,n=k+1:=⟨n - 1,by omega⟩
 have hlim:lim=4294967296:=rfl
 unfold m151
 have h1: @Eq (Option (List Way)) ((orcN (n+1)).p 179 (.sl (.st 6)) 43 [.func (.func 180) [] []] l) (some (sortC (cR cU) l)):=by
  rw [q179];exact sort_ways (by omega) h (by omega)
 have hsl:=(sortC_perm (cR cU) l).length_eq
 have h2: @Eq (Option ((List Way×Unit)⊕Unit)) ((orcN (n+1)).l 181 sg181 ((sortC (cR cU) l,()):List Way×Unit)) (some (.inl (setWs l,()))):=by
  rw [q181,L181 (by omega:2≤n) (fun w hw=>h w ((sortC_perm (cR cU) l).mem_iff.1 hw)) (by omega),merged_set cW_ord (fun x y=>by simp)]
  rfl
 refine (congrArg (fun z=>ob (α:=List Way) z _) h1).trans ?_
 rw [ob_some_eq]
 refine (congrArg (fun z=>oc (α:=List Way×Unit) (β:=Unit) z _ _) h2).trans ?_
 rw [oc_inl]
 have hst:StrC (cR cU) (setWs l):=str_setC cW_ord l
 have hsn:(setWs l).length≤100000000:=by
  have:∀(l a:List Way),(l.foldl (fun a x=>putC (cR cU) x a) a).length≤a.length+l.length:=by
   have hp:∀(x:Way) (l:List Way),(putC (cR cU) x l).length≤l.length+1:=by
    intro x l
    induction l with
    | nil=>simp [putC]
    | cons y r ih =>
      unfold putC
      split
      ·simpa using ih
      ·split<;>simp
   intro l
   induction l with
   | nil=>intro a;simp
   | cons x r ih =>
     intro a
     have:=ih (putC (cR cU) x a)
     have:=hp x a
     simp only [List.foldl_cons,List.length_cons];omega
  show (l.foldl (fun a x=>putC (cR cU) x a) []).length≤_
  exact Nat.le_trans (this l []) (by simp;omega)
 have hb:big (setWs l)=(decide (300<len (setWs l))||(match (setWs l).getLast? with | some w=>decide (40<w.length) | none=>false)):=by
  unfold big
  rw [big_last hst]
  congr 1
  exact decide_eq_decide.2 (by unfold len;omega)
 unfold bndS
 generalize setWs l=s at hb hsn
 rw [hb]
 cases h3:decide (300<len s) with
 | true=>simp [br_true,ob_some_eq,wAns]
 | false =>
   simp only [br_false,Bool.false_or]
   cases hs:s.getLast? with
   | none =>
     have:s=[]:=List.getLast?_eq_none_iff.1 hs
     subst this
     simp [len,br_false,ob_some_eq,wAns]
   | some w =>
     have hne:s≠[]:=fun h=>by rw [h] at hs;cases hs
     have hpos:0<s.length:=List.length_pos_iff.2 hne
     have h0:((0:Int)<len s):=by unfold len;omega
     have hw:IntKind.i64.wrap (len s - 1)=((s.length - 1:Nat):Int):=by unfold len;rw [wrap_id (by omega) (by omega)];omega
     have hi:s.length - 1<s.length:=by omega
     have hg:s[s.length - 1]=w:=by
      rw [List.getLast?_eq_getElem?,List.getElem?_eq_getElem hi] at hs
      exact Option.some.inj hs
     have hd:decide (40<len w)=decide (40<w.length):=decide_eq_decide.2 (by unfold len;omega)
     simp only [h0,decide_true,br_true,hw,idx?_ok hi,ob_some_eq,get?_ok hi,hg,hd]
     by_cases h40:40<w.length
     ·have e1:decide (40<w.length)=true:=decide_eq_true h40
      simp only [e1,br_true,if_true];rfl
     ·have e1:decide (40<w.length)=false:=decide_eq_false h40
      simp only [e1,br_false,Bool.false_eq_true,if_false];rfl
noncomputable def mergedUE (orc:Orc Sx) (v w:Way):Option (Way×Unit) :=
 (oc (α:=List (Gt.Use)×Unit) (β:=Unit) (orc.l 209 sg209 (([v,w],()):List (List (Gt.Use))×Unit)) (fun (r6:List (Gt.Use)×Unit)=>(ob (α:=List (Gt.Use)) (orc.p 210 (.st 6) 64 [.func (.func 184) [] []] r6.1) fun (l8:List (Gt.Use))=>(oc (α:=List (Gt.Use)×Unit) (β:=Unit) (orc.l 211 sg211 ((l8,()):List (Gt.Use)×Unit)) (fun (r9:List (Gt.Use)×Unit)=>(some (r9.1,()))) fun (_:Unit)=>none))) fun (_:Unit)=>none)
theorem mergedUE_eq {n:Nat} (hn:5≤n) {v w:Way} (hl:v.length+w.length≤1073741824):mergedUE (orcN n) v w=some (setU (v++w),()):=by
 obtain ⟨n,rfl⟩:∃k,n=k+2:=⟨n - 2,by omega⟩
 unfold mergedUE
 have h1: @Eq (Option ((Way×Unit)⊕Unit)) ((orcN (n+2)).l 209 sg209 (([v,w],()):List Way×Unit)) (some (.inl (v++w,()))):=by
  rw [q209,m209_gen]
  exact concatM_two (fun m hm=>by rw [q231,m231_gen,growM_eq _ hm];rfl) hl
 have h2: @Eq (Option Way) ((orcN (n+2)).p 210 (.st 6) 64 [.func (.func 184) [] []] (v++w)) (some (sortC cU (v++w))):=by
  rw [q210];exact sort_uses (by omega) (by unfold lim;simp;omega)
 have h3: @Eq (Option ((Way×Unit)⊕Unit)) ((orcN (n+2)).l 211 sg211 ((sortC cU (v++w),()):Way×Unit)) (some (.inl (setU (v++w),()))):=by
  rw [q211,m211_gen]
  refine (compactM_eq (t:=fun (a b:Gt.Use)=>(a.name==b.name)&&((a.with_==b.with_)&&true)) (fun _ _ _ _=>rfl) (by rw [(sortC_perm cU _).length_eq];simp;omega)).trans ?_
  exact congrArg (fun z=>some (Sum.inl (z,()))) (merged_set cU_ord (fun x y=>by rw [beqU];simp) (v++w))
 rw [h1,oc_inl]
 refine (congrArg (fun z=>ob (α:=Way) z _) h2).trans ?_
 exact congrArg (fun z=>oc z (fun (r8:Way×Unit)=>some (r8.1,())) (fun (_:Unit)=>none)) h3
theorem prod_len (a b:List Way):(prodS a b).length=a.length*b.length:=by
 unfold prodS
 induction a with
 | nil=>simp
 | cons v r ih=>rw [List.flatMap_cons,List.length_append,ih,List.length_map,List.length_cons,Nat.add_mul];omega
theorem L152 {n:Nat} (hn:5≤n) {a b:List Way} (ha:a.length≤1000) (hb:b.length≤1000) (ha2:∀w∈a,w.length≤1000000) (hb2:∀w∈b,w.length≤1000000):m152 (orcN n) a b=some (.inl (prodS a b,())):=by
 have hlim:lim=4294967296:=rfl
 unfold m152
 rw [show (([]:List Way),(0:Int),())=((fun (k:Nat) (x:List Way)=>(x,(k:Int),())) 0 []) from rfl]
 rw [loop_fold (fun (k:Nat) (x:List Way)=>(x,(k:Int),())) a (fun x v=>x++b.map fun w=>setU (v++w)) (fun x=> .inl (x,())) (fun k x=>x.length≤k*1000) ?h1 ?h2 [] (by simp)]
 case h1 =>
  intro k hk x hx
  have hk2:k*1000≤1000*1000:=Nat.mul_le_mul_right _ (by omega)
  have hva:=ha2 _ (List.getElem_mem hk)
  simp only [len_lt,hk,decide_true,br_true,at?_get hk,ob_some_eq]
  rw [show (x,(0:Int),())=((fun (j:Nat) (y:List Way)=>(y,(j:Int),())) 0 x) from rfl]
  rw [loop_fold (fun (j:Nat) (y:List Way)=>(y,(j:Int),())) b (fun y w=>y++[setU (a[k]++w)]) (fun y=> .inl (y,())) (fun j y=>y.length≤1000000+j) ?g1 ?g2 x (by omega)]
  case g1 =>
   intro j hj y hy
   have hwb:=hb2 _ (List.getElem_mem hj)
   have hm:=mergedUE_eq (n:=n) hn (v:=a[k]) (w:=b[j]) (by omega)
   unfold mergedUE at hm
   simp only [len_lt,hj,decide_true,br_true,at?_get hj,ob_some_eq,hm,wrap_succ hj (by omega:b.length≤9223372036854775807)]
   rw [cat?_ok (by simp;omega)]
   exact ⟨rfl,by simp;omega⟩
  case g2=>intro y _;simp [len,br_false]
  have hfm:∀(l y:List Way),l.foldl (fun y w=>y++[setU (a[k]++w)]) y=y++l.map fun w=>setU (a[k]++w):=by
   intro l
   induction l with
   | nil=>intro y;simp
   | cons w r ih=>intro y;rw [List.foldl_cons,ih,List.map_cons,List.append_assoc];rfl
  rw [hfm]
  simp only [cutM_inl,wrap_succ hk (by omega:a.length≤9223372036854775807)]
  refine ⟨trivial,?_⟩
  rw [List.length_append,List.length_map,Nat.add_mul];omega
 case h2=>intro x _;simp [len,br_false]
 rw [cutM_inl]
 have:∀(l x:List Way),l.foldl (fun x v=>x++b.map fun w=>setU (v++w)) x=x++l.flatMap fun v=>b.map fun w=>setU (v++w):=by
  intro l
  induction l with
  | nil=>intro x;simp
  | cons v r ih=>intro x;rw [List.foldl_cons,ih,List.flatMap_cons,List.append_assoc]
 rw [this]
 rfl
noncomputable def contE (orc:Orc Sx) (L:List Way) (x:Way):Option (Bool×Unit) :=
 (ob (α:=Int×Unit) (cutM (σ:=Unit) (R:=Int×Unit) (loopM (σ:=Int×Unit) (R:=Unit⊕(Int×Unit)) (fun (t5:Int×Unit)=>(br (decide (t5.1<(len L))) (ob (at? L t5.1) fun y6=>(ob (α:=Bool×Unit) (ob (α:=Bool×Unit) (orc.d 73 [.sl (.st 6) y6,.sl (.st 6) x] [.bool]) fun (r8:Bool×Unit)=>(some (r8.1,()))) fun (r9:Bool×Unit)=>(br r9.1 (some (.inr (.inr (t5.1,())))) (some (.inl ((IntKind.i64.wrap (t5.1+1)),())))))) (some (.inr (.inl (())))))) (0,())) fun (_:Unit)=>(some ((-1),()))) fun (r11:Int×Unit)=>(some ((decide (0≤r11.1)),())))
theorem contE_eq {n:Nat} (hn:3≤n) {L:List Way} {x:Way} (hL:L.length≤1000000000) (h1:∀w∈L,w.length≤1000000000) (hx:x.length≤1000000000):contE (orcN n) L x=some (perm L x,()):=by
 obtain ⟨n,rfl⟩:∃k,n=k+1:=⟨n - 1,by omega⟩
 unfold contE
 rw [loop_find L (fun w=>subL w x) (fun k=> .inr ((k:Int),())) (.inl ()) ?h1 ?h2]
 case h1 =>
  intro k hk
  simp only [len_lt,hk,decide_true,br_true,at?_get hk,ob_some_eq,q73,L73 (by omega:2≤n) (h1 _ (List.getElem_mem hk)) hx,wrap_succ hk (by omega:L.length≤9223372036854775807)]
  cases subL L[k] x<;>rfl
 case h2=>simp [len,br_false]
 unfold perm
 rw [←findIdx_any]
 cases L.findIdx? (fun w=>subL w x) with
 | none=>rfl
 | some k =>
   have:((0:Int)≤(k:Int)):=by omega
   simp [cutM_inr,ob_some_eq,this]
theorem L153 {n:Nat} (hn:3≤n) {l:List Way} (hl:StrC (cR cU) l) (hs:∀w∈l,StrC cU w) (hn2:l.length≤1000000) (hw:∀w∈l,w.length≤1000000):m153 (orcN n) l=some (leastC cU l,()):=by
 have hlim:lim=4294967296:=rfl
 unfold m153
 rw [show (([]:List Way),(0:Int),())=((fun (k:Nat) (x:List Way)=>(x,(k:Int),())) 0 []) from rfl]
 rw [loop_fold (fun (k:Nat) (x:List Way)=>(x,(k:Int),())) l (fun out w=>if out.any (fun v=>subL v w)=true then out else out++[w]) (fun x=> .inl (x,())) (fun k x=>x.length≤k∧∀w∈x,w∈l) ?h1 ?h2 [] ⟨Nat.le_refl _,by simp⟩]
 case h1 =>
  intro k hk x hx
  have hm:=contE_eq (n:=n) hn (L:=x) (x:=l[k]) (by have:=hx.1;omega) (fun w hwx=>by have:=hw w (hx.2 w hwx);omega) (by have:=hw _ (List.getElem_mem hk);omega)
  unfold contE at hm
  simp only [len_lt,hk,decide_true,br_true,at?_get hk,ob_some_eq,hm,wrap_succ hk (by omega:l.length≤9223372036854775807)]
  rw [cat?_ok (by have:=hx.1;simp;omega)]
  have hp:perm x l[k]=x.any (fun v=>subL v l[k]):=rfl
  rw [hp]
  cases x.any (fun v=>subL v l[k]) with
  | true=>exact ⟨rfl,by rw [if_pos rfl];exact ⟨by have:=hx.1;omega,hx.2⟩⟩
  | false =>
    refine ⟨rfl,?_⟩
    rw [if_neg (by simp)]
    refine ⟨by have:=hx.1;simp;omega,fun w hwx=> ?_⟩
    rcases List.mem_append.1 hwx with h | h
    ·exact hx.2 w h
    ·rw [List.mem_singleton] at h;subst h;exact List.getElem_mem hk
 case h2=>intro x _;simp [len,br_false]
 rw [cutM_inl,least_fold cU_ord cU_zero hl hs]
end Pe.Tryz
end
section
/- The laws of ways in plain, second part: the program's ways of an expression, Permits, Weaker. -/
set_option maxRecDepth 100000
namespace Pe.Tryz
open Go Go.Proofs Pe LicSpec
theorem canS_len {c:Cat} (hc:SmallC c) (e:Ex):(canS c e).length≤2000000:=by
 unfold canS
 cases (lIx c e.name).isSome with
 | true=>exact Nat.le_trans (List.length_filterMap_le _ _) hc.lics
 | false=>simp
theorem or_len (c:Cat):∀(l:List Ex) (W:List Way),waysOr c l=some W→W.length≤l.length*300∧∀w∈W,w.length≤40
 | [],W,h=>by simp only [waysOr] at h;cases h;simp
 | k::r,W,h=>by
   simp only [waysOr] at h
   obtain ⟨m,h1,h2⟩:=Option.bind_eq_some_iff.1 h
   obtain ⟨l,h3,rfl⟩:=Option.map_eq_some_iff.1 h2
   have g:=waysS_good c k m h1
   obtain ⟨i1,i2⟩:=or_len c r l h3
   refine ⟨?_,fun w hw=>(List.mem_append.1 hw).elim (g.len w) (i2 w)⟩
   have:=g.num
   rw [List.length_append,List.length_cons,Nat.add_mul];omega
theorem and_good (c:Cat):∀(l:List Ex) (a W:List Way),GoodW a→waysAnd c l a=some W→GoodW W
 | [],a,W,ha,h=>by simp only [waysAnd] at h;cases h;exact ha
 | k::r,a,W,ha,h=>by
   simp only [waysAnd] at h
   obtain ⟨m,h1,h2⟩:=Option.bind_eq_some_iff.1 h
   obtain ⟨l',h3,h4⟩:=Option.bind_eq_some_iff.1 h2
   exact and_good c r l' W (bnd_good prod_str h3).1 h4
theorem good_nil:GoodW [[]]:=⟨List.pairwise_singleton _ _,fun w hw=>by rw [List.mem_singleton] at hw;subst hw;exact List.Pairwise.nil,by simp,fun w hw=>by rw [List.mem_singleton] at hw;subst hw;simp⟩
theorem union_len (v w:Way):(setU (v++w)).length≤v.length+w.length:=by
 have:∀(l a:Way),(l.foldl (fun a x=>putC cU x a) a).length≤a.length+l.length:=by
  have hp:∀(x:Gt.Use) (l:Way),(putC cU x l).length≤l.length+1:=by
   intro x l
   induction l with
   | nil=>simp [putC]
   | cons y r ih =>
     unfold putC
     split
     ·simpa using ih
     ·split<;>simp
  intro l
  induction l with
  | nil=>intro a;simp
  | cons x r ih =>
    intro a
    have:=ih (putC cU x a)
    have:=hp x a
    simp only [List.foldl_cons,List.length_cons];omega
 show ((v++w).foldl (fun a x=>putC cU x a) []).length≤_
 exact Nat.le_trans (this (v++w) []) (by simp)
theorem prod_each {a b:List Way} (ha:∀w∈a,w.length≤40) (hb:∀w∈b,w.length≤40):∀w∈prodS a b,w.length≤1000000:=by
 intro w hw
 obtain ⟨v,hv,h1⟩:=List.mem_flatMap.1 hw
 obtain ⟨x,hx,rfl⟩:=List.mem_map.1 h1
 have:=union_len v x
 have:=ha v hv
 have:=hb x hx
 omega
theorem ways_end {n:Nat} (hn:8≤n) {l:List Way} (hs:∀w∈l,StrC cU w) (h:∀w∈l,w.length≤1000000) (hl:l.length≤100000000) :
  (oc (α:=List (List (Gt.Use))×Bool×Unit) (β:=Unit) ((orcN n).l 151 sg151 ((l,()):List (List (Gt.Use))×Unit)) (fun (r17:List (List (Gt.Use))×Bool×Unit)=>(ob (α:=List (List (Gt.Use))×Unit) ((orcN n).d 153 [.sl (.sl (.st 6)) r17.1] [(.sl (.sl (.st 6)))]) fun (r19:List (List (Gt.Use))×Unit)=>(some (r19.1,r17.2.1,())))) fun (_:Unit)=>none)=some (wAns ((bndS l).map (leastC cU))):=by
 obtain ⟨n,rfl⟩:∃k,n=k+1:=⟨n - 1,by omega⟩
 rw [q151,L151 (by omega:6≤n) h hl,oc_inl]
 cases hb:bndS l with
 | none =>
   show ob ((orcN (n+1)).d 153 [.sl (.sl (.st 6)) ([]:List Way)] [(.sl (.sl (.st 6)))]) _=_
   have h3: @Eq (Option (List Way×Unit)) ((orcN (n+1)).d 153 [.sl (.sl (.st 6)) ([]:List Way)] [(.sl (.sl (.st 6)))]) (some (leastC cU [],())):=by
    rw [q153];exact L153 (by omega) List.Pairwise.nil (by simp) (by simp) (by simp)
   refine (congrArg (fun z=>ob (α:=List Way×Unit) z _) h3).trans ?_
   rfl
 | some s =>
   obtain ⟨g,_⟩:=bnd_good hs hb
   have h3: @Eq (Option (List Way×Unit)) ((orcN (n+1)).d 153 [.sl (.sl (.st 6)) s] [(.sl (.sl (.st 6)))]) (some (leastC cU s,())):=by
    rw [q153];exact L153 (by omega) g.str g.each (by have:=g.num;omega) fun w hw=>by have:=g.len w hw;omega
   show ob ((orcN (n+1)).d 153 [.sl (.sl (.st 6)) s] [(.sl (.sl (.st 6)))]) _=_
   refine (congrArg (fun z=>ob (α:=List Way×Unit) z _) h3).trans ?_
   rfl
theorem L112 {c:Cat} (hc:SmallC c):∀(n:Nat) (e:Ex),e.lev+20≤n→fault e=0→e.cnt≤200→m112 (orcN n) c e=some (wAns (waysS c e)):=by
 intro n
 induction n with
 | zero=>intro e h;omega
 | succ n ih =>
   intro e hl hf hcn
   obtain ⟨h1,h2⟩:=fault_zero hf
   have hlim:lim=4294967296:=rfl
   have hkl:e.kids.length<e.cnt:=cnt_len
   unfold m112
   rw [waysS_eq]
   have kid:∀k (hk:k<e.kids.length),m112 (orcN n) c e.kids[k]=some (wAns (waysS c e.kids[k])):=fun k hk=>by
    have hmem:=List.getElem_mem hk
    have:=lev_kid hmem
    have:=cnt_kids hmem
    exact ih _ (by omega) (faultL_mem h2 hmem) (by omega)
   by_cases hk1:e.kind=1
   ·have e1:(e.kind==1)=true:=by simpa using hk1
    rw [e1,if_pos hk1]
    simp only [br_true,Ex.eta,q150,L150 (by omega:3≤n) hc e,ob_some_eq]
    have hcl:=canS_len hc e
    rw [loop_col (canS c e) (fun u=>some [u]) (fun l=> .inl (l,())) ?h1 ?h2]
    case h1 =>
     intro k hk a ha
     simp only [len_lt,hk,decide_true,br_true,at?_get hk,ob_some_eq,wrap_succ hk (by omega:(canS c e).length≤9223372036854775807)]
     rw [cat?_ok (by simp;omega)]
     rfl
    case h2=>intro a;simp [len,br_false]
    rw [cutM_inl,List.filterMap_eq_map']
    refine ways_end (by omega) (fun w hw=> ?_) (fun w hw=> ?_) (by simp;omega)
    ·obtain ⟨u,_,rfl⟩:=List.mem_map.1 hw
     exact List.pairwise_singleton _ _
    ·obtain ⟨u,_,rfl⟩:=List.mem_map.1 hw
     simp
   ·have e1:(e.kind==1)=false:=by simpa using hk1
    rw [e1,if_neg hk1,br_false]
    by_cases hk3:e.kind=3
    ·have e3:(e.kind==3)=true:=by simpa using hk3
     rw [e3,if_pos hk3,br_true]
     rw [show (([]:List Way),(0:Int),())=((fun (k:Nat) (x:List Way)=>(x,(k:Int),())) 0 []) from rfl]
     rw [loop_st (R:=(List Way×Unit)⊕(List Way×Bool×Unit)) (fun (k:Nat) (x:List Way)=>(x,(k:Int),())) e.kids.length (fun k x=>match waysOr c (e.kids.drop k) with | some l=> .inl (x++l,()) | none=> .inr ([],false,())) (fun k x=>x.length≤k*300) ?g1 0 [] (Nat.zero_le _) (by simp)]
     case g1 =>
      intro k x hk' hx
      by_cases hlt:k<e.kids.length
      ·have hd:e.kids.drop k=e.kids[k]::e.kids.drop (k+1):=List.drop_eq_getElem_cons hlt
       have hk3:k*300≤200*300:=Nat.mul_le_mul_right _ (by omega)
       have hkk:=kid k hlt
       cases hw:waysS c e.kids[k] with
       | none =>
         rw [hw] at hkk
         right
         simp only [len_lt,hlt,decide_true,br_true,at?_get hlt,ob_some_eq,Ex.eta,q112,hkk]
         rw [hd]
         simp only [waysOr,hw]
         rfl
       | some m =>
         rw [hw] at hkk
         have g:=waysS_good c _ m hw
         left
         refine ⟨x++m,hlt,?_,?_,?_⟩
         ·simp only [len_lt,hlt,decide_true,br_true,at?_get hlt,ob_some_eq,Ex.eta,q112,hkk,wrap_succ hlt (by omega:e.kids.length≤9223372036854775807)]
          show br (!true) _ (ob (cat? x m) _)=_
          rw [cat?_ok (by have:=g.num;omega)]
          rfl
         ·have:=g.num
          rw [List.length_append,Nat.add_mul];omega
         ·rw [hd]
          simp only [waysOr,hw,Option.bind_some]
          cases waysOr c (e.kids.drop (k+1))<;>simp
      ·right
       have hke:k=e.kids.length:=by omega
       subst hke
       simp [len,br_false,waysOr]
     simp only [List.drop_zero,List.nil_append]
     cases hw:waysOr c e.kids with
     | none=>simp only;rfl
     | some l =>
       simp only [cutM_inl,Option.bind_some]
       obtain ⟨i1,i2⟩:=or_len c _ l hw
       have hk3:e.kids.length*300≤200*300:=Nat.mul_le_mul_right _ (by omega)
       exact ways_end (by omega) (waysOr_good c _ l hw) (fun w hw=>by have:=i2 w hw;omega) (by omega)
    ·have e3:(e.kind==3)=false:=by simpa using hk3
     rw [e3,if_neg hk3,br_false]
     rw [show (([[]]:List Way),(0:Int),())=((fun (k:Nat) (x:List Way)=>(x,(k:Int),())) 0 [[]]) from rfl]
     rw [loop_st (R:=(List Way×Unit)⊕(List Way×Bool×Unit)) (fun (k:Nat) (x:List Way)=>(x,(k:Int),())) e.kids.length (fun k x=>match waysAnd c (e.kids.drop k) x with | some l=> .inl (l,()) | none=> .inr ([],false,())) (fun k x=>GoodW x) ?g1 0 [[]] (Nat.zero_le _) good_nil]
     case g1 =>
      intro k x hk' hx
      by_cases hlt:k<e.kids.length
      ·have hd:e.kids.drop k=e.kids[k]::e.kids.drop (k+1):=List.drop_eq_getElem_cons hlt
       have hkk:=kid k hlt
       cases hw:waysS c e.kids[k] with
       | none =>
         rw [hw] at hkk
         right
         simp only [len_lt,hlt,decide_true,br_true,at?_get hlt,ob_some_eq,Ex.eta,q112,hkk]
         rw [hd]
         simp only [waysAnd,hw]
         rfl
       | some m =>
         rw [hw] at hkk
         have g:=waysS_good c _ m hw
         have h152:=L152 (n:=n) (by omega) (a:=x) (b:=m) (by have:=hx.num;omega) (by have:=g.num;omega) (fun w hw=>by have:=hx.len w hw;omega) (fun w hw=>by have:=g.len w hw;omega)
         have hpl:(prodS x m).length≤100000000:=by
          rw [prod_len]
          have:=Nat.mul_le_mul hx.num g.num
          omega
         have h151:=L151 (n:=n) (by omega) (prod_each hx.len g.len) hpl
         have g152: @Eq (Option ((List Way×Unit)⊕Unit)) ((orcN (n+1)).l 152 sg152 ((x,m,()):List Way×List Way×Unit)) (some (.inl (prodS x m,()))):=by rw [q152];exact h152
         have g151: @Eq (Option ((List Way×Bool×Unit)⊕Unit)) ((orcN (n+1)).l 151 sg151 ((prodS x m,()):List Way×Unit)) (some (.inl (wAns (bndS (prodS x m))))):=by rw [q151];exact h151
         cases hb:bndS (prodS x m) with
         | none =>
           rw [hb] at g151
           right
           simp only [len_lt,hlt,decide_true,br_true,at?_get hlt,ob_some_eq,Ex.eta,q112,hkk]
           rw [hd]
           simp only [waysAnd,hw,Option.bind_some,hb]
           show oc (α:=List Way×Unit) (β:=Unit) ((orcN (n+1)).l 152 sg152 ((x,m,()):List Way×List Way×Unit)) _ _=_
           refine (congrArg (fun z=>oc (α:=List Way×Unit) (β:=Unit) z _ _) g152).trans ?_
           show oc (α:=List Way×Bool×Unit) (β:=Unit) ((orcN (n+1)).l 151 sg151 ((prodS x m,()):List Way×Unit)) _ _=_
           refine (congrArg (fun z=>oc (α:=List Way×Bool×Unit) (β:=Unit) z _ _) g151).trans ?_
           rfl
         | some s =>
           rw [hb] at g151
           left
           refine ⟨s,hlt,?_,(bnd_good prod_str hb).1,?_⟩
           ·simp only [len_lt,hlt,decide_true,br_true,at?_get hlt,ob_some_eq,Ex.eta,q112,hkk,wrap_succ hlt (by omega:e.kids.length≤9223372036854775807)]
            show oc (α:=List Way×Unit) (β:=Unit) ((orcN (n+1)).l 152 sg152 ((x,m,()):List Way×List Way×Unit)) _ _=_
            refine (congrArg (fun z=>oc (α:=List Way×Unit) (β:=Unit) z _ _) g152).trans ?_
            show oc (α:=List Way×Bool×Unit) (β:=Unit) ((orcN (n+1)).l 151 sg151 ((prodS x m,()):List Way×Unit)) _ _=_
            refine (congrArg (fun z=>oc (α:=List Way×Bool×Unit) (β:=Unit) z _ _) g151).trans ?_
            rfl
           ·rw [hd]
            simp only [waysAnd,hw,Option.bind_some,hb]
      ·right
       have hke:k=e.kids.length:=by omega
       subst hke
       simp [len,br_false,waysAnd]
     simp only [List.drop_zero]
     cases hw:waysAnd c e.kids [[]] with
     | none=>simp only;rfl
     | some l =>
       simp only [cutM_inl,Option.bind_some]
       have g:=and_good c _ _ l good_nil hw
       exact ways_end (by omega) g.each (fun w hw=>by have:=g.len w hw;omega) (by have:=g.num;omega)
def wOf (c:Cat) (e:Ex):List Way×Int×Unit :=
 bif catF c != 0 then ([],catF c,()) else bif chk e != 0 then ([],chk e,()) else if unkS c e≠[] then ([],4,()) else match waysS c e with | some W=>(W,0,()) | none=>([],3,())
theorem wOf_good {c:Cat} {e:Ex}:GoodW (wOf c e).1:=by
 have gn:GoodW []:=⟨List.Pairwise.nil,by simp,by simp,by simp⟩
 unfold wOf
 cases catF c != 0 with
 | true=>exact gn
 | false =>
   cases chk e != 0 with
   | true=>exact gn
   | false =>
     simp only [cond_false]
     split
     ·exact gn
     ·cases h:waysS c e with
      | some W=>exact waysS_good c e W h
      | none=>exact gn
theorem L70 {n:Nat} {c:Cat} (hc:SmallC c) {e:Ex} (hs:Small e) (hn:e.lev+60≤n):m70 (orcN n) c e=some (wOf c e):=by
 obtain ⟨n,rfl⟩:∃k,n=k+1:=⟨n - 1,by omega⟩
 unfold m70 wOf
 rw [Ex.eta,q110,L110 hc hs (by omega)]
 simp only [ob_some_eq]
 cases h1:catF c != 0 with
 | true=>simp only [cond_true,h1,br_true]
 | false =>
 simp only [cond_false]
 cases h2:chk e != 0 with
 | true=>rfl
 | false =>
 obtain ⟨c1,c2,c3⟩:=chk_zero (bne_false_eq h2)
 simp only [br_false,cond_false,q111,L111 hc n e (by omega) c3 c1,ob_some_eq,q112,L112 hc n e (by omega) c3 c1]
 by_cases hu:unkS c e=[]
 ·have:¬((0:Int)<len (unkS c e)):=by rw [hu];simp [len]
  rw [decide_eq_false this,br_false,if_neg (by simp [hu])]
  cases waysS c e<;>rfl
 ·have:((0:Int)<len (unkS c e)):=by have:=List.length_pos_iff.2 hu;unfold len;omega
  rw [decide_eq_true this,br_true,if_pos hu]
def permF (c:Cat) (e:Ex) (l:Way):Bool×Int×Unit :=
 bif (wOf c e).2.1 != 0 then (false,(wOf c e).2.1,()) else bif usesF c l != 0 then (false,usesF c l,()) else (perm (wOf c e).1 l,0,())
theorem usesF_len {c:Cat} {l:Way} (h:usesF c l=0):l.length≤40:=by
 unfold usesF at h
 cases hb:decide (40<len l) with
 | true=>rw [hb] at h;cases h
 | false=>have:=of_decide_eq_false hb;unfold len at this;omega
theorem L32 {n:Nat} {c:Cat} (hc:SmallC c) {e:Ex} (hs:Small e) (hn:e.lev+70≤n) (l:Way):m32 (orcN n) c e l=some (permF c e l):=by
 obtain ⟨n,rfl⟩:∃k,n=k+1:=⟨n - 1,by omega⟩
 unfold m32 permF
 rw [Ex.eta,q70,L70 hc hs (by omega)]
 simp only [ob_some_eq]
 have g:=wOf_good (c:=c) (e:=e)
 cases h1:(wOf c e).2.1 != 0 with
 | true=>rfl
 | false =>
 simp only [br_false,cond_false,q75,L75 (by omega:2≤n) hc l,ob_some_eq]
 cases h2:usesF c l != 0 with
 | true=>rfl
 | false =>
 have hl:=usesF_len (bne_false_eq h2)
 have hm:=contE_eq (n:=n+1) (by omega) (L:=(wOf c e).1) (x:=l) (by have:=g.num;omega) (fun w hw=>by have:=g.len w hw;omega) (by omega)
 unfold contE at hm
 simp only [br_false,cond_false,hm,ob_some_eq]
end Pe.Tryz
end
section
/- The laws of ways in plain, third part: the reference's ways. -/
set_option maxRecDepth 100000
namespace Pe.Tryz
open Go Go.Proofs Pe LicSpec
def putW (w:Way) (l:List Way):List Way:=putC (cR cU) w l
theorem put_len1 (w:Way) (l:List Way):(putW w l).length≤l.length+1:=by
 unfold putW
 induction l with
 | nil=>simp [putC]
 | cons y r ih =>
   unfold putC
   split
   ·simpa using ih
   ·split<;>simp
structure Bd (N:Nat) (x:List Way):Prop where
 str:StrC (cR cU) x
 num:x.length≤N
 len:∀w∈x,w.length≤1000000
theorem Bd.nil:Bd 0 []:=⟨List.Pairwise.nil,by simp,by simp⟩
theorem Bd.put {N:Nat} {x:List Way} (h:Bd N x) {w:Way} (hw:w.length≤1000000):Bd (N+1) (putW w x) :=
 ⟨str_putC cW_ord w x h.str,by have:=put_len1 w x;have:=h.num;omega,fun v hv=>by
  rcases (mem_putC cW_ord w x v).1 hv with rfl | hv
  ·exact hw
  ·exact h.len v hv⟩
theorem Bd.mono {N M:Nat} {x:List Way} (h:Bd N x) (hm:N≤M):Bd M x:=⟨h.str,Nat.le_trans h.num hm,h.len⟩
end Pe.Tryz
end
section
/- The laws of ways in plain, fourth part: the reference's ways of an expression; Weaker of both sides; the law of Weaker. -/
set_option maxRecDepth 100000
namespace Pe.Tryz
open Go Go.Proofs Pe LicSpec
theorem unk_leaf {c:Cat} {e:Ex} (h:leafU c e=[]):(∃m,lIx c e.name=some m)∧(e.wth=[]∨(xIx c e.wth).isSome=true):=by
 unfold leafU at h
 obtain ⟨h1,h2⟩:=List.append_eq_nil_iff.1 h
 refine ⟨?_,?_⟩
 ·cases hm:lIx c e.name with
  | some m=>exact ⟨m,rfl⟩
  | none=>rw [hm] at h1;cases h1
 ·cases hw:e.wth==[] with
  | true=>exact .inl (by simpa using hw)
  | false =>
    right
    rw [hw] at h2
    cases hx:(xIx c e.wth).isSome with
    | true=>rfl
    | false=>rw [hx] at h2;cases h2
end Pe.Tryz
end
