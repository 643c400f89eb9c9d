/- PROVED HERE: a part of the seat's proofs; see the text that holds the claim's theorem. -/
import Derived.Test.YteimbekcnkogoaaGreatDoorLizC
section
/- The third law in plain: Together of both sides. -/
set_option maxRecDepth 100000
namespace LicSpec
end LicSpec
namespace Pe.Tryz
open Go Go.Proofs Pe LicSpec
end Pe.Tryz
end
section
/- What is printed is read back. -/
set_option maxRecDepth 100000
namespace LicSpec
open Go
def sk (r:Str):Str:=r.drop (skipB r)
def nw (u:Str):Str:=wordR (u.take (runL u))
theorem sk_of {r:Str} (h:skipB r=0):sk r=r:=by unfold sk;rw [h];rfl
def Nx (S:Str) (q:RS) (u:Str):Prop:=q.no=0∧S.drop (rBlanks S q).at_=u
theorem nx_of {S:Str} {q:RS} {r:Str} (h0:q.no=0) (h:S.drop q.at_=r):Nx S q (sk r):=by
 refine ⟨h0,?_⟩
 show S.drop (q.at_+skipB (S.drop q.at_))=_
 rw [h,←List.drop_drop,h];rfl
theorem nx_of' {S:Str} {q:RS} {r:Str} (h0:q.no=0) (h:S.drop q.at_=r) (hs:skipB r=0):Nx S q r:=by
 have:=nx_of h0 h;rwa [sk_of hs] at this
theorem Nx.zero {S:Str} {q:RS} {u:Str} (h:Nx S q u):skipB u=0:=by
 rw [←h.2];exact skipB_drop' _ _
theorem Nx.blanks {S:Str} {q:RS} {u:Str} (h:Nx S q u):Nx S (rBlanks S q) u∧rBlanks S (rBlanks S q)=rBlanks S q∧(rBlanks S q).no=0:=by
 have e:rBlanks S (rBlanks S q)=rBlanks S q:=blanks_of (by rw [h.2];exact h.zero)
 exact ⟨⟨h.1,by rw [e];exact h.2⟩,e,h.1⟩
theorem run_not_blank {c:UInt8} (h:isRun c=true):isBlank c=false∧c≠43∧c≠40∧c≠41:=by
 refine ⟨?_,?_,?_,?_⟩
 ·cases hb:isBlank c with
  | false=>rfl
  | true =>
    unfold isBlank at hb
    simp only [Bool.or_eq_true,beq_iff_eq] at hb
    rcases hb with (rfl | rfl) | rfl<;>exact absurd h (by decide)
 all_goals (rintro rfl;exact absurd h (by decide))
theorem runL_app {x t:Str} (hx:∀c∈x,isRun c=true) (ht:∀c,t.head? =some c→isRun c=false):runL (x++t)=x.length:=by
 induction x with
 | nil =>
   cases t with
   | nil=>simp [runL]
   | cons c r=>simp [runL,ht c rfl]
 | cons c r ih =>
   simp only [List.cons_append,runL,hx c (by simp),if_true,List.length_cons]
   rw [ih fun d hd=>hx d (by simp [hd])]
theorem take_run {x t:Str} (hx:∀c∈x,isRun c=true) (ht:∀c,t.head? =some c→isRun c=false):(x++t).take (runL (x++t))=x:=by
 rw [runL_app hx ht];simp
theorem name_facts {x:Str} (h:isName x=true):(∀c∈x,isRun c=true)∧∃c r,x=c::r:=by
 unfold isName at h
 simp only [Bool.and_eq_true,Bool.not_eq_true',Bool.or_eq_false_iff,List.all_eq_true] at h
 refine ⟨h.2,?_⟩
 cases x with
 | nil=>simp at h
 | cons c r=>exact ⟨c,r,rfl⟩
theorem skip_name {x t:Str} (h:isName x=true):skipB (x++t)=0:=by
 obtain ⟨h1,c,r,rfl⟩:=name_facts h
 simp [skipB,(run_not_blank (h1 c (by simp))).1]
theorem name_rt {S x t:Str} {q:RS} (hx:isName x=true) (ht:∀c,t.head? =some c→isRun c=false) (h:Nx S q (x++t)):∃q',rName S q=(x,q')∧q'.no=0∧S.drop q'.at_=t:=by
 obtain ⟨h1,_⟩:=name_facts hx
 have hr:rRun S (rBlanks S q)=x:=by
  unfold rRun;rw [h.2];exact take_run h1 ht
 refine ⟨{ rBlanks S q with at_:=(rBlanks S q).at_+x.length },?_,h.1,?_⟩
 ·unfold rName;simp only [hr,hx,if_true]
 ·show S.drop ((rBlanks S q).at_+x.length)=t
  rw [←List.drop_drop,h.2];simp
theorem word_rt {S u:Str} {q:RS} (w:Str) (h:Nx S q u):(nw u=w→∃q',rTakeWord S w q=(true,q')∧q'.no=0∧S.drop q'.at_=u.drop (runL u))∧(nw u≠w→∃q',rTakeWord S w q=(false,q')∧Nx S q' u):=by
 have hr:rRun S (rBlanks S q)=u.take (runL u):=by unfold rRun;rw [h.2]
 have hl:(u.take (runL u)).length=runL u:=take_runL_len u
 refine ⟨fun hw=>⟨{ rBlanks S q with at_:=(rBlanks S q).at_+(u.take (runL u)).length },?_,h.1,?_⟩,fun hw=>⟨rBlanks S q,?_,h.blanks.1⟩⟩
 ·unfold rTakeWord;simp only [hr];exact if_pos hw
 ·show S.drop ((rBlanks S q).at_+_)=_
  rw [hl,←List.drop_drop,h.2]
 ·unfold rTakeWord;simp only [hr];exact if_neg hw
theorem byte_rt {S u:Str} {q:RS} (b:UInt8) (h:Nx S q u):(u.head? =some b→∃q',rTakeByte S b q=(true,q')∧q'.no=0∧S.drop q'.at_=u.drop 1)∧(u.head? ≠some b→∃q',rTakeByte S b q=(false,q')∧Nx S q' u):=by
 have hh:S[(rBlanks S q).at_]? =u.head? :=by rw [getElem?_head,h.2]
 refine ⟨fun hb=>⟨{ rBlanks S q with at_:=(rBlanks S q).at_+1 },?_,h.1,?_⟩,fun hb=>⟨rBlanks S q,?_,h.blanks.1⟩⟩
 ·unfold rTakeByte;simp only;rw [hh,if_pos hb]
 ·show S.drop ((rBlanks S q).at_+1)=_
  rw [←List.drop_drop,h.2]
 ·unfold rTakeByte;simp only;rw [hh,if_neg hb]
def F1 (r:Str):Prop:=(∀c,r.head? =some c→isRun c=false∧c≠43)∧nw (sk r)≠sWITH
def F2 (r:Str):Prop:=F1 r∧nw (sk r)≠sAND
def F3 (r:Str):Prop:=F2 r∧nw (sk r)≠sOR
theorem sep_nw {w u:Str} (hw:∀c∈w,isRun c=true) (hne:w≠[]):sk ([32]++w++[32]++u)=w++([32]++u)∧(w++([32]++u)).take (runL (w++([32]++u)))=w∧runL (w++([32]++u))=w.length:=by
 have hr:runL (w++([32]++u))=w.length:=runL_app hw (fun c hc=>by simp at hc;subst hc;decide)
 refine ⟨?_,by rw [hr];simp,hr⟩
 cases w with
 | nil=>exact absurd rfl hne
 | cons c t =>
   have hb:=(run_not_blank (hw c (by simp))).1
   have e:isBlank 32=true:=by decide
   have e2:skipB ([32]++c::t++[32]++u)=1:=by simp only [List.cons_append,List.nil_append,skipB,hb,e];rfl
   unfold sk;rw [e2];simp
theorem tail_rt {S x wth r:Str} {later:Bool} {q:RS} (hw:wth=[]∨isName wth=true) (hr:F1 r) (h0:q.no=0)
  (h:S.drop q.at_=(if later=true then [43] else [])++((if wth≠[] then tWITH++wth else [])++r)):∃q',rTail S x q=(.mk 1 x later wth [],q')∧Nx S q' (sk r):=by
 have rest:∀(s1:RS),s1.no=0→S.drop s1.at_=(if wth≠[] then tWITH++wth else [])++r→∃q',(if s1.no=0 then
  let (t,s2):=rTakeWord S sWITH s1
  if t then
   let (x',s3):=rName S s2
   (Ex.mk 1 x later x' [],s3)
  else (Ex.mk 1 x later [] [],s2)
 else ((Ex.mk 1 x later [] [],s1):Ex×RS))=(.mk 1 x later wth [],q')∧Nx S q' (sk r):=by
  intro s1 hno hd
  rw [if_pos hno]
  by_cases hw0:wth=[]
  ·subst hw0
   simp only [ne_eq,not_true_eq_false,if_false,List.nil_append] at hd
   obtain ⟨q',e,n⟩:=(word_rt sWITH (nx_of hno hd)).2 hr.2
   rw [e];exact ⟨q',rfl,n⟩
  ·have hn:isName wth=true:=hw.resolve_left hw0
   rw [if_pos hw0] at hd
   have hsep:=sep_nw (w:=sWITH) (u:=wth++r) (by decide) (by decide)
   have hd':S.drop s1.at_=[32]++sWITH++[32]++(wth++r):=by rw [hd];simp [tWITH,sWITH]
   have hnx:=nx_of hno hd'
   rw [hsep.1] at hnx
   obtain ⟨q',e,n0,nd⟩:=(word_rt sWITH hnx).1 (by unfold nw;rw [hsep.2.1];decide)
   rw [hsep.2.2] at nd
   have nd':S.drop q'.at_=32::(wth++r):=by rw [nd];simp
   have hnx2:=nx_of n0 nd'
   have e2:sk (32::(wth++r))=wth++r:=by
    have:=skip_name (t:=r) hn
    simp [sk,skipB,isBlank,this]
   rw [e2] at hnx2
   obtain ⟨q2,e3,m0,md⟩:=name_rt hn (fun c hc=>(hr.1 c hc).1) hnx2
   rw [e];simp only [if_true];rw [e3]
   exact ⟨q2,rfl,nx_of m0 md⟩
 unfold rTail
 have hh:S[q.at_]? =(S.drop q.at_).head? :=getElem?_head _ _
 cases hl:later with
 | true =>
   rw [hl] at h rest
   simp only [if_true] at h
   have h43:q.no=0∧S[q.at_]? =some 43:=⟨h0,by rw [hh,h];rfl⟩
   rw [if_pos h43]
   exact rest { q with at_:=q.at_+1 } h0 (by show S.drop (q.at_+1)=_;rw [←List.drop_drop,h];rfl)
 | false =>
   rw [hl] at h rest
   simp only [Bool.false_eq_true,if_false,List.nil_append] at h
   have h43:¬(q.no=0∧S[q.at_]? =some 43):=by
    rintro ⟨_,hx⟩
    rw [hh,h] at hx
    by_cases hw0:wth=[]
    ·rw [if_neg (by simp [hw0])] at hx
     exact (hr.1 43 (by simpa using hx)).2 rfl
    ·rw [if_pos hw0] at hx
     simp [tWITH] at hx
   rw [if_neg h43]
   exact rest q h0 h
def sgl (e:Ex):Str:=if e.kind=1 then txt e else [40]++txt e++[41]
def tor (e:Ex):Str:=if e.kind=3 then [40]++txt e++[41] else txt e
theorem txtL_map (kind:Int) (l:List Ex):txtL kind l=l.map (par kind):=by
 induction l with
 | nil=>simp [txtL]
 | cons k r ih=>rw [txtL_cons,ih];rfl
theorem par_two {k:Ex} (h1:1≤k.kind) (h3:k.kind≤3):par 2 k=sgl k:=by
 unfold par sgl
 by_cases h:k.kind=1
 ·rw [if_neg (by omega),if_pos h]
 ·rw [if_pos (by omega),if_neg h]
theorem par_three (k:Ex):par 3 k=tor k:=by unfold par tor;simp
theorem txt_head:∀(e:Ex),fault e=0→∃c t,txt e=c::t∧isBlank c=false
 | .mk kind name later wth kids,h=>by
   obtain ⟨h1,h2⟩:=fault_zero h
   obtain ⟨_,_,o1,o2⟩:=one_zero h1
   simp only at o1 o2 h2
   by_cases hk:kind=1
   ·obtain ⟨_,n1,_⟩:=o1 hk
    obtain ⟨g1,c,r,rfl⟩:=name_facts n1
    simp only [txt]
    rw [if_pos hk]
    have e:∃t,((if later=true then c::r++[43] else c::r)++(if wth≠[] then tWITH++wth else []):Str)=c::t:=by
     cases later
     ·exact ⟨_,rfl⟩
     ·exact ⟨_,rfl⟩
    obtain ⟨t,e⟩:=e
    exact ⟨c,t,e,(run_not_blank (g1 c (by simp))).1⟩
   ·match kids,o2 hk,h2 with
    | k::r,_,h2 =>
      obtain ⟨c,t,e1,e2⟩:=txt_head k (faultL_mem h2 (by simp))
      simp only [txt]
      rw [if_neg hk,txtL_cons,Lib.join_cons]
      unfold par
      split
      ·exact ⟨40,_,rfl,by decide⟩
      ·rw [e1];exact ⟨c,_,rfl,e2⟩
    | [],h,_=>exact absurd h.2.2.2 (by simp)
theorem sgl_skip {e:Ex} (h:fault e=0) (u:Str):skipB (sgl e++u)=0:=by
 obtain ⟨c,t,e1,e2⟩:=txt_head e h
 unfold sgl
 split
 ·rw [e1];simp [skipB,e2]
 ·simp [skipB,isBlank]
theorem tor_skip {e:Ex} (h:fault e=0) (u:Str):skipB (tor e++u)=0:=by
 obtain ⟨c,t,e1,e2⟩:=txt_head e h
 unfold tor
 split
 ·simp [skipB,isBlank]
 ·rw [e1];simp [skipB,e2]
theorem joinTail_cons (sep x:Str) (r:List Str):Lib.joinTail sep (x::r)=sep++x++Lib.joinTail sep r:=by simp [Lib.joinTail]
theorem loop_rt {S w:Str} {one:RS→Ex×RS} {T:Ex→Str} {F:Str→Prop} (hw:∀c∈w,isRun c=true) (hne:w≠[]) (hword:wordR w=w) (hF:∀u,F ([32]++w++[32]++u)) {r:Str} (hr:F r) (hrw:nw (sk r)≠w) :
  ∀(ks:List Ex),(∀k∈ks,(∀u,skipB (T k++u)=0)∧∀q r,Nx S q (T k++r)→F r→∃q',one q=(k,q')∧Nx S q' (sk r))→∀(f:Nat) (acc:List Ex) (q:RS),ks.length<f →
   Nx S q (sk (Lib.joinTail ([32]++w++[32]) (ks.map T)++r))→∃q',rListLoop S w one f acc q=(acc++ks,q')∧Nx S q' (sk r)
 | [],_,f,acc,q,hf,h=>by
   obtain ⟨f,rfl⟩:∃k,f=k+1:=⟨f - 1,by omega⟩
   have h':Nx S q (sk r):=by simpa [Lib.joinTail] using h
   obtain ⟨q',e,n⟩:=(word_rt w h').2 hrw
   unfold rListLoop
   rw [if_neg (by simp [h'.1]),e]
   exact ⟨q',by simp,n⟩
 | k::ks,hk,f,acc,q,hf,h=>by
   obtain ⟨f,rfl⟩:∃k,f=k+1:=⟨f - 1,by omega⟩
   obtain ⟨hskip,hone⟩:=hk k (by simp)
   rw [List.map_cons,joinTail_cons] at h
   have e0:[32]++w++[32]++T k++Lib.joinTail ([32]++w++[32]) (ks.map T)++r=[32]++w++[32]++(T k++(Lib.joinTail ([32]++w++[32]) (ks.map T)++r)):=by simp
   rw [e0] at h
   have hsep:=sep_nw (u:=T k++(Lib.joinTail ([32]++w++[32]) (ks.map T)++r)) hw hne
   rw [hsep.1] at h
   obtain ⟨q1,e1,n0,nd⟩:=(word_rt w h).1 (by unfold nw;rw [hsep.2.1];exact hword)
   rw [hsep.2.2] at nd
   have nd':S.drop q1.at_=32::(T k++(Lib.joinTail ([32]++w++[32]) (ks.map T)++r)):=by rw [nd];simp
   have hn1:=nx_of n0 nd'
   have e2:sk (32::(T k++(Lib.joinTail ([32]++w++[32]) (ks.map T)++r)))=T k++(Lib.joinTail ([32]++w++[32]) (ks.map T)++r):=by
    simp [sk,skipB,isBlank,hskip]
   rw [e2] at hn1
   have hFr:F (Lib.joinTail ([32]++w++[32]) (ks.map T)++r):=by
    cases ks with
    | nil=>simpa [Lib.joinTail] using hr
    | cons k2 r2 =>
      rw [List.map_cons,joinTail_cons]
      have:=hF (T k2++(Lib.joinTail ([32]++w++[32]) (r2.map T)++r))
      have e:[32]++w++[32]++T k2++Lib.joinTail ([32]++w++[32]) (r2.map T)++r=[32]++w++[32]++(T k2++(Lib.joinTail ([32]++w++[32]) (r2.map T)++r)):=by simp
      rw [e];exact this
   obtain ⟨q2,e3,n2⟩:=hone q1 _ hn1 hFr
   obtain ⟨q3,e4,n3⟩:=loop_rt hw hne hword hF hr hrw ks (fun k' hk'=>hk k' (by simp [hk'])) f (acc++[k]) q2 (by simp at hf;omega) n2
   refine ⟨q3,?_,n3⟩
   unfold rListLoop
   rw [if_neg (by simp [h.1]),e1]
   simp only
   rw [e3]
   simp only
   rw [e4];simp
theorem len_joinTail {sep:Str} (h:1≤sep.length):∀l:List Str,l.length≤(Lib.joinTail sep l).length
 | []=>by simp
 | x::r=>by rw [joinTail_cons];have:=len_joinTail h r;simp only [List.length_append,List.length_cons];omega
theorem list_rt {S w:Str} {kind:Int} {one:RS→Ex×RS} {T:Ex→Str} {F:Str→Prop} (hw:∀c∈w,isRun c=true) (hne:w≠[]) (hword:wordR w=w) (hF:∀u,F ([32]++w++[32]++u)) {r:Str} (hr:F r) (hrw:nw (sk r)≠w)
  {ks:List Ex} (hk:∀k∈ks,(∀u,skipB (T k++u)=0)∧∀q r,Nx S q (T k++r)→F r→∃q',one q=(k,q')∧Nx S q' (sk r)) (h0:ks≠[]) {q:RS}
  (h:Nx S q (Lib.join (ks.map T) ([32]++w++[32])++r)):∃q',rList S kind w one q=((match ks with | [e]=>e | l=> .mk kind [] false [] l),q')∧Nx S q' (sk r):=by
 match ks,h0 with
 | k::ks,_ =>
   obtain ⟨hskip,hone⟩:=hk k (by simp)
   have hlen:ks.length≤S.length:=by
    have h1:=len_joinTail (sep:=[32]++w++[32]) (by simp) (ks.map T)
    have h2:(S.drop (rBlanks S q).at_).length≤S.length:=by simp
    rw [h.2,List.map_cons,Lib.join_cons] at h2
    simp only [List.length_append,List.length_map] at h1 h2
    omega
   rw [List.map_cons,Lib.join_cons,List.append_assoc] at h
   have hFr:F (Lib.joinTail ([32]++w++[32]) (ks.map T)++r):=by
    cases ks with
    | nil=>simpa [Lib.joinTail] using hr
    | cons k2 r2 =>
      rw [List.map_cons,joinTail_cons]
      have:=hF (T k2++(Lib.joinTail ([32]++w++[32]) (r2.map T)++r))
      have e:[32]++w++[32]++T k2++Lib.joinTail ([32]++w++[32]) (r2.map T)++r=[32]++w++[32]++(T k2++(Lib.joinTail ([32]++w++[32]) (r2.map T)++r)):=by simp
      rw [e];exact this
   obtain ⟨q1,e1,n1⟩:=hone q _ h hFr
   obtain ⟨q2,e2,n2⟩:=loop_rt hw hne hword hF hr hrw ks (fun k' hk'=>hk k' (by simp [hk'])) (S.length+1) [k] q1 (by omega) n1
   refine ⟨q2,?_,n2⟩
   unfold rList
   rw [e1];simp only;rw [e2]
   cases ks with
   | nil=>rfl
   | cons a b=>rfl
theorem sep_F (w u:Str) (hw:w=sAND∨w=sOR):(∀c,([32]++w++[32]++u).head? =some c→isRun c=false∧c≠43)∧nw (sk ([32]++w++[32]++u))=w:=by
 refine ⟨fun c hc=> ?_,?_⟩
 ·simp at hc;subst hc;decide
 ·have hsep:=sep_nw (w:=w) (u:=u) (by rcases hw with rfl | rfl<;>decide) (by rcases hw with rfl | rfl<;>decide)
  rw [hsep.1];unfold nw;rw [hsep.2.1]
  rcases hw with rfl | rfl<;>decide
theorem sep1 (w u:Str) (hw:w=sAND∨w=sOR):F1 ([32]++w++[32]++u):=by
 obtain ⟨a,b⟩:=sep_F w u hw
 refine ⟨a,?_⟩
 rw [b];rcases hw with rfl | rfl<;>decide
theorem sep2 (u:Str):F2 ([32]++sOR++[32]++u):=by
 obtain ⟨a,b⟩:=sep_F sOR u (.inr rfl)
 exact ⟨sep1 _ _ (.inr rfl),by rw [b];decide⟩
theorem close3 (r:Str):F3 (41::r)∧sk (41::r)=41::r:=by
 have e:sk (41::r)=41::r:=sk_of (by simp [skipB,isBlank])
 have e2:nw (41::r)=[]:=by
  have h41:isRun 41=false:=by decide
  unfold nw;simp only [runL,h41];simp [wordR_nil]
 refine ⟨⟨⟨⟨fun c hc=> ?_,?_⟩,?_⟩,?_⟩,e⟩
 ·simp at hc;subst hc;decide
 all_goals (rw [e,e2];decide)
theorem end3:F3 []∧sk []=[]:=by
 refine ⟨⟨⟨⟨fun c hc=>by simp at hc,by decide⟩,by decide⟩,by decide⟩,rfl⟩
theorem name_single {S:Str} (d:Nat) {e:Ex} {q:RS} {r:Str} (hf:fault e=0) (hk:e.kind=1) (h:Nx S q (txt e++r)) (hr:F1 r):∃q',rSingle S d q=(e,q')∧Nx S q' (sk r):=by
 obtain ⟨h1,h2⟩:=fault_zero hf
 obtain ⟨_,_,o1,_⟩:=one_zero h1
 obtain ⟨k0,n1,n2⟩:=o1 hk
 obtain ⟨g1,c,t,hc⟩:=name_facts n1
 obtain ⟨hb,hbb,hb0⟩:=h.blanks
 have etxt:txt e++r=e.name++((if e.later=true then [43] else [])++((if e.wth≠[] then tWITH++e.wth else [])++r)):=by
  rw [txt_eq,if_pos hk]
  cases e.later<;>simp
 have hno:(txt e++r).head? ≠some 40:=by
  rw [etxt,hc]
  intro hx
  simp at hx
  exact (run_not_blank (g1 c (by rw [hc];simp))).2.2.1 hx
 obtain ⟨q1,e1,nn⟩:=(byte_rt 40 hb).2 hno
 rw [etxt] at nn
 obtain ⟨q2,e2,m0,md⟩:=name_rt n1 (fun c hc=>by
  cases hl:e.later with
  | true=>rw [hl] at hc;simp at hc;subst hc;decide
  | false =>
    rw [hl] at hc
    simp only [Bool.false_eq_true,if_false,List.nil_append] at hc
    by_cases hw0:e.wth=[]
    ·rw [if_neg (by simp [hw0])] at hc
     exact (hr.1 c (by simpa using hc)).1
    ·rw [if_pos hw0] at hc
     simp [tWITH] at hc;subst hc;decide) nn
 obtain ⟨q3,e3,n3⟩:=tail_rt (x:=e.name) n2 hr m0 md
 have ee:Ex.mk 1 e.name e.later e.wth []=e:=by
  cases e with
  | mk a b c d l=>simp only at hk k0;subst hk;subst k0;rfl
 refine ⟨q3,?_,n3⟩
 have step:rSingle S d q=rTail S (rName S (rTakeByte S 40 (rBlanks S q)).2).1 (rName S (rTakeByte S 40 (rBlanks S q)).2).2:=by
  unfold rSingle;simp only [e1,Bool.false_eq_true,if_false]
 rw [step,e1]
 simp only
 rw [e2]
 simp only
 rw [e3,ee]
theorem paren_single {S:Str} {d:Nat} {e:Ex} {q:RS} {r:Str} (hf:fault e=0)
  (hA:∀(q:RS) (r:Str),Nx S q (txt e++r)→F3 r→∃q',rList S 3 sOR (rList S 2 sAND (rSingle S d)) q=(e,q')∧Nx S q' (sk r))
  (h:Nx S q ([40]++txt e++[41]++r)):∃q',rSingle S (d+1) q=(e,q')∧Nx S q' (sk r):=by
 obtain ⟨hb,hbb,hb0⟩:=h.blanks
 obtain ⟨q1,e1,m0,md⟩:=(byte_rt 40 hb).1 (by simp)
 obtain ⟨c,t,et,hcb⟩:=txt_head e hf
 have md':S.drop q1.at_=txt e++(41::r):=by rw [md];simp
 have hn1:=nx_of' m0 md' (by rw [et];simp [skipB,hcb])
 obtain ⟨q2,e2,n2⟩:=hA q1 (41::r) hn1 (close3 r).1
 rw [(close3 r).2] at n2
 obtain ⟨q3,e3,p0,pd⟩:=(byte_rt 41 n2).1 rfl
 refine ⟨q3,?_,nx_of p0 (by simpa using pd)⟩
 unfold rSingle
 simp only [e1,if_true,e2,n2.1,e3]
theorem lev_list {e k:Ex} (h:k∈e.kids):k.lev<e.lev:=lev_kid h
theorem list_eta {ks:List Ex} (h:2≤ks.length) (kind:Int):(match ks with | [e]=>e | l=>Ex.mk kind [] false [] l)= .mk kind [] false [] ks:=by
 match ks,h with
 | a::b::r,_=>rfl
theorem and_rt {S:Str} {d:Nat} (hB:∀(e:Ex) (q:RS) (r:Str),fault e=0→(e.kind=1∨e.lev≤d)→Nx S q (sgl e++r)→F1 r→∃q',rSingle S d q=(e,q')∧Nx S q' (sk r))
  {k:Ex} {q:RS} {r:Str} (hf:fault k=0) (h3:k.kind=3→k.lev≤d) (hl:k.lev≤d+1) (h:Nx S q (tor k++r)) (hr:F2 r):∃q',rList S 2 sAND (rSingle S d) q=(k,q')∧Nx S q' (sk r):=by
 obtain ⟨g1,g2⟩:=fault_zero hf
 obtain ⟨b1,b2,o1,o2⟩:=one_zero g1
 have hrun:∀c∈sAND,isRun c=true:=by decide
 by_cases h2:k.kind=2
 ·obtain ⟨e1,e2,e3,e4⟩:=o2 (by omega)
  have etor:tor k=Lib.join (k.kids.map sgl) ([32]++sAND++[32]):=by
   unfold tor
   rw [if_neg (by omega),txt_eq,if_neg (by omega),if_neg (by omega),h2,txtL_map]
   rw [List.map_congr_left (g:=sgl) (fun x hx=>by
    have hfx:=faultL_mem g2 hx
    obtain ⟨c1,_⟩:=fault_zero hfx
    obtain ⟨c2,c3,_⟩:=one_zero c1
    exact par_two c2 c3)]
   rfl
  rw [etor] at h
  obtain ⟨q',a,b⟩:=list_rt (kind:=2) (one:=rSingle S d) (T:=sgl) (F:=F1) hrun wAND_ne (by decide) (fun u=>sep1 sAND u (.inl rfl)) hr.1 hr.2 (ks:=k.kids) (fun x hx=>by
   have hfx:=faultL_mem g2 hx
   exact ⟨fun u=>sgl_skip hfx u,fun q r hn hF=>hB x q r hfx (.inr (by have:=lev_list hx;omega)) hn hF⟩) (by intro h0;rw [h0] at e4;simp at e4) h
  refine ⟨q',?_,b⟩
  rw [a,list_eta e4]
  cases k with
  | mk a b c d l=>simp only at e1 e2 e3 h2;subst e1;subst e2;subst e3;subst h2;rfl
 ·have etor:tor k=sgl k:=by
   unfold tor sgl
   by_cases h1:k.kind=1
   ·rw [if_neg (by omega),if_pos h1]
   ·rw [if_pos (by omega),if_neg h1]
  rw [etor] at h
  obtain ⟨q',a,b⟩:=list_rt (kind:=2) (one:=rSingle S d) (T:=sgl) (F:=F1) hrun wAND_ne (by decide) (fun u=>sep1 sAND u (.inl rfl)) hr.1 hr.2 (ks:=[k]) (fun x hx=>by
   rcases List.mem_singleton.1 hx with rfl
   exact ⟨fun u=>sgl_skip hf u,fun q r hn hF=>hB x q r hf (by
    by_cases h1:x.kind=1
    ·exact .inl h1
    ·exact .inr (h3 (by omega))) hn hF⟩) (by simp) (q:=q) (by simpa [Lib.join_one] using h)
  exact ⟨q',a,b⟩
theorem or_rt {S:Str} {d:Nat} (hB:∀(e:Ex) (q:RS) (r:Str),fault e=0→(e.kind=1∨e.lev≤d)→Nx S q (sgl e++r)→F1 r→∃q',rSingle S d q=(e,q')∧Nx S q' (sk r))
  {e:Ex} {q:RS} {r:Str} (hf:fault e=0) (hl:e.lev≤d+1) (h:Nx S q (txt e++r)) (hr:F3 r):∃q',rList S 3 sOR (rList S 2 sAND (rSingle S d)) q=(e,q')∧Nx S q' (sk r):=by
 obtain ⟨g1,g2⟩:=fault_zero hf
 obtain ⟨b1,b2,o1,o2⟩:=one_zero g1
 have hrun:∀c∈sOR,isRun c=true:=by decide
 by_cases h3:e.kind=3
 ·obtain ⟨e1,e2,e3,e4⟩:=o2 (by omega)
  have et:txt e=Lib.join (e.kids.map tor) ([32]++sOR++[32]):=by
   rw [txt_eq,if_neg (by omega),if_pos h3,h3,txtL_map]
   rw [List.map_congr_left (g:=tor) (fun x hx=>par_three x)]
   rfl
  rw [et] at h
  obtain ⟨q',a,b⟩:=list_rt (kind:=3) (one:=rList S 2 sAND (rSingle S d)) (T:=tor) (F:=F2) hrun wOR_ne (by decide) sep2 hr.1 hr.2 (ks:=e.kids) (fun x hx=>by
   have hfx:=faultL_mem g2 hx
   have hlx:=lev_list hx
   exact ⟨fun u=>tor_skip hfx u,fun q r hn hF=>and_rt hB hfx (fun _=>by omega) (by omega) hn hF⟩) (by intro h0;rw [h0] at e4;simp at e4) h
  refine ⟨q',?_,b⟩
  rw [a,list_eta e4]
  cases e with
  | mk a b c d l=>simp only at e1 e2 e3 h3;subst e1;subst e2;subst e3;subst h3;rfl
 ·have et:txt e=tor e:=by unfold tor;rw [if_neg h3]
  rw [et] at h
  obtain ⟨q',a,b⟩:=list_rt (kind:=3) (one:=rList S 2 sAND (rSingle S d)) (T:=tor) (F:=F2) hrun wOR_ne (by decide) sep2 hr.1 hr.2 (ks:=[e]) (fun x hx=>by
   rcases List.mem_singleton.1 hx with rfl
   exact ⟨fun u=>tor_skip hf u,fun q r hn hF=>and_rt hB hf (fun h=>absurd h h3) hl hn hF⟩) (by simp) (q:=q) (by simpa [Lib.join_one] using h)
  exact ⟨q',a,b⟩
theorem single_rt (S:Str):∀(d:Nat),
  (∀(e:Ex) (q:RS) (r:Str),fault e=0→(e.kind=1∨e.lev≤d)→Nx S q (sgl e++r)→F1 r→∃q',rSingle S d q=(e,q')∧Nx S q' (sk r)):=by
 intro d
 induction d with
 | zero =>
   intro e q r hf hk h hr
   have h1:e.kind=1:=hk.resolve_right (by have:=e.lev_pos;omega)
   unfold sgl at h
   rw [if_pos h1] at h
   exact name_single 0 hf h1 h hr
 | succ d ih =>
   intro e q r hf hk h hr
   unfold sgl at h
   by_cases h1:e.kind=1
   ·rw [if_pos h1] at h
    exact name_single (d+1) hf h1 h hr
   ·rw [if_neg h1] at h
    have hl:=hk.resolve_left h1
    exact paren_single hf (fun q r hn hF=>or_rt ih hf hl hn hF) h
end LicSpec
end
section
/- The second law in plain: texts come back. -/
set_option maxRecDepth 100000
namespace LicSpec
end LicSpec
namespace Pe.Tryz
open Go Go.Proofs Pe LicSpec
end Pe.Tryz
end
