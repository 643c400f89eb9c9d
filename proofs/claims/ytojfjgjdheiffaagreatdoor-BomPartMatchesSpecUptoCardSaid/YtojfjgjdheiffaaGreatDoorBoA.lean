/- PROVED HERE: a part of the seat's proofs; see the text that holds the claim's theorem. -/
import Derived.Shelf.Strings.OnBuilder
import Derived.Shelf.Small.Strs
import Derived.Shelf.LaysM
import Derived.Shelf.Strings.Split
import Derived.Test.YtojfjgjdheiffaaGreatDoorProg
import Derived.Shelf.Sort.Plain
import Derived.Shelf.Slices.In.SortNone
import Derived.Test.YtojfjgjdheiffaaGreatDoorPeE
open Go.Proofs.Tryz
section
namespace Kb
abbrev Str:=By
structure Ex where
 kind:Int
 name:Str
 later:Bool
 wth:Str
 kids:List Ex
def Ex.zero:Ex:= .mk 0 [] false [] []
def isRun(c:UInt8):Bool:=(97<=c&&c<=122)||(65<=c&&c<=90)||(48<=c&&c<=57)||c==46||c==45
def isBlank(c:UInt8):Bool:=c==32||c==9||c==10
def zc6:Str:=[65,78,68]
def sOR:Str:=[79,82]
def za4:Str:=[87,73,84,72]
def zse:Str:=[97,110,100]
def sor:Str:=[111,114]
def zny:Str:=[119,105,116,104]
def wordR(l:Str):Str :=
 if l=zc6\/l=zse then zc6 else if l=sOR\/l=sor then sOR else if l=za4\/l=zny then za4 else []
def isWord(l:Str):Bool:=l==zc6||l==sOR||l==za4||l==zse||l==sor||l==zny
def isName(l:Str):Bool :=
 !(l.isEmpty||decide (60<l.length)||l.head? ==some 46||l.head? ==some 45||isWord l)&&l.all isRun
def skipB:Str->Nat
 |[]=>0|c::r=>if isBlank c then skipB r+1 else 0
def runL:Str->Nat
 |[]=>0|c::r=>if isRun c then runL r+1 else 0
def zco(r:Str):Option (Int×Str×Nat) :=
 match r with
 |[]=>some (0,[],0)|c::_ =>
   let n:=runL r
   if n=0 then
    if c=43 then some (3,[],1) else if c=40 then some (4,[],1) else if c=41 then some (5,[],1) else none
   else
    let t:=r.take n
    if isWord t then some (2,wordR t,n) else if isName t then some (1,t,n) else none
structure PS where
 fin:Nat
 kind:Int
 text:Str
 at_:Nat
 tight:Bool
 opn:Nat
inductive Res (α:Type) where
 |ok (a:α) (s:PS)
 |err (at_:Nat) (code:Int)
def zbG(S:Str)(s:PS):Res J :=
 let a:=s.fin+skipB (S.drop s.fin)
 match zco (S.drop a) with
 |none=>.err a 6|some (k,t,n)=>.ok () { s with fin:=if k=0 then s.fin else a+n,kind:=k,text:=t,at_:=a,tight:=decide (a=s.fin)&&decide (0<a) }
def zc9(S:Str)(s:PS):Res Str :=
 if s.kind≠1 then .err s.at_ 6 else
 match zbG S s with
 | .err a c=>.err a c| .ok _ s'=>.ok s.text s'
def pIs(S:Str)(w:Str)(s:PS):Res Bool :=
 if s.kind=2/\s.text=w then
  match zbG S s with
  | .err a c=>.err a c| .ok _ s'=>.ok true s'
 else .ok false s
def zb8(S:Str)(w:Str)(one:PS->Res Ex):Nat->List Ex->PS->Res (List Ex)
 |0,acc,s=>.ok acc s|f+1,acc,s =>
   match pIs S w s with
   | .err a c=>.err a c| .ok false s'=>.ok acc s'| .ok true s' =>
     match one s' with
     | .err a c=>.err a c| .ok e s''=>zb8 S w one f (acc++[e]) s''
def zg2(S:Str)(kind:Int)(w:Str)(one:PS->Res Ex)(s:PS):Res Ex :=
 match one s with
 | .err a c=>.err a c| .ok e s' =>
   if s'.kind=2/\s'.text=w then
    match zb8 S w one (S.length+1) [e] s' with
    | .err a c=>.err a c| .ok l s''=>.ok (.mk kind [] false [] l) s''
   else .ok e s'
def zjI(S:Str)(name:Str)(s:PS):Res Ex :=
 match (if s.kind=3/\s.tight=true then (match zbG S s with | .err a c=>.err a c | .ok _ s'=>.ok true s') else .ok false s:Res Bool) with
 | .err a c=>.err a c| .ok later s1 =>
   match pIs S za4 s1 with
   | .err a c=>.err a c| .ok false s2=>.ok (.mk 1 name later [] []) s2| .ok true s2 =>
     match zc9 S s2 with
     | .err a c=>.err a c| .ok x s3=>.ok (.mk 1 name later x []) s3
def zaZ(S:Str):Nat->PS->Res Ex
 |d,s =>
   if s.kind=4 then
    match d with
    |0=>.err s.at_ 3|d+1 =>
      match zbG S { s with opn:=s.opn+1 } with
      | .err a c=>.err a c| .ok _ s1 =>
        match zg2 S 3 sOR (zg2 S 2 zc6 (zaZ S d)) s1 with
        | .err a c=>.err a c| .ok e s2 =>
          if s2.kind≠5 then .err s2.at_ 6 else
          match zbG S { s2 with opn:=s2.opn - 1 } with
          | .err a c=>.err a c| .ok _ s3=>.ok e s3
   else
    match zc9 S s with
    | .err a c=>.err a c| .ok name s1=>zjI S name s1
def zjK(S:Str)(d:Nat)(s:PS):Res Ex:=zg2 S 3 sOR (zg2 S 2 zc6 (zaZ S d)) s
def ziT:PS:=⟨0,0,[],0,false,0⟩
def zeV(S:Str):Res Ex :=
 match zbG S ziT with
 | .err a c=>.err a c| .ok _ s =>
   match zjK S 30 s with
   | .err a c=>.err a c| .ok e s'=>if s'.kind≠0 then .err s'.at_ 6 else .ok e s'
structure RS where
 at_:Nat
 pos:Nat
 no:Int
def zc7(s:RS)(a:Nat)(c:Int):RS:=if s.no=0 then { s with pos:=a,no:=c } else s
def zag(S:Str)(s:RS):RS:={ s with at_:=s.at_+skipB (S.drop s.at_) }
def zis(S:Str)(s:RS):Str:=(S.drop s.at_).take (runL (S.drop s.at_))
def zap(S:Str)(w:Str)(s:RS):Bool×RS :=
 let s1:=zag S s
 let t:=zis S s1
 if wordR t=w then (true,{ s1 with at_:=s1.at_+t.length }) else (false,s1)
def zar(S:Str)(b:UInt8)(s:RS):Bool×RS :=
 let s1:=zag S s
 if S[s1.at_]?=some b then (true,{ s1 with at_:=s1.at_+1 }) else (false,s1)
def zbs(S:Str)(s:RS):Str×RS :=
 let s1:=zag S s
 let t:=zis S s1
 if isName t then (t,{ s1 with at_:=s1.at_+t.length }) else ([],zc7 s1 s1.at_ 6)
def zau(S:Str)(w:Str)(one:RS->Ex×RS):Nat->List Ex->RS->List Ex×RS
 |0,acc,s=>(acc,s)|f+1,acc,s =>
   if s.no≠0 then (acc,s) else
   match zap S w s with
   |(false,s1)=>(acc,s1)|(true,s1) =>
     match one s1 with
     |(e,s2)=>zau S w one f (acc++[e]) s2
def zbn(S:Str)(kind:Int)(w:Str)(one:RS->Ex×RS)(s:RS):Ex×RS :=
 match one s with
 |(e0,s0) =>
   match zau S w one (S.length+1) [e0] s0 with
   |([e],s1)=>(e,s1)|(l,s1)=>(.mk kind [] false [] l,s1)
def zec(S:Str)(name:Str)(s:RS):Ex×RS :=
 let (later,s1):=if s.no=0/\S[s.at_]?=some 43 then (true,{ s with at_:=s.at_+1 }) else (false,s)
 if s1.no=0 then
  let (t,s2):=zap S za4 s1
  if t then
   let (x,s3):=zbs S s2
   (.mk 1 name later x [],s3)
  else (.mk 1 name later [] [],s2)
 else (.mk 1 name later [] [],s1)
def zaJ(S:Str):Nat->RS->Ex×RS
 |d,s =>
   let s0:=zag S s
   let a:=s0.at_
   let (t,s1):=zar S 40 s0
   if t then
    match d with
    |0=>(.zero,zc7 s1 a 3)|d+1 =>
      let (e,s2):=zbn S 3 sOR (zbn S 2 zc6 (zaJ S d)) s1
      if s2.no=0 then
       let (t,s3):=zar S 41 s2
       if t then (e,s3) else (e,zc7 s3 s3.at_ 6)
      else (e,s2)
   else
    let (name,s2):=zbs S s1
    zec S name s2
def ziP(S:Str):Ex×RS :=
 let (e,s):=zbn S 3 sOR (zbn S 2 zc6 (zaJ S 30)) ⟨0,0,0⟩
 let s1:=zag S s
 if s1.no=0/\s1.at_<S.length then (e,zc7 s1 s1.at_ 6) else (e,s1)
end Kb
end
section
namespace Kb
theorem znB(r:Str):skipB (r.drop (skipB r))=0:=by
 induction r with
 |nil=>rfl|cons c r ih =>
   grind[skipB]
theorem zhv(S:Str)(a:Nat):skipB (S.drop (a+skipB (S.drop a)))=0:=by rw[<-yBh];exact znB _
theorem zjA(r:Str):runL r<=r.length:=by
 induction r with
 |nil=>simp[runL]|cons c r ih=>grind[runL]
theorem zdx(r:Str):(r.take (runL r)).length=runL r:=by grind[zjA]
theorem zhp(l:Str):(isWord l=true/\wordR l≠[])\/(isWord l=false/\wordR l=[]):=by
 grind[wordR,isWord,zc6,sOR,za4]
theorem zho:wordR []=[]:=by decide
theorem zi3:isName []=false:=by decide
theorem zjr(r w:Str)(hw:w≠[]):wordR (r.take (runL r))=w↔zco r=some (2,w,runL r):=by
 cases r with
 |nil=>grind[zco,zho]|cons c r =>
   simp only[zco];by_cases hn:runL (c::r)=0
   ·simp only[hn,yB2,zho,if_true];constructor;·intro h;simp_all
    grind
   ·simp only[hn,if_false];rcases zhp ((c::r).take (runL (c::r))) with ⟨h1,h2⟩|⟨h1,h2⟩;·simp[h1]
    ·simp only[h1,h2];constructor;·intro h;simp_all
     simp_all
theorem zjs(r:Str):isName (r.take (runL r))=true↔zco r=some (1,r.take (runL r),runL r):=by
 cases r with
 |nil=>simp[zco,zi3]|cons c r =>
   simp only[zco];by_cases hn:runL (c::r)=0
   ·simp only[hn,yB2,zi3,if_true];grind
   ·simp only[hn,if_false];grind[isName]
theorem zeu(r:Str)(b:UInt8)(k:Int)(hb:(b=43/\k=3)\/(b=40/\k=4)\/(b=41/\k=5)):r.head? =some b↔zco r=some (k,[],1):=by
 cases r with
 |nil=>grind[zco]
 |cons c r =>
   simp only[zco,List.head?_cons,yAf];by_cases hn:runL (c::r)=0
   ·simp only[hn,if_true];grind
   ·simp only[hn,if_false];grind[isRun,runL]
theorem zrk(r:Str):r=[]↔∃t n,zco r=some (0,t,n):=by
 cases r with
 |nil=>simp[zco]|cons c r =>
   simp only[zco];constructor;·grind
   ·rintro ⟨t,n,h⟩
    by_cases hn:runL (c::r)=0;·simp only[hn,if_true] at h;grind
    ·simp only[hn,if_false] at h;grind
theorem zhq(r:Str){k:Int}{t:Str}{n:Nat}(h:zco r=some (k,t,n)):(k=0/\t=[]/\r=[])\/(k=1/\n=runL r/\t=r.take n/\n≠0)\/(k=2/\n=runL r/\n≠0)\/((k=3\/k=4\/k=5)/\n=1/\t=[]):=by
 cases r with
 |nil=>simp_all[zco]
 |cons c r =>
   simp only[zco] at h;by_cases hn:runL (c::r)=0
   ·simp only[hn,if_true] at h;grind
   ·simp only[hn,if_false] at h;grind
theorem zcv(S:Str)(a:Nat):S[a]?=(S.drop a).head? :=by simp
structure Sim (S:Str) (s:PS) (q:RS):Prop where
 no:q.no=0
 at_:s.at_=q.at_+skipB (S.drop q.at_)
 tok:∃n,zco (S.drop s.at_)=some (s.kind,s.text,n)/\(s.kind≠0->s.fin=s.at_+n)
structure Doom (S:Str) (a:Nat) (q:RS):Prop where
 no:q.no=0
 at_:a=q.at_+skipB (S.drop q.at_)
 tok:zco (S.drop a)=none
theorem Sim.blanks{S s q}(h:Sim S s q):Sim S s (zag S q)/\(zag S q).at_=s.at_ :=
 ⟨⟨h.no,by grind[at_,zag,zhv],h.tok⟩,by rw[h.at_];rfl⟩
theorem Doom.blanks{S a q}(h:Doom S a q):Doom S a (zag S q)/\(zag S q).at_=a :=
 ⟨⟨h.no,by grind[at_,zag,zhv],h.tok⟩,by rw[h.at_];rfl⟩
theorem zeD(S:Str)(s:PS)(q:RS)(hno:q.no=0)(hq:q.at_=s.fin) :
  match zbG S s with
  | .ok _ s'=>Sim S s' q/\s'.opn=s.opn/\s'.tight=(decide (s'.at_=q.at_)&&decide (0<s'.at_))| .err a c=>c=6/\Doom S a q:=by
 unfold zbG;dsimp only;cases h:zco (S.drop (s.fin+skipB (S.drop s.fin))) with
 |none=>exact ⟨rfl,hno,by rw[hq],h⟩|some x =>obtain ⟨k,t,n⟩:=x;dsimp only;refine ⟨⟨hno,by rw[hq],n,h,λhk=>by simp[hk]⟩,rfl,by rw[hq]⟩
theorem zce{S s q}(h:Sim S s q)(w:Str)(hw:w≠[]) :
  zap S w q=(if s.kind=2/\s.text=w then (true,{ q with at_:=s.fin }) else (false,{ q with at_:=s.at_ })):=by
 unfold zap;have hb:zag S q={ q with at_:=s.at_ }:=by rw[h.at_];rfl
 rw[hb];unfold zis;dsimp only;obtain ⟨n,ht,hf⟩:=h.tok;by_cases hk:s.kind=2/\s.text=w;·obtain ⟨hk,hx⟩:=hk;have hl:=zhq _ ht;rw[hk] at hl;simp at hl;rw[hk,hx,hl.1] at ht;rw[if_pos ((zjr _ _ hw).2 ht),if_pos ⟨hk,hx⟩,zdx,<-hl.1,<-hf (by rw[hk];decide)]
 ·rw[if_neg hk,if_neg];intro hc;have:=(zjr _ _ hw).1 hc;rw[ht] at this;simp at this;simp_all
theorem zdy{S a q}(h:Doom S a q)(w:Str)(hw:w≠[]):zap S w q=(false,{ q with at_:=a }):=by
 unfold zap;have hb:zag S q={ q with at_:=a }:=by rw[h.at_];rfl
 rw[hb];unfold zis;dsimp only;rw[if_neg];intro hc;have:=(zjr _ _ hw).1 hc;grind[Doom.tok]
theorem zd3{S s q}(h:Sim S s q)(b:UInt8)(k:Int)(hb:(b=43/\k=3)\/(b=40/\k=4)\/(b=41/\k=5)) :
  zar S b q=(if s.kind=k then (true,{ q with at_:=s.fin }) else (false,{ q with at_:=s.at_ })):=by
 unfold zar;have hbl:zag S q={ q with at_:=s.at_ }:=by rw[h.at_];rfl
 rw[hbl];dsimp only;rw[zcv];obtain ⟨n,ht,hf⟩:=h.tok;have hkz:k≠0:=by grind
 by_cases hk:s.kind=k
 ·have hl:=zhq _ ht;have h1:n=1/\s.text=[]:=by grind
  rw[h1.2,h1.1,hk] at ht;rw[if_pos ((zeu _ b k hb).2 ht),if_pos hk,hf (by grind),h1.1]
 ·rw[if_neg hk,if_neg];intro hc;have:=(zeu _ b k hb).1 hc;simp_all
theorem zcp{S a q}(h:Doom S a q)(b:UInt8)(k:Int)(hb:(b=43/\k=3)\/(b=40/\k=4)\/(b=41/\k=5)):zar S b q=(false,{ q with at_:=a }):=by
 unfold zar;have hbl:zag S q={ q with at_:=a }:=by rw[h.at_];rfl
 rw[hbl];dsimp only;rw[zcv];rw[if_neg];intro hc;have:=(zeu _ b k hb).1 hc;grind[Doom.tok]
theorem zmt{S s q}(h:Sim S s q):Sim S s { q with at_:=s.at_ }:=by
 have:=h.blanks.1;grind[zag,Sim.at_]
theorem zj6{S a q}(h:Doom S a q):Doom S a { q with at_:=a }:=by
 have:=h.blanks.1;grind[zag,Doom.at_]
def zlE(S:Str)(a:Nat)(c:Int)(q:RS):Prop:=(c≠0/\q.no=c/\q.pos=a)\/(c=6/\Doom S a q)
theorem zmG{S s q}(h:Sim S s q) :
  match zc9 S s with
  | .ok x s'=>∃q',zbs S q=(x,q')/\Sim S s' q'/\s'.opn=s.opn/\s'.tight=(decide (s'.at_=q'.at_)&&decide (0<s'.at_))/\0<q'.at_| .err a c=>∃x q',zbs S q=(x,q')/\zlE S a c q':=by
 unfold zc9 zbs;have hbl:zag S q={ q with at_:=s.at_ }:=by rw[h.at_];rfl
 rw[hbl];unfold zis;dsimp only;obtain ⟨n,ht,hf⟩:=h.tok;by_cases hk:s.kind=1
 ·rw[if_neg (by simp[hk])];have hl:=zhq _ ht;rw[hk] at hl;simp at hl;have hx:isName ((S.drop s.at_).take (runL (S.drop s.at_)))=true:=(zjs _).2 (by simp_all);rw[if_pos hx,zdx];have hfin:s.at_+runL (S.drop s.at_)=s.fin:=by simp_all
  have hn:=zeD S s { q with at_:=s.at_+runL (S.drop s.at_) } h.no hfin;cases hp:zbG S s with
  |err a c =>rw[hp] at hn;exact ⟨_,_,rfl,.inr ⟨hn.1,hn.2⟩⟩|ok u s' =>
    rw[hp] at hn;refine ⟨_,?_,hn.1,hn.2.1,hn.2.2,?_⟩;·rw[hl.2.1,hl.1]
    ·have:=hl.2.2;rw[hl.1] at this;grind
 ·rw[if_pos hk];refine ⟨[],zc7 { q with at_:=s.at_ } s.at_ 6,?_,.inl ⟨by decide,?_,?_⟩⟩;·rw[if_neg];intro hc;have:=(zjs _).1 hc;simp_all
  ·simp[zc7,h.no]
  ·simp[zc7,h.no]
theorem zkW{S a q}(h:Doom S a q):∃x q',zbs S q=(x,q')/\zlE S a 6 q':=by
 unfold zbs;have hbl:zag S q={ q with at_:=a }:=by rw[h.at_];rfl
 rw[hbl];unfold zis;dsimp only;rw[if_neg];·refine ⟨_,_,rfl,.inl ⟨by decide,?_,?_⟩⟩<;>simp[zc7,h.no]
 ·intro hc;have:=(zjs _).1 hc;grind[Doom.tok]
def zg0{α:Type}(S:Str)(o:Nat)(p:Res α)(r:α×RS):Prop :=
 match p with
 | .ok e s=>r.1=e/\Sim S s r.2/\s.opn=o| .err a c=>zlE S a c r.2
theorem zd0:zc6≠[]:=by decide
theorem ziB:sOR≠[]:=by decide
theorem zes:za4≠[]:=by decide
theorem zrb{S s q}(h:Sim S s q)(w:Str)(hw:w≠[]):zg0 S s.opn (pIs S w s) (zap S w q):=by
 rw[zce h w hw];unfold pIs;by_cases hk:s.kind=2/\s.text=w
 ·rw[if_pos hk,if_pos hk];have hn:=zeD S s { q with at_:=s.fin } h.no rfl;cases hp:zbG S s with
  |err a c=>rw[hp] at hn;exact .inr hn|ok u s'=>rw[hp] at hn;exact ⟨rfl,hn.1,hn.2.1⟩
 ·rw[if_neg hk,if_neg hk];exact ⟨rfl,zmt h,rfl⟩
theorem zh9{S w one f acc a c q}(hw:w≠[])(h:zlE S a c q):∃l q',zau S w one f acc q=(l,q')/\zlE S a c q':=by
 cases f with
 |zero=>exact ⟨_,_,rfl,h⟩|succ f =>
   unfold zau;rcases h with ⟨hc,hn,hp⟩|⟨hc,hd⟩
   ·rw[if_pos (by grind)];exact ⟨_,_,rfl,.inl ⟨hc,hn,hp⟩⟩
   ·rw[if_neg (by simp[hd.no]),zdy hd w hw];exact ⟨_,_,rfl,.inr ⟨hc,zj6 hd⟩⟩
theorem zlt{S kind w one a c}{q q0:RS}{e:Ex}(hw:w≠[])(h1:one q=(e,q0))(h:zlE S a c q0):∃l q',zbn S kind w one q=(l,q')/\zlE S a c q':=by unfold zbn;rw[h1];obtain ⟨l,q',hl,he⟩:=zh9 (one:=one) (f:=S.length+1) (acc:=[e]) hw h;dsimp only;rw[hl];split<;>exact ⟨_,_,rfl,by simp_all⟩
theorem zqy{S:Str}{w:Str}(hw:w≠[])(o:Nat)(one:PS->Res Ex)(one':RS->Ex×RS)
  (h1:∀s q,Sim S s q->s.opn=o->zg0 S o (one s) (one' q)) (hd1:∀a q,Doom S a q->zlE S a 6 (one' q).2) :
  ∀f acc s q,Sim S s q->s.opn=o->zg0 S o (zb8 S w one f acc s) (zau S w one' f acc q):=by
 intro f;induction f with
 |zero=>intro acc s q h ho;exact ⟨rfl,h,ho⟩
 |succ f ih =>
   intro acc s q h ho;unfold zb8 zau;rw[if_neg (by simp[h.no])];have hi:=zrb h w hw;obtain ⟨t,q1,hq⟩:∃t q1,zap S w q=(t,q1):=⟨_,_,rfl⟩;rw[hq] at hi ⊢;cases hp:pIs S w s with
   |err a c =>
     rw[hp] at hi;dsimp only[zg0] at hi ⊢;cases t with
     |false=>exact hi|true =>
       rcases hi with ⟨hc,hn,hpp⟩|⟨hc,hd⟩
       ·-- the word was taken,and the next token is a zem:'no' is still nothing
        exfalso;rw[zce h w hw] at hq;split at hq;·injection hq with _ hq;subst hq;exact hc (hn.symm.trans h.no)
        grind
       ·subst hc;obtain ⟨e,q2,hq2⟩:∃e q2,one' q1=(e,q2):=⟨_,_,rfl⟩;have h2:=hd1 a q1 hd;rw[hq2] at h2;dsimp only;rw[hq2];obtain ⟨l,q',hl,he⟩:=zh9 (w:=w) (one:=one') (f:=f) (acc:=acc++[e]) hw h2;grind
   |ok b s1 =>
     rw[hp] at hi;dsimp only[zg0] at hi ⊢;obtain ⟨hb,hs,hop⟩:=hi;subst hb;cases t with
     |false=>exact ⟨rfl,hs,hop.trans ho⟩|true =>
       dsimp only;have h2:=h1 s1 q1 hs (hop.trans ho);obtain ⟨e,q2,hq2⟩:∃e q2,one' q1=(e,q2):=⟨_,_,rfl⟩;rw[hq2] at h2 ⊢;cases hp2:one s1 with
       |err a c =>rw[hp2] at h2;dsimp only[zg0] at h2 ⊢;obtain ⟨l,q',hl,he⟩:=zh9 (w:=w) (one:=one') (f:=f) (acc:=acc++[e]) hw h2;grind
       |ok e' s2 =>grind[zg0]
theorem zqz{S:Str}{w:Str}{one':RS->Ex×RS}:∀f acc q,acc.length<=(zau S w one' f acc q).1.length:=by
 intro f;induction f with
 |zero=>intro acc q;exact yAi _
 |succ f ih =>
   intro acc q;unfold zau;split;·exact yAi _
   ·split;·exact yAi _
    ·exact yAo (by simp) (ih _ _)
theorem zew{S:Str}{kind:Int}{w:Str}(hw:w≠[]){one':RS->Ex×RS}(hd1:∀a q,Doom S a q->zlE S a 6 (one' q).2) :
  ∀a q,Doom S a q->zlE S a 6 (zbn S kind w one' q).2:=by
 intro a q hd;obtain ⟨e,q2,hq2⟩:∃e q2,one' q=(e,q2):=⟨_,_,rfl⟩;have h2:=hd1 a q hd;rw[hq2] at h2;obtain ⟨l,q',hl,he⟩:=zlt (kind:=kind) hw hq2 h2;grind
theorem zjB{S:Str}{kind:Int}{w:Str}(hw:w≠[])(o:Nat)(one:PS->Res Ex)(one':RS->Ex×RS)
  (h1:∀s q,Sim S s q->s.opn=o->zg0 S o (one s) (one' q)) (hd1:∀a q,Doom S a q->zlE S a 6 (one' q).2) :
  ∀s q,Sim S s q->s.opn=o->zg0 S o (zg2 S kind w one s) (zbn S kind w one' q):=by
 intro s q h ho;have h2:=h1 s q h ho;obtain ⟨e,q2,hq2⟩:∃e q2,one' q=(e,q2):=⟨_,_,rfl⟩;unfold zg2;cases hp:one s with
 |err a c =>rw[hp,hq2] at h2;obtain ⟨l,q',hl,he⟩:=zlt (kind:=kind) hw hq2 h2;rw[hl];exact he
 |ok e' s' =>
   rw[hp,hq2] at h2;obtain ⟨he,hs,ho'⟩:=h2;dsimp only at he hs ho';subst he;unfold zbn;rw[hq2];dsimp only;have hl:=zqy hw o one one' h1 hd1 (S.length+1) [e] s' q2 hs ho';by_cases hk:s'.kind=2/\s'.text=w
   ·rw[if_pos hk];obtain ⟨l,q',hll⟩:∃l q',zau S w one' (S.length+1) [e] q2=(l,q'):=⟨_,_,rfl⟩;rw[hll] at hl ⊢;cases hpl:zb8 S w one (S.length+1) [e] s' with
    |err a c =>rw[hpl] at hl;dsimp only[zg0] at hl ⊢;split<;>(simp_all)|ok l' s'' =>
      rw[hpl] at hl;dsimp only[zg0] at hl ⊢;obtain ⟨rfl,hs2,ho2⟩:=hl;have Ku:2<=l.length:=by have:zau S w one' (S.length+1) [e] q2=(l,q'):=hll;unfold zau at this;rw[if_neg (by simp[hs.no])] at this;rw[zce hs w hw,if_pos hk] at this;dsimp only at this;generalize ho1:one' { q2 with at_:=s'.fin }=oo at this;obtain ⟨e2,q3⟩:=oo;dsimp only at this;have h3:=zqz (S:=S) (w:=w) (one':=one') S.length ([e]++[e2]) q3;rw[this] at h3;simpa using h3
      match l,Ku with
      |e1::e2::l,_=>exact ⟨rfl,hs2,ho2⟩
   ·rw[if_neg hk];have:zau S w one' (S.length+1) [e] q2=([e],{ q2 with at_:=s'.at_ }):=by
     unfold zau;rw[if_neg (by simp[hs.no]),zce hs w hw,if_neg hk]
    rw[this];exact ⟨rfl,zmt hs,ho'⟩
theorem zkp{S a q}(x:Str)(h:Doom S a q):zlE S a 6 (zec S x q).2:=by
 have hn:¬(q.no=0/\S[q.at_]?=some 43):=by
  rintro ⟨_,hc⟩
  rw[zcv] at hc;by_cases hb:skipB (S.drop q.at_)=0
  ·have ha:a=q.at_:=(by rw[h.at_,hb];rfl);have:=(zeu _ 43 3 (.inl ⟨rfl,rfl⟩)).1 hc;rw[<-ha,h.tok] at this;cases this
  ·cases hs:S.drop q.at_ with
   |nil=>rw[hs] at hc;simp at hc|cons c r =>rw[hs] at hc hb;simp at hc;subst hc;exact hb rfl
 unfold zec;rw[if_neg hn];dsimp only;rw[if_pos h.no,zdy h za4 zes];exact .inr ⟨rfl,zj6 h⟩
theorem zp4{S s q}(h:Sim S s q)(ht:s.tight=(decide (s.at_=q.at_)&&decide (0<s.at_)))(hq:0<q.at_)(x:Str) :
  zg0 S s.opn (zjI S x s) (zec S x q):=by
 have hplus:(s.kind=3/\s.tight=true)↔(q.no=0/\S[q.at_]?=some 43):=by
  rw[zcv];obtain ⟨n,htk,hf⟩:=h.tok;constructor
  ·rintro ⟨hk,hti⟩
   refine ⟨h.no,?_⟩;rw[ht] at hti;simp at hti;have hl:=zhq _ htk;simp[hk] at hl;rw[hk,hl.2,hl.1] at htk;rw[<-hti.1];exact (zeu _ 43 3 (.inl ⟨rfl,rfl⟩)).2 htk
  ·rintro ⟨_,hc⟩
   by_cases hb:skipB (S.drop q.at_)=0
   ·have ha:s.at_=q.at_:=(by rw[h.at_,hb];rfl);have:=(zeu _ 43 3 (.inl ⟨rfl,rfl⟩)).1 hc;rw[<-ha,htk] at this;simp at this;exact ⟨this.1,by rw[ht,ha];simp[hq]⟩
   ·exfalso;cases hs:S.drop q.at_ with
    |nil=>rw[hs] at hc;simp at hc|cons c r =>rw[hs] at hc hb;simp at hc;subst hc;exact hb rfl
 -- the second zzi,from wherever the plus has led
 have rest:∀(s1:PS)(q1:RS)(later:Bool),Sim S s1 q1->s1.opn=s.opn ->
   zg0 S s.opn (match pIs S za4 s1 with
    | .err a c=>.err a c| .ok false s2=>.ok (.mk 1 x later [] []) s2| .ok true s2 =>
      match zc9 S s2 with
      | .err a c=>.err a c| .ok y s3=>.ok (.mk 1 x later y []) s3:Res Ex)
    (if q1.no=0 then
     match zap S za4 q1 with
     |(t,s2)=>if t=true then (match zbs S s2 with|(y,s3)=>(.mk 1 x later y [],s3)) else (.mk 1 x later [] [],s2)
    else (.mk 1 x later [] [],q1)):=by
  intro s1 q1 later h1 ho1;rw[if_pos h1.no];have hi:=zrb h1 za4 zes;obtain ⟨t,q2,hq2⟩:∃t q2,zap S za4 q1=(t,q2):=⟨_,_,rfl⟩;rw[hq2] at hi ⊢;cases hp:pIs S za4 s1 with
  |err a c =>
    rw[hp] at hi;dsimp only[zg0] at hi ⊢;cases t with
    |false=>exact hi|true =>
      rcases hi with ⟨hc,hn,hpp⟩|⟨hc,hd⟩
      ·exfalso;rw[zce h1 za4 zes] at hq2;split at hq2;·injection hq2 with _ hq2;subst hq2;exact hc (hn.symm.trans h1.no)
       ·injection hq2 with hq2 _;cases hq2
      ·subst hc;obtain ⟨y,q3,hq3,he⟩:=zkW hd;simp only[if_true];rw[hq3];exact he
  |ok b s2 =>
    rw[hp] at hi;dsimp only[zg0] at hi ⊢;obtain ⟨hb,hs,hop⟩:=hi;subst hb;cases t with
    |false=>exact ⟨rfl,hs,hop.trans ho1⟩|true =>
      simp only[if_true];have hn:=zmG hs;cases hpn:zc9 S s2 with
      |err a c =>rw[hpn] at hn;obtain ⟨y,q3,hq3,he⟩:=hn;rw[hq3];exact he
      |ok y s3 =>rw[hpn] at hn;obtain ⟨q3,hq3,hs3,ho3,_⟩:=hn;rw[hq3];exact ⟨rfl,hs3,ho3.trans (hop.trans ho1)⟩
 unfold zjI zec;by_cases hk:s.kind=3/\s.tight=true
 ·rw[if_pos hk,if_pos (hplus.1 hk)];have hfin:q.at_+1=s.fin:=by
   obtain ⟨n,htk,hf⟩:=h.tok;have hl:=zhq _ htk;simp[hk.1] at hl;have hti:=hk.2;rw[ht] at hti;simp at hti;rw[hf (by rw[hk.1];decide),hl.1,hti.1]
  have hn:=zeD S s { q with at_:=q.at_+1 } h.no hfin;cases hp:zbG S s with
  |err a c =>rw[hp] at hn;obtain ⟨rfl,hd⟩:=hn;dsimp only[zg0];rw[if_pos h.no,zdy hd za4 zes];exact .inr ⟨rfl,zj6 hd⟩
  |ok u s' =>rw[hp] at hn;exact rest s' _ true hn.1 hn.2.1
 ·rw[if_neg hk,if_neg λhc=>hk (hplus.2 hc)];exact rest s q false h rfl
theorem zbX{S:Str}:∀d a q,Doom S a q->zlE S a 6 (zaJ S d q).2:=by
 intro d a q h;have hb:=h.blanks;have key:zlE S a 6 (zec S (zbs S (zar S 40 (zag S q)).2).1 (zbs S (zar S 40 (zag S q)).2).2).2:=by
  have h1:=zcp hb.1 40 4 (.inr (.inl ⟨rfl,rfl⟩));rw[h1];obtain ⟨x,q',hn,he⟩:=zkW (zj6 hb.1);dsimp only at hn ⊢;rw[hn];rcases he with ⟨hc,hno,hp⟩|⟨_,hd⟩
  ·unfold zec;have hne:¬q'.no=0:=by rw[hno];exact hc
   rw[if_neg λhx=>hne hx.1];dsimp only;rw[if_neg hne];exact .inl ⟨hc,hno,hp⟩
  ·exact zkp x hd
 have h1:=zcp hb.1 40 4 (.inr (.inl ⟨rfl,rfl⟩));rw[h1] at key;cases d<;>(unfold zaJ;dsimp only;rw[h1];simpa using key)
theorem znl{S:Str}{s:PS}{q:RS}(h:Sim S s q) :
  zg0 S s.opn (match zc9 S s with | .err a c=>.err a c | .ok name s1=>zjI S name s1:Res Ex) (zec S (zbs S q).1 (zbs S q).2):=by
 have hn:=zmG h;cases hp:zc9 S s with
 |err a c =>
   rw[hp] at hn;obtain ⟨x,q',hq,he⟩:=hn;rw[hq];dsimp only[zg0];rcases he with ⟨hc,hno,hpp⟩|⟨rfl,hd⟩
   ·unfold zec;have hne:¬q'.no=0:=by rw[hno];exact hc
    rw[if_neg λhx=>hne hx.1];dsimp only;rw[if_neg hne];exact .inl ⟨hc,hno,hpp⟩
   ·exact zkp x hd
 |ok x s1 =>rw[hp] at hn;obtain ⟨q',hq,hs,ho,ht,h0⟩:=hn;rw[hq];dsimp only;have:=zp4 hs ht h0 x;rw[ho] at this;exact this
theorem znC{S:Str}:∀d (s:PS) q,Sim S s q->s.opn+d=30->zg0 S s.opn (zaZ S d s) (zaJ S d q):=by
 intro d;induction d with
 |zero =>
   intro s q h ho;have hb:=h.blanks;have h1:=zd3 hb.1 40 4 (.inr (.inl ⟨rfl,rfl⟩));unfold zaZ zaJ;dsimp only;by_cases hk:s.kind=4;·rw[if_pos hk,h1,if_pos hk];dsimp only;refine .inl ⟨by decide,?_,?_⟩<;>simp[zc7,zag,h.no];rw[h.at_]
   ·rw[if_neg hk,h1,if_neg hk];exact znl (zmt hb.1)
 |succ d ih =>
   intro s q h ho;have hb:=h.blanks;have h1:=zd3 hb.1 40 4 (.inr (.inl ⟨rfl,rfl⟩));unfold zaZ zaJ;dsimp only;by_cases hk:s.kind=4
   ·rw[if_pos hk,h1,if_pos hk];dsimp only;rw[if_pos (rfl:true=true)];have Kt:∀(s:PS) q,Sim S s q->s.opn=s.opn->s.opn+d=30->zg0 S s.opn (zg2 S 3 sOR (zg2 S 2 zc6 (zaZ S d)) s) (zbn S 3 sOR (zbn S 2 zc6 (zaJ S d)) q):=by
     intro s q hs _ hod;refine zjB ziB s.opn _ _ (λs1 q1 hs1 ho1=>?_) (zew zd0 (zbX d)) s q hs rfl;refine zjB zd0 s.opn _ _ (λs2 q2 hs2 ho2=>?_) (zbX d) s1 q1 hs1 ho1;have:=ih s2 q2 hs2 (by omega);rwa[ho2] at this
    have hind:∀a q,Doom S a q->zlE S a 6 (zbn S 3 sOR (zbn S 2 zc6 (zaJ S d)) q).2:=zew ziB (zew zd0 (zbX d));have hn:=zeD S { s with opn:=s.opn+1 } { zag S q with at_:=s.fin } hb.1.no rfl;generalize hq2:zbn S 3 sOR (zbn S 2 zc6 (zaJ S d)) { zag S q with at_:=s.fin }=r2;obtain ⟨e,q2⟩:=r2;cases hp:zbG S { s with opn:=s.opn+1 } with
    |err a c =>
      rw[hp] at hn;obtain ⟨rfl,hd⟩:=hn;have:=hind _ _ hd;rw[hq2] at this;dsimp only[zg0] at this ⊢;rcases this with ⟨hc,hno,hpp⟩|⟨hc,hd⟩;·rw[if_neg (by rw[hno];exact hc)];exact .inl ⟨hc,hno,hpp⟩
      ·rw[if_pos hd.no,zcp hd 41 5 (.inr (.inr ⟨rfl,rfl⟩))];refine .inl ⟨by decide,?_,?_⟩<;>simp[zc7,hd.no]
    |ok u s1 =>
      rw[hp] at hn;obtain ⟨hs1,ho1,_⟩:=hn;dsimp only at ho1;have h2:=Kt s1 _ hs1 rfl (by omega);rw[hq2] at h2;dsimp only;cases hp2:zg2 S 3 sOR (zg2 S 2 zc6 (zaZ S d)) s1 with
      |err a c =>
        rw[hp2] at h2;dsimp only[zg0] at h2 ⊢;rcases h2 with ⟨hc,hno,hpp⟩|⟨hc,hd⟩;·rw[if_neg (by rw[hno];exact hc)];exact .inl ⟨hc,hno,hpp⟩
        ·subst hc;rw[if_pos hd.no,zcp hd 41 5 (.inr (.inr ⟨rfl,rfl⟩))];refine .inl ⟨by decide,?_,?_⟩<;>simp[zc7,hd.no]
      |ok e' s2 =>
        rw[hp2] at h2;dsimp only[zg0] at h2;obtain ⟨rfl,hs2,ho2⟩:=h2;dsimp only;rw[if_pos hs2.no,zd3 hs2 41 5 (.inr (.inr ⟨rfl,rfl⟩))];by_cases hk5:s2.kind=5
        ·rw[if_neg (by simp[hk5]),if_pos hk5];have hn3:=zeD S { s2 with opn:=s2.opn - 1 } { q2 with at_:=s2.fin } hs2.no rfl;cases hp3:zbG S { s2 with opn:=s2.opn - 1 } with
         |err a c=>rw[hp3] at hn3;exact .inr hn3|ok u s3 =>rw[hp3] at hn3;refine ⟨rfl,hn3.1,?_⟩;rw[hn3.2.1];dsimp only;omega
        ·rw[if_pos hk5,if_neg hk5];dsimp only[zg0];refine .inl ⟨by decide,?_,?_⟩<;>simp[zc7,hs2.no]
   ·rw[if_neg hk,h1,if_neg hk];exact znl (zmt hb.1)
theorem zjG(S:Str) :
  match zeV S with
  | .ok e _=>∃q,ziP S=(e,q)/\q.no=0| .err a c=>c≠0/\∃e q,ziP S=(e,q)/\q.no=c/\q.pos=a:=by
 have h0:=zeD S ziT ⟨0,0,0⟩ rfl rfl;have hind:∀a q,Doom S a q->zlE S a 6 (zbn S 3 sOR (zbn S 2 zc6 (zaJ S 30)) q).2:=zew ziB (zew zd0 (zbX 30));unfold zeV ziP;generalize hq:zbn S 3 sOR (zbn S 2 zc6 (zaJ S 30)) ⟨0,0,0⟩=r;obtain ⟨e,q⟩:=r;dsimp only
 -- a zem that the reference is about to find is found at the end
 have fin:∀(a:Nat)(c:Int),zlE S a c q->c≠0/\∃e' q',(if (zag S q).no=0/\(zag S q).at_<S.length then (e,zc7 (zag S q) (zag S q).at_ 6) else (e,zag S q))=(e',q')/\q'.no=c/\q'.pos=a:=by
  intro a c h;rcases h with ⟨hc,hno,hp⟩|⟨rfl,hd⟩
  ·have:(zag S q).no=c:=hno;rw[if_neg λhx=>hc (this.symm.trans hx.1)];exact ⟨hc,_,_,rfl,hno,hp⟩
  ·have hb:=hd.blanks;have Ks:(zag S q).at_<S.length:=by
    rw[hb.2];rcases yAT a S.length with h|h;·exact h
    ·have:=hd.tok;rw[yAG h] at this;cases this
   rw[if_pos ⟨hb.1.no,Ks⟩];refine ⟨by decide,_,_,rfl,?_,?_⟩;·have:=hb.1.no;simp[zc7,this]
   ·have:=hb.1.no;simp[zc7,this];exact hb.2
 cases hp:zbG S ziT with
 |err a c =>rw[hp] at h0;obtain ⟨rfl,hd⟩:=h0;have:=hind _ _ hd;rw[hq] at this;exact fin _ _ this
 |ok u s =>
   rw[hp] at h0;obtain ⟨hs,ho,_⟩:=h0;have ho0:s.opn=0:=ho;have h2:zg0 S s.opn (zjK S 30 s) (zbn S 3 sOR (zbn S 2 zc6 (zaJ S 30)) ⟨0,0,0⟩):=by refine zjB ziB s.opn _ _ (λs1 q1 hs1 ho1=>?_) (zew zd0 (zbX 30)) s _ hs rfl;refine zjB zd0 s.opn _ _ (λs2 q2 hs2 ho2=>?_) (zbX 30) s1 q1 hs1 ho1;have:=znC 30 s2 q2 hs2 (by omega);rwa[ho2] at this
   rw[hq] at h2;dsimp only;cases hp2:zjK S 30 s with
   |err a c =>rw[hp2] at h2;exact fin _ _ h2|ok e' s2 =>
     rw[hp2] at h2;dsimp only[zg0] at h2;obtain ⟨rfl,hs2,_⟩:=h2;dsimp only;have hb:=hs2.blanks;obtain ⟨n,htk,hf⟩:=hs2.tok;by_cases hk:s2.kind=0
     ·rw[if_neg (by simp[hk])];dsimp only;have hnil:S.drop s2.at_=[]:=(zrk _).2 ⟨_,_,by rw[<-hk];exact htk⟩;have K2:S.length<=s2.at_:=by simpa using hnil
      rw[if_neg (by rw[hb.2];omega)];exact ⟨_,rfl,hb.1.no⟩
     ·rw[if_pos hk];dsimp only;have Ks:(zag S q).at_<S.length:=by
       rw[hb.2];rcases yAT s2.at_ S.length with h|h;·exact h
       ·exfalso;rw[yAG h] at htk;simp[zco] at htk;exact hk htk.1.symm
      rw[if_pos ⟨hb.1.no,Ks⟩];refine ⟨by decide,_,_,rfl,?_,?_⟩;·have:=hb.1.no;simp[zc7,this]
      ·have:=hb.1.no;simp[zc7,this];exact hb.2
end Kb
namespace Kb
mutual
def Ex.cnt:Ex->Nat
 | .mk _ _ _ _ kids=>1+zpv kids
def zpv:List Ex->Nat
 |[]=>0|e::r=>e.cnt+zpv r
end
mutual
def Ex.lev:Ex->Nat
 | .mk _ _ _ _ kids=>zkh kids+1
def zkh:List Ex->Nat
 |[]=>0|e::r=>max e.lev (zkh r)
end
mutual
def zeE:Ex->Nat->Nat×Nat
 | .mk _ _ _ _ kids,level=>if 30<level then (1,level) else zeO kids level (1,level)
def zeO:List Ex->Nat->Nat×Nat->Nat×Nat
 |[],_,a=>a|k::r,level,a=>zeO r level (min (a.1+(zeE k (level+1)).1) 201,max a.2 (zeE k (level+1)).2)
end
mutual
def zbM:Ex->Nat->Nat
 | .mk _ _ _ _ kids,most=>zcf kids most 1
def zcf:List Ex->Nat->Nat->Nat
 |[],_,n=>n|k::r,most,n=>if n<=most then zcf r most (n+zbM k (most - n)) else n
end
def one:Ex->Int
 | .mk kind name later wth kids =>
   if kind<1\/3<kind then 7
   else if kind≠1 then (if name≠[]\/later=true\/wth≠[]\/kids.length<2 then 2 else 0)
   else if 0<kids.length then 2
   else if isName name=false\/(wth≠[]/\isName wth=false) then 8 else 0
mutual
def zem:Ex->Int| .mk kind name later wth kids=>if one (.mk kind name later wth kids)≠0 then one (.mk kind name later wth kids) else zds kids
def zds:List Ex->Int|[]=>0|k::r=>if zem k≠0 then zem k else zds r
end
def chk(e:Ex):Int:=if 200<e.cnt\/30<e.lev then 3 else zem e
theorem Ex.cnt_pos(e:Ex):1<=e.cnt:=by cases e;simp only[Ex.cnt];omega
theorem Ex.lev_pos(e:Ex):1<=e.lev:=by cases e;simp only[Ex.lev];omega
mutual
theorem zjR:∀(e:Ex)(level:Nat),1<=level->level<=31 ->
  (1<=(zeE e level).1/\(zeE e level).1<=201/\level<=(zeE e level).2/\(zeE e level).2<=31)/\(30<(zeE e level).2↔30<level - 1+e.lev)/\((zeE e level).2<=30->(zeE e level).1=min e.cnt 201)
 | .mk _ _ _ _ kids,level,h1,h2=>by
   simp only[zeE,Ex.lev,Ex.cnt];by_cases h:30<level;·rw[if_pos h];refine ⟨⟨by simp,by simp,by simp,by simp;omega⟩,⟨λ_=>by omega,λ_=>by simpa using h⟩,λhc=>?_⟩;simp at hc;omega
   ·rw[if_neg h];have:=zk0 kids level (1,level) h1 (by omega) (by simp) (by simp) (by simp) (by simp;omega);obtain ⟨⟨a,b,c,d⟩,l,p⟩:=this;refine ⟨⟨a,b,c,d⟩,?_,?_⟩;·rw[l];simp;omega
    ·intro hc;rw[p hc]
theorem zk0:∀(ks:List Ex)(level:Nat)(a:Nat×Nat),1<=level->level<=30->1<=a.1->a.1<=201->level<=a.2->a.2<=31 ->
  (1<=(zeO ks level a).1/\(zeO ks level a).1<=201/\level<=(zeO ks level a).2/\(zeO ks level a).2<=31)/\(30<(zeO ks level a).2↔30<max a.2 (level+zkh ks))/\((zeO ks level a).2<=30->(zeO ks level a).1=min (a.1+zpv ks) 201)
 |[],level,a,h1,h2,h3,h4,h5,h6=>by simp only[zeO,zkh,zpv];refine ⟨⟨h3,h4,h5,h6⟩,?_,λ_=>by omega⟩;omega
 |k::r,level,a,h1,h2,h3,h4,h5,h6=>by
   simp only[zeO,zkh,zpv];obtain ⟨⟨a1,a2,a3,a4⟩,l,p⟩:=zjR k (level+1) (by omega) (by omega);generalize zeE k (level+1)=m at *
   have hr:=zk0 r level (min (a.1+m.1) 201,max a.2 m.2) h1 h2 (by dsimp only;omega) (by dsimp only;omega) (by dsimp only;omega) (by dsimp only;omega);obtain ⟨b,lr,pr⟩:=hr;refine ⟨b,?_,?_⟩
   ·rw[lr];dsimp only;constructor
    ·intro h;by_cases hm:30<m.2;·have:=l.1 hm;omega
     ·omega
    ·intro h;by_cases hm:30<m.2;·omega
     ·have:¬30<level+1 - 1+k.lev:=λhx=>hm (l.2 hx);omega
   ·intro hc;have K2:¬30<max (max a.2 m.2) (level+zkh r):=by
     intro hx;have:=lr.2 hx;omega
    have hm:m.2<=30:=(by omega);rw[pr hc];dsimp only;rw[p hm];omega
end
mutual
theorem zkM:∀(e:Ex)(most:Nat),(most<zbM e most↔most<e.cnt)/\(e.cnt<=most->zbM e most=e.cnt)/\zbM e most<=e.cnt/\1<=zbM e most| .mk _ _ _ _ kids,most=>by simp only[zbM,Ex.cnt];have:=ziS kids most 1;omega
theorem ziS:∀(ks:List Ex)(most n:Nat),(most<zcf ks most n↔most<n+zpv ks)/\(n+zpv ks<=most->zcf ks most n=n+zpv ks)/\zcf ks most n<=n+zpv ks/\n<=zcf ks most n
 |[],most,n=>by simp only[zcf,zpv];omega
 |k::r,most,n=>by
   simp only[zcf,zpv];split;·have h1:=zkM k (most - n);have h2:=ziS r most (n+zbM k (most - n));have h3:=k.cnt_pos;omega
   ·omega
end
theorem zms(e:Ex):((30<(zeE e 1).2\/200<(zeE e 1).1)↔(200<e.cnt\/30<e.lev))/\(200<zbM e 200↔200<e.cnt):=by
 have h:=zjR e 1 (by omega) (by omega);have hp:=zkM e 200;refine ⟨?_,hp.1⟩;obtain ⟨⟨a1,a2,a3,a4⟩,l,p⟩:=h;by_cases hm:30<(zeE e 1).2
 ·have:=l.1 hm;constructor;·intro _;right;omega
  ·intro _;left;exact hm
 ·have h1:=p (by omega);have h2:¬30<1 - 1+e.lev:=λhx=>hm (l.2 hx);constructor;·intro h;left;omega
  ·intro h;right;omega
end Kb
namespace Kb
mutual
theorem zkN:∀(e:Ex)(most:Nat),zbM e most<=most+1| .mk _ _ _ _ kids,most=>by simp only[zbM];exact zkO kids most 1 (by omega)
theorem zkO:∀(ks:List Ex)(most n:Nat),n<=most+1->zcf ks most n<=most+1
 |[],most,n,h=>by simpa only[zcf] using h
 |k::r,most,n,h=>by
   simp only[zcf];split;·have:=zkN k (most - n);exact zkO r most _ (by omega)
   ·exact h
end
theorem zlV(ks:List Ex){most n:Nat}(h:most<n):zcf ks most n=n:=by
 cases ks with
 |nil=>rfl|cons k r=>simp only[zcf];rw[if_neg (by omega)]
end Kb
end
section
namespace Gt
structure Qm where
 e0:Int
 e1:Int
 e2:Int
structure Qh where
 e0:By
 e1:By
 e2:By
structure Kl where
 kind:By
 Kz:Int
 small:Bool
 dashes:Bool
 versions:Int
structure Km where
 e0:Kl
 e1:Kl
 e2:Kl
 e3:Kl
 e4:Kl
structure Qd where
 algo:By
 text:By
structure Pair where
 name:By
 value:By
structure K3 where
 kind:By
 Kz:By
 name:By
 Ko:By
 Kf:(List Pair)
 sub:By
structure Kd where
 ref:By
 purl:K3
 K7:(List Qd)
 K1:By
 files:(List By)
structure K6 where
 from_:By
 to:By
 scope:Int
structure Kn where
 name:By
 Ko:By
 root:By
 Ka:(List Kd)
 Kh:(List K6)
structure BillChange where
 kind:Int
 ref:By
 text:By
 component:(List Kd)
 edge:(List K6)
structure Bom_beginning where
 last:Int
 before:Int
structure Gf where
 b:Kn
 root:Int
 out:(List (List Int))
 Kr:(List (List Int))
structure Bom_finder where
 g:Gf
 at_:(List Int)
 low:(List Int)
 on:(List Bool)
 stack:(List Int)
 count:Int
 Ka:(List (List Int))
structure Licence_fault where
 at_:Int
 code:Int
structure Tk where
 kind:Int
 text:By
 at_:Int
 tight:Bool
structure Rd where
 s:By
 end_ : Int
 now:Tk
 open_:Int
structure R3 where
 s:By
 at_:Int
 pos:Int
 no:Int
structure Wb where
 refs:(List By)
 to:(List (List Int))
 from_:(List (List Int))
 root:Int
end Gt
end
section
namespace Go.Proofs
open Go.Shelf
def Tryz.lays158_ren:Go.Shelf.Ren:=⟨fun|158=>305|165=>270|166=>222|167=>221|169=>223|230=>322|203=>323|240=>271|241=>298|197=>318|118=>329|168=>330|270=>331|262=>332|276=>299|277=>320|260=>328|242=>334|313=>335|278=>336|274=>337|275=>338|n=>n,fun|9=>9|4=>4|3=>3|5=>5|72=>243|0=>0|76=>248|75=>246|107=>320|70=>240|20=>20|37=>241|127=>285|21=>21|105=>314|164=>307|162=>332|203=>330|119=>325|46=>176|139=>328|138=>327|51=>219|160=>333|208=>339|206=>337|80=>250|n=>n,fun|13=>3|3=>1|4=>2|n=>n⟩
theorem Tryz.lays158:Go.Proofs.Lays.n158 prog Tryz.lays158_ren:={
 mixed:=by kernel_rfl
 f118:=func329.trans (congrArg some (by kernel_rfl))
 f158:=func305.trans (congrArg some (by kernel_rfl))
 f165:=func270.trans (congrArg some (by kernel_rfl))
 f166:=func222.trans (congrArg some (by kernel_rfl))
 f167:=func221.trans (congrArg some (by kernel_rfl))
 f168:=func330.trans (congrArg some (by kernel_rfl))
 f169:=func223.trans (congrArg some (by kernel_rfl))
 f197:=func318.trans (congrArg some (by kernel_rfl))
 f203:=func323.trans (congrArg some (by kernel_rfl))
 f230:=func322.trans (congrArg some (by kernel_rfl))
 f240:=func271.trans (congrArg some (by kernel_rfl))
 f241:=func298.trans (congrArg some (by kernel_rfl))
 f242:=func334.trans (congrArg some (by kernel_rfl))
 f260:=func328.trans (congrArg some (by kernel_rfl))
 f262:=func332.trans (congrArg some (by kernel_rfl))
 f270:=func331.trans (congrArg some (by kernel_rfl))
 f274:=func337.trans (congrArg some (by kernel_rfl))
 f275:=func338.trans (congrArg some (by kernel_rfl))
 f276:=func299.trans (congrArg some (by kernel_rfl))
 f277:=func320.trans (congrArg some (by kernel_rfl))
 f278:=func336.trans (congrArg some (by kernel_rfl))
 f313:=func335.trans (congrArg some (by kernel_rfl))
 t0:=underlying0
 a0:=isAgg0
 z0:=sizeOf0
 v0:=zeroValue0
 t3:=underlying3
 a3:=isAgg3
 z3:=sizeOf3
 v3:=zeroValue3
 t4:=underlying4
 a4:=isAgg4
 z4:=sizeOf4
 v4:=zeroValue4
 t5:=underlying5
 a5:=isAgg5
 z5:=sizeOf5
 v5:=zeroValue5
 t9:=underlying9
 a9:=isAgg9
 z9:=sizeOf9
 v9:=zeroValue9
 t20:=underlying20
 a20:=isAgg20
 z20:=sizeOf20
 v20:=zeroValue20
 t21:=underlying21
 a21:=isAgg21
 z21:=sizeOf21
 v21:=zeroValue21
 t37:=underlying241
 a37:=isAgg241
 z37:=sizeOf241
 v37:=zeroValue241
 t46:=underlying176
 a46:=isAgg176
 z46:=sizeOf176
 v46:=zeroValue176
 t51:=underlying219
 a51:=isAgg219
 z51:=sizeOf219
 v51:=zeroValue219
 t70:=underlying240
 a70:=isAgg240
 z70:=sizeOf240
 v70:=zeroValue240
 t72:=underlying243
 a72:=isAgg243
 z72:=sizeOf243
 v72:=zeroValue243
 t75:=underlying246
 a75:=isAgg246
 z75:=sizeOf246
 v75:=zeroValue246
 t76:=underlying248
 a76:=isAgg248
 z76:=sizeOf248
 v76:=zeroValue248
 t105:=underlying314
 a105:=isAgg314
 z105:=sizeOf314
 v105:=zeroValue314
 t107:=underlying320
 a107:=isAgg320
 z107:=sizeOf320
 v107:=zeroValue320
 t119:=underlying325
 a119:=isAgg325
 z119:=sizeOf325
 t127:=underlying285
 a127:=isAgg285
 z127:=sizeOf285
 v127:=zeroValue285
 t138:=underlying327
 a138:=isAgg327
 z138:=sizeOf327
 v138:=zeroValue327
 t139:=underlying328
 a139:=isAgg328
 z139:=sizeOf328
 v139:=zeroValue328
 t160:=underlying333
 a160:=isAgg333
 z160:=sizeOf333
 v160:=zeroValue333
 t162:=underlying332
 a162:=isAgg332
 z162:=sizeOf332
 v162:=zeroValue332
 t164:=underlying307
 a164:=isAgg307
 z164:=sizeOf307
 v164:=zeroValue307
 t203:=underlying330
 a203:=isAgg330
 z203:=sizeOf330
 v203:=zeroValue330
 t206:=underlying337
 a206:=isAgg337
 z206:=sizeOf337
 v206:=zeroValue337
 t208:=underlying339
 a208:=isAgg339
 z208:=sizeOf339
 v208:=zeroValue339
 g3:=by kernel_rfl
 g4:=by kernel_rfl
 g13:=by kernel_rfl }
theorem Tryz.Builder_Extra_158:Builder.Extra prog Tryz.lays158_ren:={
 sizeBuilder:=by kernel_rfl
 liesBuilder:=by kernel_rfl
 t5:=underlying5
 a5:=isAgg5
 z5:=sizeOf5
 v5:=zeroValue5
 infoByte:=by kernel_rfl
 cellsByte:=by kernel_rfl
 sizeByte:=by kernel_rfl
 neB5:=by decide }
open Go.RowKit in
theorem Tryz.strings_ToUpper_ascii(s:ByteArray)(w:World)(hs:s.size<=140737488355328)(hascii:∀(j:Nat)(b:UInt8),s.data.toList[j]?=some b->b.toNat<128) :
  Calls prog 305 #[.string s] w λe w'=>e= .returned (.string ⟨(Lib.toUpperA s.data.toList).toArray⟩)/\Below w.heap.size w w':=Any.strings_ToUpper_ascii Tryz.lays158 Tryz.Builder_Extra_158 s w hs hascii
def Tryz.lays156_ren:Go.Shelf.Ren:=⟨fun|156=>219|165=>270|166=>222|169=>223|240=>271|241=>298|276=>299|277=>320|n=>n,fun|31=>26|9=>9|3=>3|4=>4|0=>0|20=>20|72=>243|76=>248|70=>240|37=>241|75=>246|127=>285|164=>307|5=>5|80=>250|n=>n,fun|n=>n⟩
theorem Tryz.lays156:Go.Proofs.Lays.n156 prog Tryz.lays156_ren:={
 mixed:=by kernel_rfl
 f156:=func219.trans (congrArg some (by kernel_rfl))
 f165:=func270.trans (congrArg some (by kernel_rfl))
 f166:=func222.trans (congrArg some (by kernel_rfl))
 f169:=func223.trans (congrArg some (by kernel_rfl))
 f240:=func271.trans (congrArg some (by kernel_rfl))
 f241:=func298.trans (congrArg some (by kernel_rfl))
 f276:=func299.trans (congrArg some (by kernel_rfl))
 f277:=func320.trans (congrArg some (by kernel_rfl))
 t0:=underlying0
 a0:=isAgg0
 z0:=sizeOf0
 v0:=zeroValue0
 t3:=underlying3
 a3:=isAgg3
 z3:=sizeOf3
 v3:=zeroValue3
 t4:=underlying4
 a4:=isAgg4
 z4:=sizeOf4
 v4:=zeroValue4
 t9:=underlying9
 a9:=isAgg9
 z9:=sizeOf9
 v9:=zeroValue9
 t20:=underlying20
 a20:=isAgg20
 z20:=sizeOf20
 v20:=zeroValue20
 t31:=underlying26
 a31:=isAgg26
 z31:=sizeOf26
 v31:=zeroValue26
 t37:=underlying241
 a37:=isAgg241
 z37:=sizeOf241
 v37:=zeroValue241
 t70:=underlying240
 a70:=isAgg240
 z70:=sizeOf240
 v70:=zeroValue240
 t72:=underlying243
 a72:=isAgg243
 z72:=sizeOf243
 v72:=zeroValue243
 t75:=underlying246
 a75:=isAgg246
 z75:=sizeOf246
 v75:=zeroValue246
 t76:=underlying248
 a76:=isAgg248
 z76:=sizeOf248
 v76:=zeroValue248
 t127:=underlying285
 a127:=isAgg285
 z127:=sizeOf285
 v127:=zeroValue285
 t164:=underlying307
 a164:=isAgg307
 z164:=sizeOf307
 v164:=zeroValue307 }
theorem Tryz.Builder_Extra_156:Builder.Extra prog Tryz.lays156_ren:={
 sizeBuilder:=by kernel_rfl
 liesBuilder:=by kernel_rfl
 t5:=underlying5
 a5:=isAgg5
 z5:=sizeOf5
 v5:=zeroValue5
 infoByte:=by kernel_rfl
 cellsByte:=by kernel_rfl
 sizeByte:=by kernel_rfl
 neB5:=by decide }
open Go.RowKit in
theorem Tryz.strings_Join_none(a:Option Addr)(c:Nat)(sep:ByteArray)(w:World) :
  Calls prog 219 #[.slice a 0 c,.string sep] w λe w'=>e= .returned (.string ⟨#[]⟩)/\w'=w:=Any.strings_Join_none Tryz.lays156 Tryz.Builder_Extra_156 a c sep w
open Go.RowKit in
theorem Tryz.strings_Join(bk o c:Nat)(xs:List ByteArray)(sep:ByteArray)(w:World)(Qj:∀(j:Nat) x,xs[j]?=some x->w.cell? ⟨bk,o+j,none⟩=some (.string x))(hbk:bk<w.heap.size)(hN:xs.length<=140737488355328)(hcap:xs.length<=c)(Ku:(Lib.join (xs.map (·.data.toList)) sep.data.toList).length<=140737488355328) :
  Calls prog 219 #[.slice (some ⟨bk,o,none⟩) xs.length c,.string sep] w λe w'=>e= .returned (.string ⟨(Lib.join (xs.map (·.data.toList)) sep.data.toList).toArray⟩)/\Below w.heap.size w w':=Any.strings_Join Tryz.lays156 Tryz.Builder_Extra_156 bk o c xs sep w Qj hbk hN hcap Ku
def Tryz.lays137_ren:Go.Shelf.Ren:=⟨fun|137=>153|217=>217|266=>268|n=>n,fun|9=>9|5=>5|3=>3|n=>n,fun|n=>n⟩
theorem Tryz.lays137:Go.Proofs.Lays.n137 prog Tryz.lays137_ren:={
 mixed:=by kernel_rfl
 f137:=func153.trans (congrArg some (by kernel_rfl))
 f217:=func217.trans (congrArg some (by kernel_rfl))
 f266:=func268.trans (congrArg some (by kernel_rfl))
 t3:=underlying3
 a3:=isAgg3
 z3:=sizeOf3
 v3:=zeroValue3
 t5:=underlying5
 a5:=isAgg5
 z5:=sizeOf5
 v5:=zeroValue5
 t9:=underlying9
 a9:=isAgg9
 z9:=sizeOf9
 v9:=zeroValue9 }
open Go.RowKit in
theorem Tryz.strings_IndexByte(s:ByteArray)(c:Int)(w:World) :
  Calls prog 153 #[.string s,.int .u8 c] w λe w'=>e= .returned (.int .i64 (Lib.indexByte s.data.toList c.toNat.toUInt8))/\w'=w:=Any.strings_IndexByte Tryz.lays137 s c w
def Tryz.lays144_ren:Go.Shelf.Ren:=⟨fun|144=>163|143=>228|219=>273|217=>217|225=>300|224=>301|267=>302|266=>268|314=>321|n=>n,fun|9=>9|4=>4|3=>3|5=>5|46=>176|146=>317|51=>219|n=>n,fun|1=>0|n=>n⟩
theorem Tryz.lays144:Go.Proofs.Lays.n144 prog Tryz.lays144_ren:={
 mixed:=by kernel_rfl
 f143:=func228.trans (congrArg some (by kernel_rfl))
 f144:=func163.trans (congrArg some (by kernel_rfl))
 f217:=func217.trans (congrArg some (by kernel_rfl))
 f219:=func273.trans (congrArg some (by kernel_rfl))
 f224:=func301.trans (congrArg some (by kernel_rfl))
 f225:=func300.trans (congrArg some (by kernel_rfl))
 f266:=func268.trans (congrArg some (by kernel_rfl))
 f267:=func302.trans (congrArg some (by kernel_rfl))
 f314:=func321.trans (congrArg some (by kernel_rfl))
 t3:=underlying3
 a3:=isAgg3
 z3:=sizeOf3
 v3:=zeroValue3
 t4:=underlying4
 a4:=isAgg4
 z4:=sizeOf4
 v4:=zeroValue4
 t5:=underlying5
 a5:=isAgg5
 z5:=sizeOf5
 v5:=zeroValue5
 t9:=underlying9
 a9:=isAgg9
 z9:=sizeOf9
 v9:=zeroValue9
 t46:=underlying176
 a46:=isAgg176
 z46:=sizeOf176
 v46:=zeroValue176
 t51:=underlying219
 a51:=isAgg219
 z51:=sizeOf219
 v51:=zeroValue219
 t146:=underlying317
 a146:=isAgg317
 z146:=sizeOf317
 v146:=zeroValue317
 g1:=by kernel_rfl }
open Go.RowKit Go.Lib in
theorem Tryz.strings_Contains_one(s:ByteArray)(c:UInt8)(w:World) :
  Calls prog 163 #[.string s,.string ⟨#[c]⟩] w λe w'=>e= .returned (.bool (decide (0<=Lib.indexByte s.data.toList c)))/\w'=w:=Any.strings_Contains_one Tryz.lays144 s c w
def Tryz.lays146_ren:Go.Shelf.Ren:=⟨fun|146=>216|221=>267|268=>296|138=>297|143=>228|195=>317|197=>318|218=>319|219=>273|260=>328|217=>217|225=>300|224=>301|267=>302|266=>268|314=>321|n=>n,fun|9=>9|31=>26|3=>3|4=>4|0=>0|105=>314|21=>21|5=>5|46=>176|119=>325|139=>328|138=>327|146=>317|51=>219|n=>n,fun|1=>0|3=>1|4=>2|n=>n⟩
theorem Tryz.lays146:Go.Proofs.Lays.n146 prog Tryz.lays146_ren:={
 mixed:=by kernel_rfl
 f138:=func297.trans (congrArg some (by kernel_rfl))
 f143:=func228.trans (congrArg some (by kernel_rfl))
 f146:=func216.trans (congrArg some (by kernel_rfl))
 f195:=func317.trans (congrArg some (by kernel_rfl))
 f197:=func318.trans (congrArg some (by kernel_rfl))
 f217:=func217.trans (congrArg some (by kernel_rfl))
 f218:=func319.trans (congrArg some (by kernel_rfl))
 f219:=func273.trans (congrArg some (by kernel_rfl))
 f221:=func267.trans (congrArg some (by kernel_rfl))
 f224:=func301.trans (congrArg some (by kernel_rfl))
 f225:=func300.trans (congrArg some (by kernel_rfl))
 f260:=func328.trans (congrArg some (by kernel_rfl))
 f266:=func268.trans (congrArg some (by kernel_rfl))
 f267:=func302.trans (congrArg some (by kernel_rfl))
 f268:=func296.trans (congrArg some (by kernel_rfl))
 f314:=func321.trans (congrArg some (by kernel_rfl))
 t0:=underlying0
 a0:=isAgg0
 z0:=sizeOf0
 v0:=zeroValue0
 t3:=underlying3
 a3:=isAgg3
 z3:=sizeOf3
 v3:=zeroValue3
 t4:=underlying4
 a4:=isAgg4
 z4:=sizeOf4
 v4:=zeroValue4
 t5:=underlying5
 a5:=isAgg5
 z5:=sizeOf5
 v5:=zeroValue5
 t9:=underlying9
 a9:=isAgg9
 z9:=sizeOf9
 v9:=zeroValue9
 t21:=underlying21
 a21:=isAgg21
 z21:=sizeOf21
 v21:=zeroValue21
 t31:=underlying26
 a31:=isAgg26
 z31:=sizeOf26
 v31:=zeroValue26
 t46:=underlying176
 a46:=isAgg176
 z46:=sizeOf176
 v46:=zeroValue176
 t51:=underlying219
 a51:=isAgg219
 z51:=sizeOf219
 v51:=zeroValue219
 t105:=underlying314
 a105:=isAgg314
 z105:=sizeOf314
 v105:=zeroValue314
 t119:=underlying325
 a119:=isAgg325
 z119:=sizeOf325
 t138:=underlying327
 a138:=isAgg327
 z138:=sizeOf327
 v138:=zeroValue327
 t139:=underlying328
 a139:=isAgg328
 z139:=sizeOf328
 v139:=zeroValue328
 t146:=underlying317
 a146:=isAgg317
 z146:=sizeOf317
 v146:=zeroValue317
 g1:=by kernel_rfl
 g3:=by kernel_rfl
 g4:=by kernel_rfl }
end Go.Proofs
end
section
namespace Go.Proofs
open Go.Shelf Go.Sort Go.RowKit
def Tryz.lays169_ren:Go.Shelf.Ren:=⟨fun|169=>223|n=>n,fun|70=>240|9=>9|0=>0|72=>243|37=>241|127=>285|3=>3|5=>5|n=>n,fun|n=>n⟩
theorem Tryz.lays169:Go.Proofs.Lays.n169 prog Tryz.lays169_ren:={
 mixed:=by kernel_rfl
 f169:=func223.trans (congrArg some (by kernel_rfl))
 t0:=underlying0
 a0:=isAgg0
 z0:=sizeOf0
 v0:=zeroValue0
 t3:=underlying3
 a3:=isAgg3
 z3:=sizeOf3
 v3:=zeroValue3
 t9:=underlying9
 a9:=isAgg9
 z9:=sizeOf9
 v9:=zeroValue9
 t37:=underlying241
 a37:=isAgg241
 z37:=sizeOf241
 v37:=zeroValue241
 t70:=underlying240
 a70:=isAgg240
 z70:=sizeOf240
 v70:=zeroValue240
 t72:=underlying243
 a72:=isAgg243
 z72:=sizeOf243
 v72:=zeroValue243
 t127:=underlying285
 a127:=isAgg285
 z127:=sizeOf285
 v127:=zeroValue285 }
theorem Tryz.Builder_Extra_169:Builder.Extra prog Tryz.lays169_ren:={
 sizeBuilder:=by kernel_rfl
 liesBuilder:=by kernel_rfl
 t5:=underlying5
 a5:=isAgg5
 z5:=sizeOf5
 v5:=zeroValue5
 infoByte:=by kernel_rfl
 cellsByte:=by kernel_rfl
 sizeByte:=by kernel_rfl
 neB5:=by decide }
open Go.Sort Go.RowKit in
def Tryz.lays167_ren:Go.Shelf.Ren:=⟨fun|156=>219|165=>270|166=>222|169=>223|240=>271|241=>298|276=>299|277=>320|167=>221|n=>n,fun|31=>26|9=>9|3=>3|4=>4|0=>0|20=>20|72=>243|76=>248|70=>240|37=>241|75=>246|127=>285|164=>307|5=>5|80=>250|n=>n,fun|n=>n⟩
theorem Tryz.lays167:Go.Proofs.Lays.n167 prog Tryz.lays167_ren:={
 mixed:=by kernel_rfl
 f167:=func221.trans (congrArg some (by kernel_rfl))
 f240:=func271.trans (congrArg some (by kernel_rfl))
 f276:=func299.trans (congrArg some (by kernel_rfl))
 t0:=underlying0
 a0:=isAgg0
 z0:=sizeOf0
 v0:=zeroValue0
 t4:=underlying4
 a4:=isAgg4
 z4:=sizeOf4
 v4:=zeroValue4
 t5:=underlying5
 a5:=isAgg5
 z5:=sizeOf5
 v5:=zeroValue5
 t9:=underlying9
 a9:=isAgg9
 z9:=sizeOf9
 v9:=zeroValue9
 t20:=underlying20
 a20:=isAgg20
 z20:=sizeOf20
 v20:=zeroValue20
 t37:=underlying241
 a37:=isAgg241
 z37:=sizeOf241
 v37:=zeroValue241
 t70:=underlying240
 a70:=isAgg240
 z70:=sizeOf240
 v70:=zeroValue240
 t72:=underlying243
 a72:=isAgg243
 z72:=sizeOf243
 v72:=zeroValue243
 t75:=underlying246
 a75:=isAgg246
 z75:=sizeOf246
 v75:=zeroValue246
 t164:=underlying307
 a164:=isAgg307
 z164:=sizeOf307
 v164:=zeroValue307
}
def Tryz.lays166_ren:Go.Shelf.Ren:=⟨fun|156=>219|165=>270|166=>222|169=>223|240=>271|241=>298|276=>299|277=>320|n=>n,fun|31=>26|9=>9|3=>3|4=>4|0=>0|20=>20|72=>243|76=>248|70=>240|37=>241|75=>246|127=>285|164=>307|5=>5|80=>250|n=>n,fun|n=>n⟩
theorem Tryz.lays166:Go.Proofs.Lays.n166 prog Tryz.lays166_ren:={
 mixed:=by kernel_rfl
 f166:=func222.trans (congrArg some (by kernel_rfl))
 f240:=func271.trans (congrArg some (by kernel_rfl))
 f276:=func299.trans (congrArg some (by kernel_rfl))
 t0:=underlying0
 a0:=isAgg0
 z0:=sizeOf0
 v0:=zeroValue0
 t3:=underlying3
 a3:=isAgg3
 z3:=sizeOf3
 v3:=zeroValue3
 t4:=underlying4
 a4:=isAgg4
 z4:=sizeOf4
 v4:=zeroValue4
 t9:=underlying9
 a9:=isAgg9
 z9:=sizeOf9
 v9:=zeroValue9
 t20:=underlying20
 a20:=isAgg20
 z20:=sizeOf20
 v20:=zeroValue20
 t37:=underlying241
 a37:=isAgg241
 z37:=sizeOf241
 v37:=zeroValue241
 t70:=underlying240
 a70:=isAgg240
 z70:=sizeOf240
 v70:=zeroValue240
 t72:=underlying243
 a72:=isAgg243
 z72:=sizeOf243
 v72:=zeroValue243
 t75:=underlying246
 a75:=isAgg246
 z75:=sizeOf246
 v75:=zeroValue246
 t164:=underlying307
 a164:=isAgg307
 z164:=sizeOf307
 v164:=zeroValue307
}
theorem Tryz.bldX_167:Builder.Extra prog Tryz.lays167_ren where
 sizeBuilder:=by kernel_rfl
 liesBuilder:=by kernel_rfl
 t5:=underlying5
 a5:=isAgg5
 z5:=sizeOf5
 v5:=zeroValue5
 infoByte:=by kernel_rfl
 cellsByte:=by kernel_rfl
 sizeByte:=by kernel_rfl
 neB5:=by decide
theorem Tryz.bldX_166:Builder.Extra prog Tryz.lays166_ren where
 sizeBuilder:=by kernel_rfl
 liesBuilder:=by kernel_rfl
 t5:=underlying5
 a5:=isAgg5
 z5:=sizeOf5
 v5:=zeroValue5
 infoByte:=by kernel_rfl
 cellsByte:=by kernel_rfl
 sizeByte:=by kernel_rfl
 neB5:=by decide
theorem Tryz.bldOk221:Pe.BldOk prog 221 0 243 5:=Pe.bld_WriteByte Tryz.lays167 Tryz.bldX_167
theorem Tryz.bldOk222:Pe.BldOk prog 222 1 243 5:=Pe.bld_WriteString Tryz.lays166 Tryz.bldX_166
theorem Tryz.bldOk223:Pe.BldOk prog 223 2 243 5:=Pe.bld_String Tryz.lays169 Tryz.Builder_Extra_169
end Go.Proofs
namespace Pe.Tryz
open Go Go.Proofs
theorem bldOk221:Pe.BldOk prog 221 0 243 5:=Go.Proofs.Tryz.bldOk221
theorem bldOk222:Pe.BldOk prog 222 1 243 5:=Go.Proofs.Tryz.bldOk222
theorem bldOk223:Pe.BldOk prog 223 2 243 5:=Go.Proofs.Tryz.bldOk223
end Pe.Tryz
end
section
set_option linter.unusedVariables false
namespace Go.Proofs
open Go.Shelf Go.RowKit Go.Lib
variable{P:Program}{ρ:Ren}
set_option maxHeartbeats 1000000 in
set_option maxRecDepth 100000 in
theorem Any.split_one(L:Lays.n146 P ρ)(hi9:(P.info? (ρ.t 9)).map (λi=>(i.zero,i.size,i.bytes))=some (some (.string ByteArray.empty),1,16))(s:ByteArray)(c:UInt8)(w:World)(hs:s.size<4294967281) :
  Calls P (ρ.f 146) #[.string s,.string ⟨#[c]⟩] w λe w' =>
   e= .returned (.slice (some ⟨w.heap.size,0,none⟩) (Lib.countB s ⟨#[c]⟩+1) (Lib.countB s ⟨#[c]⟩+1))/\w'=w.alloc (.cells ((Lib.splitB ⟨#[c]⟩ 0 (Lib.countB s ⟨#[c]⟩) s).map Value.string).toArray (ρ.t 9)):=by
 have h1:1<=(⟨#[c]⟩:ByteArray).size:=yAi 1;have hle:=Lib.countB_le ⟨#[c]⟩ h1 s.size s (yAi _);have Ku:=Lib.splitB_all ⟨#[c]⟩ h1 0 _ s rfl;have hcb:∀x:ByteArray,(Lib.countB x ⟨#[c]⟩:Int)=(Lib.countByte x.data.toList c:Nat):=λx=>by show ((Lib.count _ _:Nat):Int)=_;exact congrArg Int.ofNat (Lib.count_one _ _)
 have hib:∀x:ByteArray,Lib.indexB x ⟨#[c]⟩=Lib.indexByte x.data.toList c:=λx=>Lib.index_one _ _
 have cc:=Any.strings_genSplit_core { L with } hi9 s ⟨#[c]⟩ 0 (-1) (Lib.countB s ⟨#[c]⟩+1) w hs h1 (yAA _)
  (λx cs _=>by rw[hib];exact Any.strings_Index_one { L with } x c _)
  (by rw[hcb];exact Any.strings_Count_one { L with } s c w) (by decide) (by decide) (by rw[if_pos (by decide)];omega)
 rw[yCf,Ku] at cc;have e2:Lib.cellsOf (Lib.splitB ⟨#[c]⟩ 0 (Lib.countB s ⟨#[c]⟩) s) (Lib.countB s ⟨#[c]⟩+1)=((Lib.splitB ⟨#[c]⟩ 0 (Lib.countB s ⟨#[c]⟩) s).map Value.string).toArray:=by rw[<-Ku];exact Lib.cellsOf_full _
 rw[e2] at cc;have t3:=L.t3;have t9:=L.t9;have t31:=L.t31;have a3:=L.a3;have a9:=L.a9;have a31:=L.a31;have z3:=L.z3;have v3:=L.v3;have z9:=L.z9;have v9:=L.v9;have z31:=L.z31;have v31:=L.v31;have e221:∀args w,(callFunc (ρ.f 221) args).run P w= .ok (.enter (ρ.f 221) args) w:=enters_of L.f221 (by kernel_rfl) rfl
 go_enter L.f146,Body.n146_ntmps ρ
 go_wp2_with (go_at_fn (ρ.f 221);refine cc.mono ?_;rintro e w' ⟨rfl,hw⟩;rw[hw])
 go_ret
 exact ⟨rfl,rfl⟩
end Go.Proofs
end
