/- PROVED HERE: a part of the seat's proofs; see the text that holds the claim's theorem. -/
import Derived.Test.YteimbekcnkogoaaGreatDoorNm
import Derived.Shelf.SlSortCmp.NoneTotal
import Derived.Shelf.Strings.OnBuilder
import Derived.Test.YteimbekcnkogoaaGreatDoorProg
import Derived.Test.YteimbekcnkogoaaGreatDoorPeE
section
/- The plain law of reading licence expressions: the token reader with one token ahead and the reference's reader give one answer. No program in sight. -/
namespace LicSpec
abbrev Str:=List UInt8
structure Ex where
 kind:Int
 name:Str
 later:Bool
 wth:Str
 kids:List Ex
def Ex.zero:Ex:= .mk 0 [] false [] []
def isRun (c:UInt8):Bool:=(97≤c&&c≤122)||(65≤c&&c≤90)||(48≤c&&c≤57)||c==46||c==45
def isBlank (c:UInt8):Bool:=c==32||c==9||c==10
def zfc:Str:=[65,78,68]
def sOR:Str:=[79,82]
def zbL:Str:=[87,73,84,72]
def ztp:Str:=[97,110,100]
def sor:Str:=[111,114]
def zn6:Str:=[119,105,116,104]
def wordR (l:Str):Str :=
 if l=zfc∨l=ztp then zfc else if l=sOR∨l=sor then sOR else if l=zbL∨l=zn6 then zbL else []
def isWord (l:Str):Bool:=l==zfc||l==sOR||l==zbL||l==ztp||l==sor||l==zn6
def isName (l:Str):Bool :=
 !(l.isEmpty||decide (60<l.length)||l.head? ==some 46||l.head? ==some 45||isWord l)&&l.all isRun
def skipB:Str→Nat
 | []=>0
 | c::r=>if isBlank c then skipB r+1 else 0
def runL:Str→Nat
 | []=>0
 | c::r=>if isRun c then runL r+1 else 0
def zcH (r:Str):Option (Int×Str×Nat) :=
 match r with
 | []=>some (0,[],0)
 | c::_ =>
   let n:=runL r
   if n=0 then
    if c=43 then some (3,[],1) else if c=40 then some (4,[],1) else if c=41 then some (5,[],1) else none
   else
    let t:=r.take n
    if isWord t then some (2,wordR t,n) else if isName t then some (1,t,n) else none
structure PS where
 fin:Nat
 kind:Int
 text:Str
 at_:Nat
 tight:Bool
 opn:Nat
inductive Res (α:Type) where
 | ok (a:α) (s:PS)
 | err (at_:Nat) (code:Int)
def zb2 (S:Str) (s:PS):Res Unit :=
 let a:=s.fin+skipB (S.drop s.fin)
 match zcH (S.drop a) with
 | none=> .err a 6
 | some (k,t,n)=> .ok () { s with fin:=if k=0 then s.fin else a+n,kind:=k,text:=t,at_:=a,tight:=decide (a=s.fin)&&decide (0<a) }
def zdr (S:Str) (s:PS):Res Str :=
 if s.kind≠1 then .err s.at_ 6 else
 match zb2 S s with
 | .err a c=> .err a c
 | .ok _ s'=> .ok s.text s'
def pIs (S:Str) (w:Str) (s:PS):Res Bool :=
 if s.kind=2∧s.text=w then
  match zb2 S s with
  | .err a c=> .err a c
  | .ok _ s'=> .ok true s'
 else .ok false s
def zcp (S:Str) (w:Str) (one:PS→Res Ex):Nat→List Ex→PS→Res (List Ex)
 | 0,acc,s=> .ok acc s
 | f+1,acc,s =>
   match pIs S w s with
   | .err a c=> .err a c
   | .ok false s'=> .ok acc s'
   | .ok true s' =>
     match one s' with
     | .err a c=> .err a c
     | .ok e s''=>zcp S w one f (acc++[e]) s''
def zg4 (S:Str) (kind:Int) (w:Str) (one:PS→Res Ex) (s:PS):Res Ex :=
 match one s with
 | .err a c=> .err a c
 | .ok e s' =>
   if s'.kind=2∧s'.text=w then
    match zcp S w one (S.length+1) [e] s' with
    | .err a c=> .err a c
    | .ok l s''=> .ok (.mk kind [] false [] l) s''
   else .ok e s'
def zjC (S:Str) (name:Str) (s:PS):Res Ex :=
 match (if s.kind=3∧s.tight=true then (match zb2 S s with | .err a c=> .err a c | .ok _ s'=> .ok true s') else .ok false s:Res Bool) with
 | .err a c=> .err a c
 | .ok later s1 =>
   match pIs S zbL s1 with
   | .err a c=> .err a c
   | .ok false s2=> .ok (.mk 1 name later [] []) s2
   | .ok true s2 =>
     match zdr S s2 with
     | .err a c=> .err a c
     | .ok x s3=> .ok (.mk 1 name later x []) s3
def za9 (S:Str):Nat→PS→Res Ex
 | d,s =>
   if s.kind=4 then
    match d with
    | 0=> .err s.at_ 3
    | d+1 =>
      match zb2 S { s with opn:=s.opn+1 } with
      | .err a c=> .err a c
      | .ok _ s1 =>
        match zg4 S 3 sOR (zg4 S 2 zfc (za9 S d)) s1 with
        | .err a c=> .err a c
        | .ok e s2 =>
          if s2.kind≠5 then .err s2.at_ 6 else
          match zb2 S { s2 with opn:=s2.opn - 1 } with
          | .err a c=> .err a c
          | .ok _ s3=> .ok e s3
   else
    match zdr S s with
    | .err a c=> .err a c
    | .ok name s1=>zjC S name s1
def zjE (S:Str) (d:Nat) (s:PS):Res Ex:=zg4 S 3 sOR (zg4 S 2 zfc (za9 S d)) s
def ziO:PS:=⟨0,0,[],0,false,0⟩
def zhL (S:Str):Res Ex :=
 match zb2 S ziO with
 | .err a c=> .err a c
 | .ok _ s =>
   match zjE S 30 s with
   | .err a c=> .err a c
   | .ok e s'=>if s'.kind≠0 then .err s'.at_ 6 else .ok e s'
structure RS where
 at_:Nat
 pos:Nat
 no:Int
def zen (s:RS) (a:Nat) (c:Int):RS:=if s.no=0 then { s with pos:=a,no:=c } else s
def zat (S:Str) (s:RS):RS:={ s with at_:=s.at_+skipB (S.drop s.at_) }
def zrV (S:Str) (s:RS):Str:=(S.drop s.at_).take (runL (S.drop s.at_))
def zbp (S:Str) (w:Str) (s:RS):Bool×RS :=
 let s1:=zat S s
 let t:=zrV S s1
 if wordR t=w then (true,{ s1 with at_:=s1.at_+t.length }) else (false,s1)
def zb6 (S:Str) (b:UInt8) (s:RS):Bool×RS :=
 let s1:=zat S s
 if S[s1.at_]? =some b then (true,{ s1 with at_:=s1.at_+1 }) else (false,s1)
def zfi (S:Str) (s:RS):Str×RS :=
 let s1:=zat S s
 let t:=zrV S s1
 if isName t then (t,{ s1 with at_:=s1.at_+t.length }) else ([],zen s1 s1.at_ 6)
def zaN (S:Str) (w:Str) (one:RS→Ex×RS):Nat→List Ex→RS→List Ex×RS
 | 0,acc,s=>(acc,s)
 | f+1,acc,s =>
   if s.no≠0 then (acc,s) else
   match zbp S w s with
   | (false,s1)=>(acc,s1)
   | (true,s1) =>
     match one s1 with
     | (e,s2)=>zaN S w one f (acc++[e]) s2
def zc3 (S:Str) (kind:Int) (w:Str) (one:RS→Ex×RS) (s:RS):Ex×RS :=
 match one s with
 | (e0,s0) =>
   match zaN S w one (S.length+1) [e0] s0 with
   | ([e],s1)=>(e,s1)
   | (l,s1)=>(.mk kind [] false [] l,s1)
def zhH (S:Str) (name:Str) (s:RS):Ex×RS :=
 let (later,s1):=if s.no=0∧S[s.at_]? =some 43 then (true,{ s with at_:=s.at_+1 }) else (false,s)
 if s1.no=0 then
  let (t,s2):=zbp S zbL s1
  if t then
   let (x,s3):=zfi S s2
   (.mk 1 name later x [],s3)
  else (.mk 1 name later [] [],s2)
 else (.mk 1 name later [] [],s1)
def zbz (S:Str):Nat→RS→Ex×RS
 | d,s =>
   let s0:=zat S s
   let a:=s0.at_
   let (t,s1):=zb6 S 40 s0
   if t then
    match d with
    | 0=>(.zero,zen s1 a 3)
    | d+1 =>
      let (e,s2):=zc3 S 3 sOR (zc3 S 2 zfc (zbz S d)) s1
      if s2.no=0 then
       let (t,s3):=zb6 S 41 s2
       if t then (e,s3) else (e,zen s3 s3.at_ 6)
      else (e,s2)
   else
    let (name,s2):=zfi S s1
    zhH S name s2
def zkS (S:Str):Ex×RS :=
 let (e,s):=zc3 S 3 sOR (zc3 S 2 zfc (zbz S 30)) ⟨0,0,0⟩
 let s1:=zat S s
 if s1.no=0∧s1.at_<S.length then (e,zen s1 s1.at_ 6) else (e,s1)
end LicSpec
end
section
namespace LicSpec
theorem zn8 (r:Str):skipB (r.drop (skipB r))=0:=by
 induction r with
 | nil=>rfl
 | cons c r ih =>
   by_cases h:isBlank c
   ·simp [skipB,h,ih]
   ·simp [skipB,h]
theorem zfb (S:Str) (a:Nat):skipB (S.drop (a+skipB (S.drop a)))=0:=by
 rw [←yBF];exact zn8 _
theorem zjw (r:Str):runL r≤r.length:=by
 induction r with
 | nil=>simp [runL]
 | cons c r ih=>by_cases h:isRun c<;>simp [runL,h];omega
theorem zdS (r:Str):(r.take (runL r)).length=runL r:=by
 have:=zjw r
 simp;omega
theorem zhp (l:Str):(isWord l=true∧wordR l≠[])∨(isWord l=false∧wordR l=[]):=by
 unfold wordR isWord
 by_cases h1:l=zfc<;>by_cases h2:l=ztp<;>by_cases h3:l=sOR<;>by_cases h4:l=sor<;>by_cases h5:l=zbL<;>by_cases h6:l=zn6 <;>
  simp_all [zfc,ztp,sOR,sor,zbL,zn6]
theorem zkt:wordR []=[]:=by decide
theorem zi0:isName []=false:=by decide
theorem zjm (r w:Str) (hw:w≠[]):wordR (r.take (runL r))=w↔zcH r=some (2,w,runL r):=by
 cases r with
 | nil=>simp [zcH,zkt,runL];exact fun h=>hw h
 | cons c r =>
   simp only [zcH]
   by_cases hn:runL (c::r)=0
   ·simp only [hn,List.take_zero,zkt,if_true]
    constructor
    ·intro h;exact absurd h.symm hw
    ·intro h;split at h<;>(try split at h)<;>(try split at h)<;>simp at h
   ·simp only [hn,if_false]
    rcases zhp ((c::r).take (runL (c::r))) with ⟨h1,h2⟩ | ⟨h1,h2⟩
    ·simp [h1]
    ·simp only [h1,h2]
     constructor
     ·intro h;exact absurd h.symm hw
     ·intro h;exfalso;revert h;simp only [yCf,if_false];split<;>simp
theorem zjn (r:Str):isName (r.take (runL r))=true↔zcH r=some (1,r.take (runL r),runL r):=by
 cases r with
 | nil=>simp [zcH,zi0]
 | cons c r =>
   simp only [zcH]
   by_cases hn:runL (c::r)=0
   ·simp only [hn,List.take_zero,zi0,if_true]
    constructor
    ·intro h;simp at h
    ·intro h;split at h<;>(try split at h)<;>(try split at h)<;>simp at h
   ·simp only [hn,if_false]
    by_cases hi:isName ((c::r).take (runL (c::r)))=true
    ·have hw:isWord ((c::r).take (runL (c::r)))=false:=by
      unfold isName at hi
      cases h:isWord (List.take (runL (c::r)) (c::r))
      ·rfl
      ·simp [h] at hi
     simp [hi,hw]
    ·simp only [hi]
     constructor
     ·intro h;exact absurd h (by simp)
     ·intro h;exfalso;revert h;(first | (split<;>simp) | simp)
theorem zeG (r:Str) (b:UInt8) (k:Int) (hb:(b=43∧k=3)∨(b=40∧k=4)∨(b=41∧k=5)):r.head? =some b↔zcH r=some (k,[],1):=by
 cases r with
 | nil=>rcases hb with ⟨_,rfl⟩ | ⟨_,rfl⟩ | ⟨_,rfl⟩<;>simp [zcH]
 | cons c r =>
   simp only [zcH,List.head?_cons,yAf]
   by_cases hn:runL (c::r)=0
   ·simp only [hn,if_true]
    rcases hb with ⟨rfl,rfl⟩ | ⟨rfl,rfl⟩ | ⟨rfl,rfl⟩ <;>
    ·constructor
     ·rintro rfl;simp
     ·intro h;split at h<;>(try split at h)<;>(try split at h)<;>simp_all
   ·simp only [hn,if_false]
    have hr:isRun c=true:=by
     cases h:isRun c
     ·simp [runL,h] at hn
     ·rfl
    constructor
    ·rintro rfl
     rcases hb with ⟨rfl,_⟩ | ⟨rfl,_⟩ | ⟨rfl,_⟩<;>simp [isRun] at hr<;>revert hr<;>decide
    ·intro h
     rcases hb with ⟨_,rfl⟩ | ⟨_,rfl⟩ | ⟨_,rfl⟩<;>(split at h<;>(try split at h)<;>simp at h)
theorem zsf (r:Str):r=[]↔∃t n,zcH r=some (0,t,n):=by
 cases r with
 | nil=>simp [zcH]
 | cons c r =>
   simp only [zcH]
   constructor
   ·intro h;simp at h
   ·rintro ⟨t,n,h⟩
    by_cases hn:runL (c::r)=0
    ·simp only [hn,if_true] at h
     split at h<;>(try split at h)<;>(try split at h)<;>simp at h
    ·simp only [hn,if_false] at h
     split at h<;>(try split at h)<;>simp at h
theorem zht (r:Str) {k:Int} {t:Str} {n:Nat} (h:zcH r=some (k,t,n)):(k=0∧t=[]∧r=[])∨(k=1∧n=runL r∧t=r.take n∧n≠0)∨(k=2∧n=runL r∧n≠0)∨((k=3∨k=4∨k=5)∧n=1∧t=[]):=by
 cases r with
 | nil=>simp [zcH] at h;obtain ⟨rfl,rfl,rfl⟩:=h;exact .inl ⟨rfl,rfl,rfl⟩
 | cons c r =>
   simp only [zcH] at h
   by_cases hn:runL (c::r)=0
   ·simp only [hn,if_true] at h
    split at h
    ·simp at h;obtain ⟨rfl,rfl,rfl⟩:=h;simp
    ·split at h
     ·simp at h;obtain ⟨rfl,rfl,rfl⟩:=h;simp
     ·split at h
      ·simp at h;obtain ⟨rfl,rfl,rfl⟩:=h;simp
      ·simp at h
   ·simp only [hn,if_false] at h
    split at h
    ·simp at h;obtain ⟨rfl,rfl,rfl⟩:=h;simp [hn]
    ·split at h
     ·simp at h;obtain ⟨rfl,rfl,rfl⟩:=h;simp [hn]
     ·simp at h
theorem zcQ (S:Str) (a:Nat):S[a]? =(S.drop a).head? :=by simp
structure Sim (S:Str) (s:PS) (q:RS):Prop where
 no:q.no=0
 at_:s.at_=q.at_+skipB (S.drop q.at_)
 tok:∃n,zcH (S.drop s.at_)=some (s.kind,s.text,n)∧(s.kind≠0→s.fin=s.at_+n)
structure Doom (S:Str) (a:Nat) (q:RS):Prop where
 no:q.no=0
 at_:a=q.at_+skipB (S.drop q.at_)
 tok:zcH (S.drop a)=none
theorem Sim.blanks {S s q} (h:Sim S s q):Sim S s (zat S q)∧(zat S q).at_=s.at_ :=
 ⟨⟨h.no,by rw [h.at_];simp [zat,zfb],h.tok⟩,by rw [h.at_];rfl⟩
theorem Doom.blanks {S a q} (h:Doom S a q):Doom S a (zat S q)∧(zat S q).at_=a :=
 ⟨⟨h.no,by conv=>lhs;rw [h.at_]
           simp [zat,zfb],h.tok⟩,by rw [h.at_];rfl⟩
theorem zqd {S:Str} {q:RS} (h:skipB (S.drop q.at_)=0):zat S q=q:=by
 cases q;simp_all [zat]
theorem zeN (S:Str) (s:PS) (q:RS) (hno:q.no=0) (hq:q.at_=s.fin) :
  match zb2 S s with
  | .ok _ s'=>Sim S s' q∧s'.opn=s.opn∧s'.tight=(decide (s'.at_=q.at_)&&decide (0<s'.at_))
  | .err a c=>c=6∧Doom S a q:=by
 unfold zb2
 dsimp only
 cases h:zcH (S.drop (s.fin+skipB (S.drop s.fin))) with
 | none=>exact ⟨rfl,hno,by rw [hq],h⟩
 | some x =>
   obtain ⟨k,t,n⟩:=x
   dsimp only
   refine ⟨⟨hno,by rw [hq],n,h,fun hk=>by simp [hk]⟩,rfl,by rw [hq]⟩
theorem zcs {S s q} (h:Sim S s q) (w:Str) (hw:w≠[]) :
  zbp S w q=(if s.kind=2∧s.text=w then (true,{ q with at_:=s.fin }) else (false,{ q with at_:=s.at_ })):=by
 unfold zbp
 have hb:zat S q={ q with at_:=s.at_ }:=by rw [h.at_];rfl
 rw [hb]
 unfold zrV
 dsimp only
 obtain ⟨n,ht,hf⟩:=h.tok
 by_cases hk:s.kind=2∧s.text=w
 ·obtain ⟨hk,hx⟩:=hk
  have hl:=zht _ ht
  rw [hk] at hl
  simp at hl
  rw [hk,hx,hl.1] at ht
  rw [if_pos ((zjm _ _ hw).2 ht),if_pos ⟨hk,hx⟩,zdS,←hl.1,←hf (by rw [hk];decide)]
 ·rw [if_neg hk,if_neg]
  intro hc
  have:=(zjm _ _ hw).1 hc
  rw [ht] at this
  simp at this
  exact hk ⟨this.1,this.2.1⟩
theorem zdT {S a q} (h:Doom S a q) (w:Str) (hw:w≠[]):zbp S w q=(false,{ q with at_:=a }):=by
 unfold zbp
 have hb:zat S q={ q with at_:=a }:=by rw [h.at_];rfl
 rw [hb]
 unfold zrV
 dsimp only
 rw [if_neg]
 intro hc
 have:=(zjm _ _ hw).1 hc
 rw [h.tok] at this
 simp at this
theorem zec {S s q} (h:Sim S s q) (b:UInt8) (k:Int) (hb:(b=43∧k=3)∨(b=40∧k=4)∨(b=41∧k=5)) :
  zb6 S b q=(if s.kind=k then (true,{ q with at_:=s.fin }) else (false,{ q with at_:=s.at_ })):=by
 unfold zb6
 have hbl:zat S q={ q with at_:=s.at_ }:=by rw [h.at_];rfl
 rw [hbl]
 dsimp only
 rw [zcQ]
 obtain ⟨n,ht,hf⟩:=h.tok
 have hkz:k≠0:=by rcases hb with ⟨_,rfl⟩ | ⟨_,rfl⟩ | ⟨_,rfl⟩<;>decide
 by_cases hk:s.kind=k
 ·have hl:=zht _ ht
  have h1:n=1∧s.text=[]:=by rcases hb with ⟨_,rfl⟩ | ⟨_,rfl⟩ | ⟨_,rfl⟩<;>simp [hk] at hl<;>exact hl
  rw [h1.2,h1.1,hk] at ht
  rw [if_pos ((zeG _ b k hb).2 ht),if_pos hk,hf (by rw [hk];exact hkz),h1.1]
 ·rw [if_neg hk,if_neg]
  intro hc
  have:=(zeG _ b k hb).1 hc
  rw [ht] at this
  simp at this
  exact hk this.1
theorem zcI {S a q} (h:Doom S a q) (b:UInt8) (k:Int) (hb:(b=43∧k=3)∨(b=40∧k=4)∨(b=41∧k=5)):zb6 S b q=(false,{ q with at_:=a }):=by
 unfold zb6
 have hbl:zat S q={ q with at_:=a }:=by rw [h.at_];rfl
 rw [hbl]
 dsimp only
 rw [zcQ]
 rw [if_neg]
 intro hc
 have:=(zeG _ b k hb).1 hc
 rw [h.tok] at this
 simp at this
theorem zmT {S s q} (h:Sim S s q):Sim S s { q with at_:=s.at_ }:=by
 have:=h.blanks.1
 have e:zat S q={ q with at_:=s.at_ }:=by rw [h.at_];rfl
 rwa [e] at this
theorem zkb {S a q} (h:Doom S a q):Doom S a { q with at_:=a }:=by
 have:=h.blanks.1
 have e:zat S q={ q with at_:=a }:=by rw [h.at_];rfl
 rwa [e] at this
def zlM (S:Str) (a:Nat) (c:Int) (q:RS):Prop:=(c≠0∧q.no=c∧q.pos=a)∨(c=6∧Doom S a q)
theorem zm8 {S s q} (h:Sim S s q) :
  match zdr S s with
  | .ok x s'=>∃q',zfi S q=(x,q')∧Sim S s' q'∧s'.opn=s.opn∧s'.tight=(decide (s'.at_=q'.at_)&&decide (0<s'.at_))∧0<q'.at_
  | .err a c=>∃x q',zfi S q=(x,q')∧zlM S a c q':=by
 unfold zdr zfi
 have hbl:zat S q={ q with at_:=s.at_ }:=by rw [h.at_];rfl
 rw [hbl]
 unfold zrV
 dsimp only
 obtain ⟨n,ht,hf⟩:=h.tok
 by_cases hk:s.kind=1
 ·rw [if_neg (by simp [hk])]
  have hl:=zht _ ht
  rw [hk] at hl
  simp at hl
  have hx:isName ((S.drop s.at_).take (runL (S.drop s.at_)))=true:=(zjn _).2 (by rw [ht,hk,hl.2.1,hl.1])
  rw [if_pos hx,zdS]
  have hfin:s.at_+runL (S.drop s.at_)=s.fin:=by rw [hf (by rw [hk];decide),hl.1]
  have hn:=zeN S s { q with at_:=s.at_+runL (S.drop s.at_) } h.no hfin
  cases hp:zb2 S s with
  | err a c =>
    rw [hp] at hn
    exact ⟨_,_,rfl,.inr ⟨hn.1,hn.2⟩⟩
  | ok u s' =>
    rw [hp] at hn
    refine ⟨_,?_,hn.1,hn.2.1,hn.2.2,?_⟩
    ·rw [hl.2.1,hl.1]
    ·have:=hl.2.2;rw [hl.1] at this;dsimp only;omega
 ·rw [if_pos hk]
  refine ⟨[],zen { q with at_:=s.at_ } s.at_ 6,?_,.inl ⟨by decide,?_,?_⟩⟩
  ·rw [if_neg]
   intro hc
   have:=(zjn _).1 hc
   rw [ht] at this
   simp at this
   exact hk this.1
  ·simp [zen,h.no]
  ·simp [zen,h.no]
theorem zk7 {S a q} (h:Doom S a q):∃x q',zfi S q=(x,q')∧zlM S a 6 q':=by
 unfold zfi
 have hbl:zat S q={ q with at_:=a }:=by rw [h.at_];rfl
 rw [hbl]
 unfold zrV
 dsimp only
 rw [if_neg]
 ·refine ⟨_,_,rfl,.inl ⟨by decide,?_,?_⟩⟩<;>simp [zen,h.no]
 ·intro hc
  have:=(zjn _).1 hc
  rw [h.tok] at this
  simp at this
def zg1 {α:Type} (S:Str) (o:Nat) (p:Res α) (r:α×RS):Prop :=
 match p with
 | .ok e s=>r.1=e∧Sim S s r.2∧s.opn=o
 | .err a c=>zlM S a c r.2
theorem zgb:zfc≠[]:=by decide
theorem zmF:sOR≠[]:=by decide
theorem zg9:zbL≠[]:=by decide
theorem zr0 {S s q} (h:Sim S s q) (w:Str) (hw:w≠[]):zg1 S s.opn (pIs S w s) (zbp S w q):=by
 rw [zcs h w hw]
 unfold pIs
 by_cases hk:s.kind=2∧s.text=w
 ·rw [if_pos hk,if_pos hk]
  have hn:=zeN S s { q with at_:=s.fin } h.no rfl
  cases hp:zb2 S s with
  | err a c=>rw [hp] at hn;exact .inr hn
  | ok u s'=>rw [hp] at hn;exact ⟨rfl,hn.1,hn.2.1⟩
 ·rw [if_neg hk,if_neg hk]
  exact ⟨rfl,zmT h,rfl⟩
theorem zh7 {S w one f acc a c q} (hw:w≠[]) (h:zlM S a c q):∃l q',zaN S w one f acc q=(l,q')∧zlM S a c q':=by
 cases f with
 | zero=>exact ⟨_,_,rfl,h⟩
 | succ f =>
   unfold zaN
   rcases h with ⟨hc,hn,hp⟩ | ⟨hc,hd⟩
   ·rw [if_pos (by rw [hn];exact hc)]
    exact ⟨_,_,rfl,.inl ⟨hc,hn,hp⟩⟩
   ·rw [if_neg (by simp [hd.no]),zdT hd w hw]
    exact ⟨_,_,rfl,.inr ⟨hc,zkb hd⟩⟩
theorem zlD {S kind w one a c} {q q0:RS} {e:Ex} (hw:w≠[]) (h1:one q=(e,q0)) (h:zlM S a c q0):∃l q',zc3 S kind w one q=(l,q')∧zlM S a c q':=by
 unfold zc3
 rw [h1]
 obtain ⟨l,q',hl,he⟩:=zh7 (one:=one) (f:=S.length+1) (acc:=[e]) hw h
 dsimp only
 rw [hl]
 split<;>exact ⟨_,_,rfl,by simp_all⟩
theorem zrf {S:Str} {w:Str} (hw:w≠[]) (o:Nat) (one:PS→Res Ex) (one':RS→Ex×RS)
  (h1:∀s q,Sim S s q→s.opn=o→zg1 S o (one s) (one' q)) (hd1:∀a q,Doom S a q→zlM S a 6 (one' q).2) :
  ∀f acc s q,Sim S s q→s.opn=o→zg1 S o (zcp S w one f acc s) (zaN S w one' f acc q):=by
 intro f
 induction f with
 | zero=>intro acc s q h ho;exact ⟨rfl,h,ho⟩
 | succ f ih =>
   intro acc s q h ho
   unfold zcp zaN
   rw [if_neg (by simp [h.no])]
   have hi:=zr0 h w hw
   obtain ⟨t,q1,hq⟩:∃t q1,zbp S w q=(t,q1):=⟨_,_,rfl⟩
   rw [hq] at hi ⊢
   cases hp:pIs S w s with
   | err a c =>
     rw [hp] at hi
     dsimp only [zg1] at hi ⊢
     cases t with
     | false=>exact hi
     | true =>
       rcases hi with ⟨hc,hn,hpp⟩ | ⟨hc,hd⟩
       ·-- the word was taken,and the next token is a zcf:'no' is still nothing
        exfalso
        rw [zcs h w hw] at hq
        split at hq
        ·injection hq with _ hq;subst hq;exact hc (hn.symm.trans h.no)
        ·injection hq with hq _;cases hq
       ·subst hc
        obtain ⟨e,q2,hq2⟩:∃e q2,one' q1=(e,q2):=⟨_,_,rfl⟩
        have h2:=hd1 a q1 hd
        rw [hq2] at h2
        dsimp only
        rw [hq2]
        obtain ⟨l,q',hl,he⟩:=zh7 (w:=w) (one:=one') (f:=f) (acc:=acc++[e]) hw h2
        dsimp only
        rw [hl];exact he
   | ok b s1 =>
     rw [hp] at hi
     dsimp only [zg1] at hi ⊢
     obtain ⟨hb,hs,hop⟩:=hi
     subst hb
     cases t with
     | false=>exact ⟨rfl,hs,hop.trans ho⟩
     | true =>
       dsimp only
       have h2:=h1 s1 q1 hs (hop.trans ho)
       obtain ⟨e,q2,hq2⟩:∃e q2,one' q1=(e,q2):=⟨_,_,rfl⟩
       rw [hq2] at h2 ⊢
       cases hp2:one s1 with
       | err a c =>
         rw [hp2] at h2
         dsimp only [zg1] at h2 ⊢
         obtain ⟨l,q',hl,he⟩:=zh7 (w:=w) (one:=one') (f:=f) (acc:=acc++[e]) hw h2
         rw [hl];exact he
       | ok e' s2 =>
         rw [hp2] at h2
         dsimp only [zg1] at h2 ⊢
         obtain ⟨rfl,hs2,ho2⟩:=h2
         exact ih _ _ _ hs2 ho2
theorem zrg {S:Str} {w:Str} {one':RS→Ex×RS}:∀f acc q,acc.length≤(zaN S w one' f acc q).1.length:=by
 intro f
 induction f with
 | zero=>intro acc q;exact yAi _
 | succ f ih =>
   intro acc q
   unfold zaN
   split
   ·exact yAi _
   ·split
    ·exact yAi _
    ·exact yAk (by simp) (ih _ _)
theorem zeJ {S:Str} {kind:Int} {w:Str} (hw:w≠[]) {one':RS→Ex×RS} (hd1:∀a q,Doom S a q→zlM S a 6 (one' q).2) :
  ∀a q,Doom S a q→zlM S a 6 (zc3 S kind w one' q).2:=by
 intro a q hd
 obtain ⟨e,q2,hq2⟩:∃e q2,one' q=(e,q2):=⟨_,_,rfl⟩
 have h2:=hd1 a q hd
 rw [hq2] at h2
 obtain ⟨l,q',hl,he⟩:=zlD (kind:=kind) hw hq2 h2
 rw [hl];exact he
theorem zjx {S:Str} {kind:Int} {w:Str} (hw:w≠[]) (o:Nat) (one:PS→Res Ex) (one':RS→Ex×RS)
  (h1:∀s q,Sim S s q→s.opn=o→zg1 S o (one s) (one' q)) (hd1:∀a q,Doom S a q→zlM S a 6 (one' q).2) :
  ∀s q,Sim S s q→s.opn=o→zg1 S o (zg4 S kind w one s) (zc3 S kind w one' q):=by
 intro s q h ho
 have h2:=h1 s q h ho
 obtain ⟨e,q2,hq2⟩:∃e q2,one' q=(e,q2):=⟨_,_,rfl⟩
 unfold zg4
 cases hp:one s with
 | err a c =>
   rw [hp,hq2] at h2
   obtain ⟨l,q',hl,he⟩:=zlD (kind:=kind) hw hq2 h2
   rw [hl];exact he
 | ok e' s' =>
   rw [hp,hq2] at h2
   obtain ⟨he,hs,ho'⟩:=h2
   dsimp only at he hs ho'
   subst he
   unfold zc3
   rw [hq2]
   dsimp only
   have hl:=zrf hw o one one' h1 hd1 (S.length+1) [e] s' q2 hs ho'
   by_cases hk:s'.kind=2∧s'.text=w
   ·rw [if_pos hk]
    obtain ⟨l,q',hll⟩:∃l q',zaN S w one' (S.length+1) [e] q2=(l,q'):=⟨_,_,rfl⟩
    rw [hll] at hl ⊢
    cases hpl:zcp S w one (S.length+1) [e] s' with
    | err a c =>
      rw [hpl] at hl
      dsimp only [zg1] at hl ⊢
      split<;>(simp_all)
    | ok l' s'' =>
      rw [hpl] at hl
      dsimp only [zg1] at hl ⊢
      obtain ⟨rfl,hs2,ho2⟩:=hl
      have hlen:2≤l.length:=by
       have:zaN S w one' (S.length+1) [e] q2=(l,q'):=hll
       unfold zaN at this
       rw [if_neg (by simp [hs.no])] at this
       rw [zcs hs w hw,if_pos hk] at this
       dsimp only at this
       generalize ho1:one' { q2 with at_:=s'.fin }=oo at this
       obtain ⟨e2,q3⟩:=oo
       dsimp only at this
       have h3:=zrg (S:=S) (w:=w) (one':=one') S.length ([e]++[e2]) q3
       rw [this] at h3
       simpa using h3
      match l,hlen with
      | e1::e2::l,_=>exact ⟨rfl,hs2,ho2⟩
   ·rw [if_neg hk]
    have:zaN S w one' (S.length+1) [e] q2=([e],{ q2 with at_:=s'.at_ }):=by
     unfold zaN
     rw [if_neg (by simp [hs.no]),zcs hs w hw,if_neg hk]
    rw [this]
    exact ⟨rfl,zmT hs,ho'⟩
theorem zkA {S a q} (x:Str) (h:Doom S a q):zlM S a 6 (zhH S x q).2:=by
 have hn:¬(q.no=0∧S[q.at_]? =some 43):=by
  rintro ⟨_,hc⟩
  rw [zcQ] at hc
  by_cases hb:skipB (S.drop q.at_)=0
  ·have ha:a=q.at_:=by rw [h.at_,hb];rfl
   have:=(zeG _ 43 3 (.inl ⟨rfl,rfl⟩)).1 hc
   rw [←ha,h.tok] at this
   cases this
  ·cases hs:S.drop q.at_ with
   | nil=>rw [hs] at hc;simp at hc
   | cons c r =>
     rw [hs] at hc hb
     simp at hc
     subst hc
     exact hb rfl
 unfold zhH
 rw [if_neg hn]
 dsimp only
 rw [if_pos h.no,zdT h zbL zg9]
 exact .inr ⟨rfl,zkb h⟩
theorem zqI {S s q} (h:Sim S s q) (ht:s.tight=(decide (s.at_=q.at_)&&decide (0<s.at_))) (hq:0<q.at_) (x:Str) :
  zg1 S s.opn (zjC S x s) (zhH S x q):=by
 have hplus:(s.kind=3∧s.tight=true)↔(q.no=0∧S[q.at_]? =some 43):=by
  rw [zcQ]
  obtain ⟨n,htk,hf⟩:=h.tok
  constructor
  ·rintro ⟨hk,hti⟩
   refine ⟨h.no,?_⟩
   rw [ht] at hti
   simp at hti
   have hl:=zht _ htk
   simp [hk] at hl
   rw [hk,hl.2,hl.1] at htk
   rw [←hti.1]
   exact (zeG _ 43 3 (.inl ⟨rfl,rfl⟩)).2 htk
  ·rintro ⟨_,hc⟩
   by_cases hb:skipB (S.drop q.at_)=0
   ·have ha:s.at_=q.at_:=by rw [h.at_,hb];rfl
    have:=(zeG _ 43 3 (.inl ⟨rfl,rfl⟩)).1 hc
    rw [←ha,htk] at this
    simp at this
    exact ⟨this.1,by rw [ht,ha];simp [hq]⟩
   ·exfalso
    cases hs:S.drop q.at_ with
    | nil=>rw [hs] at hc;simp at hc
    | cons c r =>
      rw [hs] at hc hb
      simp at hc
      subst hc
      exact hb rfl
 -- the second half,from wherever the plus has led
 have rest:∀(s1:PS) (q1:RS) (later:Bool),Sim S s1 q1→s1.opn=s.opn →
   zg1 S s.opn (match pIs S zbL s1 with
    | .err a c=> .err a c
    | .ok false s2=> .ok (.mk 1 x later [] []) s2
    | .ok true s2 =>
      match zdr S s2 with
      | .err a c=> .err a c
      | .ok y s3=> .ok (.mk 1 x later y []) s3:Res Ex)
    (if q1.no=0 then
     match zbp S zbL q1 with
     | (t,s2)=>if t=true then (match zfi S s2 with | (y,s3)=>(.mk 1 x later y [],s3)) else (.mk 1 x later [] [],s2)
    else (.mk 1 x later [] [],q1)):=by
  intro s1 q1 later h1 ho1
  rw [if_pos h1.no]
  have hi:=zr0 h1 zbL zg9
  obtain ⟨t,q2,hq2⟩:∃t q2,zbp S zbL q1=(t,q2):=⟨_,_,rfl⟩
  rw [hq2] at hi ⊢
  cases hp:pIs S zbL s1 with
  | err a c =>
    rw [hp] at hi
    dsimp only [zg1] at hi ⊢
    cases t with
    | false=>exact hi
    | true =>
      rcases hi with ⟨hc,hn,hpp⟩ | ⟨hc,hd⟩
      ·exfalso
       rw [zcs h1 zbL zg9] at hq2
       split at hq2
       ·injection hq2 with _ hq2;subst hq2;exact hc (hn.symm.trans h1.no)
       ·injection hq2 with hq2 _;cases hq2
      ·subst hc
       obtain ⟨y,q3,hq3,he⟩:=zk7 hd
       simp only [if_true]
       rw [hq3];exact he
  | ok b s2 =>
    rw [hp] at hi
    dsimp only [zg1] at hi ⊢
    obtain ⟨hb,hs,hop⟩:=hi
    subst hb
    cases t with
    | false=>exact ⟨rfl,hs,hop.trans ho1⟩
    | true =>
      simp only [if_true]
      have hn:=zm8 hs
      cases hpn:zdr S s2 with
      | err a c =>
        rw [hpn] at hn
        obtain ⟨y,q3,hq3,he⟩:=hn
        rw [hq3];exact he
      | ok y s3 =>
        rw [hpn] at hn
        obtain ⟨q3,hq3,hs3,ho3,_⟩:=hn
        rw [hq3]
        exact ⟨rfl,hs3,ho3.trans (hop.trans ho1)⟩
 unfold zjC zhH
 by_cases hk:s.kind=3∧s.tight=true
 ·rw [if_pos hk,if_pos (hplus.1 hk)]
  have hfin:q.at_+1=s.fin:=by
   obtain ⟨n,htk,hf⟩:=h.tok
   have hl:=zht _ htk
   simp [hk.1] at hl
   have hti:=hk.2
   rw [ht] at hti
   simp at hti
   rw [hf (by rw [hk.1];decide),hl.1,hti.1]
  have hn:=zeN S s { q with at_:=q.at_+1 } h.no hfin
  cases hp:zb2 S s with
  | err a c =>
    rw [hp] at hn
    obtain ⟨rfl,hd⟩:=hn
    dsimp only [zg1]
    rw [if_pos h.no,zdT hd zbL zg9]
    exact .inr ⟨rfl,zkb hd⟩
  | ok u s' =>
    rw [hp] at hn
    exact rest s' _ true hn.1 hn.2.1
 ·rw [if_neg hk,if_neg (fun hc=>hk (hplus.2 hc))]
  exact rest s q false h rfl
theorem zch {S:Str}:∀d a q,Doom S a q→zlM S a 6 (zbz S d q).2:=by
 intro d a q h
 have hb:=h.blanks
 have key:zlM S a 6 (zhH S (zfi S (zb6 S 40 (zat S q)).2).1 (zfi S (zb6 S 40 (zat S q)).2).2).2:=by
  have h1:=zcI hb.1 40 4 (.inr (.inl ⟨rfl,rfl⟩))
  rw [h1]
  obtain ⟨x,q',hn,he⟩:=zk7 (zkb hb.1)
  dsimp only at hn ⊢
  rw [hn]
  rcases he with ⟨hc,hno,hp⟩ | ⟨_,hd⟩
  ·unfold zhH
   have hne:¬q'.no=0:=by rw [hno];exact hc
   rw [if_neg (fun hx=>hne hx.1)]
   dsimp only
   rw [if_neg hne]
   exact .inl ⟨hc,hno,hp⟩
  ·exact zkA x hd
 have h1:=zcI hb.1 40 4 (.inr (.inl ⟨rfl,rfl⟩))
 rw [h1] at key
 cases d<;>(unfold zbz;dsimp only;rw [h1];simpa using key)
theorem znP {S:Str} {s:PS} {q:RS} (h:Sim S s q) :
  zg1 S s.opn (match zdr S s with | .err a c=> .err a c | .ok name s1=>zjC S name s1:Res Ex) (zhH S (zfi S q).1 (zfi S q).2):=by
 have hn:=zm8 h
 cases hp:zdr S s with
 | err a c =>
   rw [hp] at hn
   obtain ⟨x,q',hq,he⟩:=hn
   rw [hq]
   dsimp only [zg1]
   rcases he with ⟨hc,hno,hpp⟩ | ⟨rfl,hd⟩
   ·unfold zhH
    have hne:¬q'.no=0:=by rw [hno];exact hc
    rw [if_neg (fun hx=>hne hx.1)]
    dsimp only
    rw [if_neg hne]
    exact .inl ⟨hc,hno,hpp⟩
   ·exact zkA x hd
 | ok x s1 =>
   rw [hp] at hn
   obtain ⟨q',hq,hs,ho,ht,h0⟩:=hn
   rw [hq]
   dsimp only
   have:=zqI hs ht h0 x
   rw [ho] at this
   exact this
theorem zn9 {S:Str}:∀d (s:PS) q,Sim S s q→s.opn+d=30→zg1 S s.opn (za9 S d s) (zbz S d q):=by
 intro d
 induction d with
 | zero =>
   intro s q h ho
   have hb:=h.blanks
   have h1:=zec hb.1 40 4 (.inr (.inl ⟨rfl,rfl⟩))
   unfold za9 zbz
   dsimp only
   by_cases hk:s.kind=4
   ·rw [if_pos hk,h1,if_pos hk]
    dsimp only
    refine .inl ⟨by decide,?_,?_⟩<;>simp [zen,zat,h.no]
    rw [h.at_]
   ·rw [if_neg hk,h1,if_neg hk]
    exact znP (zmT hb.1)
 | succ d ih =>
   intro s q h ho
   have hb:=h.blanks
   have h1:=zec hb.1 40 4 (.inr (.inl ⟨rfl,rfl⟩))
   unfold za9 zbz
   dsimp only
   by_cases hk:s.kind=4
   ·rw [if_pos hk,h1,if_pos hk]
    dsimp only
    rw [if_pos (rfl:true=true)]
    have hin:∀(s:PS) q,Sim S s q→s.opn=s.opn→s.opn+d=30→zg1 S s.opn (zg4 S 3 sOR (zg4 S 2 zfc (za9 S d)) s) (zc3 S 3 sOR (zc3 S 2 zfc (zbz S d)) q):=by
     intro s q hs _ hod
     refine zjx zmF s.opn _ _ (fun s1 q1 hs1 ho1=> ?_) (zeJ zgb (zch d)) s q hs rfl
     refine zjx zgb s.opn _ _ (fun s2 q2 hs2 ho2=> ?_) (zch d) s1 q1 hs1 ho1
     have:=ih s2 q2 hs2 (by omega)
     rwa [ho2] at this
    have hind:∀a q,Doom S a q→zlM S a 6 (zc3 S 3 sOR (zc3 S 2 zfc (zbz S d)) q).2:=zeJ zmF (zeJ zgb (zch d))
    have hn:=zeN S { s with opn:=s.opn+1 } { zat S q with at_:=s.fin } hb.1.no rfl
    generalize hq2:zc3 S 3 sOR (zc3 S 2 zfc (zbz S d)) { zat S q with at_:=s.fin }=r2
    obtain ⟨e,q2⟩:=r2
    cases hp:zb2 S { s with opn:=s.opn+1 } with
    | err a c =>
      rw [hp] at hn
      obtain ⟨rfl,hd⟩:=hn
      have:=hind _ _ hd
      rw [hq2] at this
      dsimp only [zg1] at this ⊢
      rcases this with ⟨hc,hno,hpp⟩ | ⟨hc,hd⟩
      ·rw [if_neg (by rw [hno];exact hc)];exact .inl ⟨hc,hno,hpp⟩
      ·rw [if_pos hd.no,zcI hd 41 5 (.inr (.inr ⟨rfl,rfl⟩))]
       refine .inl ⟨by decide,?_,?_⟩<;>simp [zen,hd.no]
    | ok u s1 =>
      rw [hp] at hn
      obtain ⟨hs1,ho1,_⟩:=hn
      dsimp only at ho1
      have h2:=hin s1 _ hs1 rfl (by omega)
      rw [hq2] at h2
      dsimp only
      cases hp2:zg4 S 3 sOR (zg4 S 2 zfc (za9 S d)) s1 with
      | err a c =>
        rw [hp2] at h2
        dsimp only [zg1] at h2 ⊢
        rcases h2 with ⟨hc,hno,hpp⟩ | ⟨hc,hd⟩
        ·rw [if_neg (by rw [hno];exact hc)];exact .inl ⟨hc,hno,hpp⟩
        ·subst hc
         rw [if_pos hd.no,zcI hd 41 5 (.inr (.inr ⟨rfl,rfl⟩))]
         refine .inl ⟨by decide,?_,?_⟩<;>simp [zen,hd.no]
      | ok e' s2 =>
        rw [hp2] at h2
        dsimp only [zg1] at h2
        obtain ⟨rfl,hs2,ho2⟩:=h2
        dsimp only
        rw [if_pos hs2.no,zec hs2 41 5 (.inr (.inr ⟨rfl,rfl⟩))]
        by_cases hk5:s2.kind=5
        ·rw [if_neg (by simp [hk5]),if_pos hk5]
         have hn3:=zeN S { s2 with opn:=s2.opn - 1 } { q2 with at_:=s2.fin } hs2.no rfl
         cases hp3:zb2 S { s2 with opn:=s2.opn - 1 } with
         | err a c=>rw [hp3] at hn3;exact .inr hn3
         | ok u s3 =>
           rw [hp3] at hn3
           refine ⟨rfl,hn3.1,?_⟩
           rw [hn3.2.1]
           dsimp only
           omega
        ·rw [if_pos hk5,if_neg hk5]
         dsimp only [zg1]
         refine .inl ⟨by decide,?_,?_⟩<;>simp [zen,hs2.no]
   ·rw [if_neg hk,h1,if_neg hk]
    exact znP (zmT hb.1)
theorem zm2 (S:Str) :
  match zhL S with
  | .ok e _=>∃q,zkS S=(e,q)∧q.no=0
  | .err a c=>c≠0∧∃e q,zkS S=(e,q)∧q.no=c∧q.pos=a:=by
 have h0:=zeN S ziO ⟨0,0,0⟩ rfl rfl
 have hind:∀a q,Doom S a q→zlM S a 6 (zc3 S 3 sOR (zc3 S 2 zfc (zbz S 30)) q).2:=zeJ zmF (zeJ zgb (zch 30))
 unfold zhL zkS
 generalize hq:zc3 S 3 sOR (zc3 S 2 zfc (zbz S 30)) ⟨0,0,0⟩=r
 obtain ⟨e,q⟩:=r
 dsimp only
 -- a zcf that the reference is about to find is found at the end
 have fin:∀(a:Nat) (c:Int),zlM S a c q→c≠0∧∃e' q',(if (zat S q).no=0∧(zat S q).at_<S.length then (e,zen (zat S q) (zat S q).at_ 6) else (e,zat S q))=(e',q')∧q'.no=c∧q'.pos=a:=by
  intro a c h
  rcases h with ⟨hc,hno,hp⟩ | ⟨rfl,hd⟩
  ·have:(zat S q).no=c:=hno
   rw [if_neg (fun hx=>hc (this.symm.trans hx.1))]
   exact ⟨hc,_,_,rfl,hno,hp⟩
  ·have hb:=hd.blanks
   have hlt:(zat S q).at_<S.length:=by
    rw [hb.2]
    rcases yBk a S.length with h | h
    ·exact h
    ·have:=hd.tok
     rw [yAx h] at this
     cases this
   rw [if_pos ⟨hb.1.no,hlt⟩]
   refine ⟨by decide,_,_,rfl,?_,?_⟩
   ·have:=hb.1.no;simp [zen,this]
   ·have:=hb.1.no;simp [zen,this];exact hb.2
 cases hp:zb2 S ziO with
 | err a c =>
   rw [hp] at h0
   obtain ⟨rfl,hd⟩:=h0
   have:=hind _ _ hd
   rw [hq] at this
   exact fin _ _ this
 | ok u s =>
   rw [hp] at h0
   obtain ⟨hs,ho,_⟩:=h0
   have ho0:s.opn=0:=ho
   have h2:zg1 S s.opn (zjE S 30 s) (zc3 S 3 sOR (zc3 S 2 zfc (zbz S 30)) ⟨0,0,0⟩):=by
    refine zjx zmF s.opn _ _ (fun s1 q1 hs1 ho1=> ?_) (zeJ zgb (zch 30)) s _ hs rfl
    refine zjx zgb s.opn _ _ (fun s2 q2 hs2 ho2=> ?_) (zch 30) s1 q1 hs1 ho1
    have:=zn9 30 s2 q2 hs2 (by omega)
    rwa [ho2] at this
   rw [hq] at h2
   dsimp only
   cases hp2:zjE S 30 s with
   | err a c =>
     rw [hp2] at h2
     exact fin _ _ h2
   | ok e' s2 =>
     rw [hp2] at h2
     dsimp only [zg1] at h2
     obtain ⟨rfl,hs2,_⟩:=h2
     dsimp only
     have hb:=hs2.blanks
     obtain ⟨n,htk,hf⟩:=hs2.tok
     by_cases hk:s2.kind=0
     ·rw [if_neg (by simp [hk])]
      dsimp only
      have hnil:S.drop s2.at_=[]:=(zsf _).2 ⟨_,_,by rw [←hk];exact htk⟩
      have hge:S.length≤s2.at_:=by simpa using hnil
      rw [if_neg (by rw [hb.2];omega)]
      exact ⟨_,rfl,hb.1.no⟩
     ·rw [if_pos hk]
      dsimp only
      have hlt:(zat S q).at_<S.length:=by
       rw [hb.2]
       rcases yBk s2.at_ S.length with h | h
       ·exact h
       ·exfalso
        rw [yAx h] at htk
        simp [zcH] at htk
        exact hk htk.1.symm
      rw [if_pos ⟨hb.1.no,hlt⟩]
      refine ⟨by decide,_,_,rfl,?_,?_⟩
      ·have:=hb.1.no;simp [zen,this]
      ·have:=hb.1.no;simp [zen,this];exact hb.2
end LicSpec
namespace LicSpec
mutual
def Ex.cnt:Ex→Nat
 | .mk _ _ _ _ kids=>1+zf8 kids
def zf8:List Ex→Nat
 | []=>0
 | e::r=>e.cnt+zf8 r
end
mutual
def Ex.lev:Ex→Nat
 | .mk _ _ _ _ kids=>ziV kids+1
def ziV:List Ex→Nat
 | []=>0
 | e::r=>max e.lev (ziV r)
end
mutual
def zeP:Ex→Nat→Nat×Nat
 | .mk _ _ _ _ kids,level=>if 30<level then (1,level) else zeV kids level (1,level)
def zeV:List Ex→Nat→Nat×Nat→Nat×Nat
 | [],_,a=>a
 | k::r,level,a=>zeV r level (min (a.1+(zeP k (level+1)).1) 201,max a.2 (zeP k (level+1)).2)
end
mutual
def zb7:Ex→Nat→Nat
 | .mk _ _ _ _ kids,most=>zcv kids most 1
def zcv:List Ex→Nat→Nat→Nat
 | [],_,n=>n
 | k::r,most,n=>if n≤most then zcv r most (n+zb7 k (most - n)) else n
end
def one:Ex→Int
 | .mk kind name later wth kids =>
   if kind<1∨3<kind then 7
   else if kind≠1 then (if name≠[]∨later=true∨wth≠[]∨kids.length<2 then 2 else 0)
   else if 0<kids.length then 2
   else if isName name=false∨(wth≠[]∧isName wth=false) then 8 else 0
mutual
def zcf:Ex→Int
 | .mk kind name later wth kids=>if one (.mk kind name later wth kids)≠0 then one (.mk kind name later wth kids) else zbF kids
def zbF:List Ex→Int
 | []=>0
 | k::r=>if zcf k≠0 then zcf k else zbF r
end
def chk (e:Ex):Int:=if 200<e.cnt∨30<e.lev then 3 else zcf e
theorem Ex.cnt_pos (e:Ex):1≤e.cnt:=by cases e;simp only [Ex.cnt];omega
theorem Ex.lev_pos (e:Ex):1≤e.lev:=by cases e;simp only [Ex.lev];omega
mutual
theorem zjM:∀(e:Ex) (level:Nat),1≤level→level≤31 →
  (1≤(zeP e level).1∧(zeP e level).1≤201∧level≤(zeP e level).2∧(zeP e level).2≤31)∧(30<(zeP e level).2↔30<level - 1+e.lev)∧((zeP e level).2≤30→(zeP e level).1=min e.cnt 201)
 | .mk _ _ _ _ kids,level,h1,h2=>by
   simp only [zeP,Ex.lev,Ex.cnt]
   by_cases h:30<level
   ·rw [if_pos h]
    refine ⟨⟨by simp,by simp,by simp,by simp;omega⟩,⟨fun _=>by omega,fun _=>by simpa using h⟩,fun hc=> ?_⟩
    simp at hc;omega
   ·rw [if_neg h]
    have:=zld kids level (1,level) h1 (by omega) (by simp) (by simp) (by simp) (by simp;omega)
    obtain ⟨⟨a,b,c,d⟩,l,p⟩:=this
    refine ⟨⟨a,b,c,d⟩,?_,?_⟩
    ·rw [l];simp;omega
    ·intro hc;rw [p hc]
theorem zld:∀(ks:List Ex) (level:Nat) (a:Nat×Nat),1≤level→level≤30→1≤a.1→a.1≤201→level≤a.2→a.2≤31 →
  (1≤(zeV ks level a).1∧(zeV ks level a).1≤201∧level≤(zeV ks level a).2∧(zeV ks level a).2≤31)∧(30<(zeV ks level a).2↔30<max a.2 (level+ziV ks))∧((zeV ks level a).2≤30→(zeV ks level a).1=min (a.1+zf8 ks) 201)
 | [],level,a,h1,h2,h3,h4,h5,h6=>by
   simp only [zeV,ziV,zf8]
   refine ⟨⟨h3,h4,h5,h6⟩,?_,fun _=>by omega⟩
   omega
 | k::r,level,a,h1,h2,h3,h4,h5,h6=>by
   simp only [zeV,ziV,zf8]
   obtain ⟨⟨a1,a2,a3,a4⟩,l,p⟩:=zjM k (level+1) (by omega) (by omega)
   generalize zeP k (level+1)=m at *
   have hr:=zld r level (min (a.1+m.1) 201,max a.2 m.2) h1 h2 (by dsimp only;omega) (by dsimp only;omega) (by dsimp only;omega) (by dsimp only;omega)
   obtain ⟨b,lr,pr⟩:=hr
   refine ⟨b,?_,?_⟩
   ·rw [lr];dsimp only
    constructor
    ·intro h;by_cases hm:30<m.2
     ·have:=l.1 hm;omega
     ·omega
    ·intro h;by_cases hm:30<m.2
     ·omega
     ·have:¬30<level+1 - 1+k.lev:=fun hx=>hm (l.2 hx)
      omega
   ·intro hc
    have hge:¬30<max (max a.2 m.2) (level+ziV r):=by
     intro hx;have:=lr.2 hx;omega
    have hm:m.2≤30:=by omega
    rw [pr hc];dsimp only
    rw [p hm];omega
end
mutual
theorem zkY:∀(e:Ex) (most:Nat),(most<zb7 e most↔most<e.cnt)∧(e.cnt≤most→zb7 e most=e.cnt)∧zb7 e most≤e.cnt∧1≤zb7 e most
 | .mk _ _ _ _ kids,most=>by
   simp only [zb7,Ex.cnt]
   have:=ziN kids most 1
   omega
theorem ziN:∀(ks:List Ex) (most n:Nat),(most<zcv ks most n↔most<n+zf8 ks)∧(n+zf8 ks≤most→zcv ks most n=n+zf8 ks)∧zcv ks most n≤n+zf8 ks∧n≤zcv ks most n
 | [],most,n=>by simp only [zcv,zf8];omega
 | k::r,most,n=>by
   simp only [zcv,zf8]
   split
   ·have h1:=zkY k (most - n)
    have h2:=ziN r most (n+zb7 k (most - n))
    have h3:=k.cnt_pos
    omega
   ·omega
end
theorem zmS (e:Ex):((30<(zeP e 1).2∨200<(zeP e 1).1)↔(200<e.cnt∨30<e.lev))∧(200<zb7 e 200↔200<e.cnt):=by
 have h:=zjM e 1 (by omega) (by omega)
 have hp:=zkY e 200
 refine ⟨?_,hp.1⟩
 obtain ⟨⟨a1,a2,a3,a4⟩,l,p⟩:=h
 by_cases hm:30<(zeP e 1).2
 ·have:=l.1 hm
  constructor
  ·intro _;right;omega
  ·intro _;left;exact hm
 ·have h1:=p (by omega)
  have h2:¬30<1 - 1+e.lev:=fun hx=>hm (l.2 hx)
  constructor
  ·intro h;left;omega
  ·intro h;right;omega
end LicSpec
namespace LicSpec
mutual
theorem zkZ:∀(e:Ex) (most:Nat),zb7 e most≤most+1
 | .mk _ _ _ _ kids,most=>by
   simp only [zb7]
   exact zk0 kids most 1 (by omega)
theorem zk0:∀(ks:List Ex) (most n:Nat),n≤most+1→zcv ks most n≤most+1
 | [],most,n,h=>by simpa only [zcv] using h
 | k::r,most,n,h=>by
   simp only [zcv]
   split
   ·have:=zkZ k (most - n)
    exact zk0 r most _ (by omega)
   ·exact h
end
theorem zmd (ks:List Ex) {most n:Nat} (h:most<n):zcv ks most n=n:=by
 cases ks with
 | nil=>rfl
 | cons k r=>simp only [zcv];rw [if_neg (by omega)]
theorem zp4:∀{ks:List Ex} {k:Ex},k∈ks→k.cnt≤zf8 ks
 | k0::r,k,h=>by
   simp only [zf8]
   rcases yAj.1 h with rfl | h
   ·omega
   ·have:=zp4 h;omega
end LicSpec
end
section
/- The program's structs as Lean structures: written by petab.py. -/
namespace Gt
structure A2_string where
 e0:(List UInt8)
 e1:(List UInt8)
structure A3_int32 where
 e0:Int
 e1:Int
 e2:Int
structure Exception where
 name:(List UInt8)
 for_:(List (List UInt8))
 lifts:(List (List UInt8))
structure LicenceRule where
 name:(List UInt8)
 family:(List UInt8)
 order:Int
 obligations:(List (List UInt8))
structure Catalog where
 licences:(List LicenceRule)
 exceptions:(List Exception)
 clashes:(List A2_string)
structure Use where
 name:(List UInt8)
 with_:(List UInt8)
structure Licence_fault where
 at_:Int
 code:Int
structure Licence_rank where
 family:(List UInt8)
 order:Int
structure Tok where
 kind:Int
 text:(List UInt8)
 at_:Int
 tight:Bool
structure Rdr where
 s:(List UInt8)
 end_ : Int
 now:Tok
 open_:Int
end Gt
end
section
/- Contracts of Go's library for seat ZD, laid by the kit's tool. -/
namespace Go.Proofs
open Go.Shelf
def Tryz.lays158_ren:Go.Shelf.Ren:=⟨fun | 158=>172 | 165=>125 | 166=>67 | 167=>200 | 169=>69 | 230=>201 | 203=>202 | 240=>107 | 241=>157 | 197=>216 | 118=>217 | 168=>218 | 270=>219 | 262=>220 | 276=>145 | 277=>186 | 260=>234 | 242=>235 | 313=>236 | 278=>248 | 274=>249 | 275=>250 | n=>n,fun | 9=>9 | 4=>4 | 3=>3 | 5=>5 | 72=>92 | 0=>0 | 76=>95 | 75=>94 | 107=>223 | 70=>89 | 20=>20 | 37=>90 | 127=>136 | 21=>21 | 105=>234 | 164=>170 | 162=>252 | 203=>250 | 119=>260 | 46=>151 | 139=>263 | 138=>262 | 51=>191 | 160=>264 | 208=>273 | 206=>271 | 80=>98 | n=>n,fun | 13=>1 | 3=>2 | 4=>3 | n=>n⟩
theorem Tryz.lays158:Go.Proofs.Lays.n158 Tryz.prog Tryz.lays158_ren:={
 mixed:=by kernel_rfl
 f118:=Tryz.func217.trans (congrArg some (by kernel_rfl))
 f158:=Tryz.func172.trans (congrArg some (by kernel_rfl))
 f165:=Tryz.func125.trans (congrArg some (by kernel_rfl))
 f166:=Tryz.func67.trans (congrArg some (by kernel_rfl))
 f167:=Tryz.func200.trans (congrArg some (by kernel_rfl))
 f168:=Tryz.func218.trans (congrArg some (by kernel_rfl))
 f169:=Tryz.func69.trans (congrArg some (by kernel_rfl))
 f197:=Tryz.func216.trans (congrArg some (by kernel_rfl))
 f203:=Tryz.func202.trans (congrArg some (by kernel_rfl))
 f230:=Tryz.func201.trans (congrArg some (by kernel_rfl))
 f240:=Tryz.func107.trans (congrArg some (by kernel_rfl))
 f241:=Tryz.func157.trans (congrArg some (by kernel_rfl))
 f242:=Tryz.func235.trans (congrArg some (by kernel_rfl))
 f260:=Tryz.func234.trans (congrArg some (by kernel_rfl))
 f262:=Tryz.func220.trans (congrArg some (by kernel_rfl))
 f270:=Tryz.func219.trans (congrArg some (by kernel_rfl))
 f274:=Tryz.func249.trans (congrArg some (by kernel_rfl))
 f275:=Tryz.func250.trans (congrArg some (by kernel_rfl))
 f276:=Tryz.func145.trans (congrArg some (by kernel_rfl))
 f277:=Tryz.func186.trans (congrArg some (by kernel_rfl))
 f278:=Tryz.func248.trans (congrArg some (by kernel_rfl))
 f313:=Tryz.func236.trans (congrArg some (by kernel_rfl))
 t0:=Tryz.underlying0
 a0:=Tryz.isAgg0
 z0:=Tryz.sizeOf0
 v0:=Tryz.zeroValue0
 t3:=Tryz.underlying3
 a3:=Tryz.isAgg3
 z3:=Tryz.sizeOf3
 v3:=Tryz.zeroValue3
 t4:=Tryz.underlying4
 a4:=Tryz.isAgg4
 z4:=Tryz.sizeOf4
 v4:=Tryz.zeroValue4
 t5:=Tryz.underlying5
 a5:=Tryz.isAgg5
 z5:=Tryz.sizeOf5
 v5:=Tryz.zeroValue5
 t9:=Tryz.underlying9
 a9:=Tryz.isAgg9
 z9:=Tryz.sizeOf9
 v9:=Tryz.zeroValue9
 t20:=Tryz.underlying20
 a20:=Tryz.isAgg20
 z20:=Tryz.sizeOf20
 v20:=Tryz.zeroValue20
 t21:=Tryz.underlying21
 a21:=Tryz.isAgg21
 z21:=Tryz.sizeOf21
 v21:=Tryz.zeroValue21
 t37:=Tryz.underlying90
 a37:=Tryz.isAgg90
 z37:=Tryz.sizeOf90
 v37:=Tryz.zeroValue90
 t46:=Tryz.underlying151
 a46:=Tryz.isAgg151
 z46:=Tryz.sizeOf151
 v46:=Tryz.zeroValue151
 t51:=Tryz.underlying191
 a51:=Tryz.isAgg191
 z51:=Tryz.sizeOf191
 v51:=Tryz.zeroValue191
 t70:=Tryz.underlying89
 a70:=Tryz.isAgg89
 z70:=Tryz.sizeOf89
 v70:=Tryz.zeroValue89
 t72:=Tryz.underlying92
 a72:=Tryz.isAgg92
 z72:=Tryz.sizeOf92
 v72:=Tryz.zeroValue92
 t75:=Tryz.underlying94
 a75:=Tryz.isAgg94
 z75:=Tryz.sizeOf94
 v75:=Tryz.zeroValue94
 t76:=Tryz.underlying95
 a76:=Tryz.isAgg95
 z76:=Tryz.sizeOf95
 v76:=Tryz.zeroValue95
 t105:=Tryz.underlying234
 a105:=Tryz.isAgg234
 z105:=Tryz.sizeOf234
 v105:=Tryz.zeroValue234
 t107:=Tryz.underlying223
 a107:=Tryz.isAgg223
 z107:=Tryz.sizeOf223
 v107:=Tryz.zeroValue223
 t119:=Tryz.underlying260
 a119:=Tryz.isAgg260
 z119:=Tryz.sizeOf260
 t127:=Tryz.underlying136
 a127:=Tryz.isAgg136
 z127:=Tryz.sizeOf136
 v127:=Tryz.zeroValue136
 t138:=Tryz.underlying262
 a138:=Tryz.isAgg262
 z138:=Tryz.sizeOf262
 v138:=Tryz.zeroValue262
 t139:=Tryz.underlying263
 a139:=Tryz.isAgg263
 z139:=Tryz.sizeOf263
 v139:=Tryz.zeroValue263
 t160:=Tryz.underlying264
 a160:=Tryz.isAgg264
 z160:=Tryz.sizeOf264
 v160:=Tryz.zeroValue264
 t162:=Tryz.underlying252
 a162:=Tryz.isAgg252
 z162:=Tryz.sizeOf252
 v162:=Tryz.zeroValue252
 t164:=Tryz.underlying170
 a164:=Tryz.isAgg170
 z164:=Tryz.sizeOf170
 v164:=Tryz.zeroValue170
 t203:=Tryz.underlying250
 a203:=Tryz.isAgg250
 z203:=Tryz.sizeOf250
 v203:=Tryz.zeroValue250
 t206:=Tryz.underlying271
 a206:=Tryz.isAgg271
 z206:=Tryz.sizeOf271
 v206:=Tryz.zeroValue271
 t208:=Tryz.underlying273
 a208:=Tryz.isAgg273
 z208:=Tryz.sizeOf273
 v208:=Tryz.zeroValue273
 g3:=by kernel_rfl
 g4:=by kernel_rfl
 g13:=by kernel_rfl }
theorem Tryz.Builder_Extra_158:Builder.Extra Tryz.prog Tryz.lays158_ren:={
 sizeBuilder:=by kernel_rfl
 liesBuilder:=by kernel_rfl
 t5:=Tryz.underlying5
 a5:=Tryz.isAgg5
 z5:=Tryz.sizeOf5
 v5:=Tryz.zeroValue5
 infoByte:=by kernel_rfl
 cellsByte:=by kernel_rfl
 sizeByte:=by kernel_rfl
 neB5:=by decide }
open Go.RowKit in
theorem Tryz.strings_ToUpper_ascii (s:ByteArray) (w:World) (hs:s.size≤140737488355328) (hascii:∀(j:Nat) (b:UInt8),s.data.toList[j]? =some b→b.toNat<128) :
  Calls Tryz.prog 172 #[.string s] w fun e w'=>e= .returned (.string ⟨(Lib.toUpperA s.data.toList).toArray⟩)∧Below w.heap.size w w':=Any.strings_ToUpper_ascii Tryz.lays158 Tryz.Builder_Extra_158 s w hs hascii
def Tryz.lays156_ren:Go.Shelf.Ren:=⟨fun | 156=>89 | 165=>125 | 166=>67 | 169=>69 | 240=>107 | 241=>157 | 276=>145 | 277=>186 | n=>n,fun | 31=>30 | 9=>9 | 3=>3 | 4=>4 | 0=>0 | 20=>20 | 72=>92 | 76=>95 | 70=>89 | 37=>90 | 75=>94 | 127=>136 | 164=>170 | 5=>5 | 80=>98 | n=>n,fun | n=>n⟩
theorem Tryz.lays156:Go.Proofs.Lays.n156 Tryz.prog Tryz.lays156_ren:={
 mixed:=by kernel_rfl
 f156:=Tryz.func89.trans (congrArg some (by kernel_rfl))
 f165:=Tryz.func125.trans (congrArg some (by kernel_rfl))
 f166:=Tryz.func67.trans (congrArg some (by kernel_rfl))
 f169:=Tryz.func69.trans (congrArg some (by kernel_rfl))
 f240:=Tryz.func107.trans (congrArg some (by kernel_rfl))
 f241:=Tryz.func157.trans (congrArg some (by kernel_rfl))
 f276:=Tryz.func145.trans (congrArg some (by kernel_rfl))
 f277:=Tryz.func186.trans (congrArg some (by kernel_rfl))
 t0:=Tryz.underlying0
 a0:=Tryz.isAgg0
 z0:=Tryz.sizeOf0
 v0:=Tryz.zeroValue0
 t3:=Tryz.underlying3
 a3:=Tryz.isAgg3
 z3:=Tryz.sizeOf3
 v3:=Tryz.zeroValue3
 t4:=Tryz.underlying4
 a4:=Tryz.isAgg4
 z4:=Tryz.sizeOf4
 v4:=Tryz.zeroValue4
 t9:=Tryz.underlying9
 a9:=Tryz.isAgg9
 z9:=Tryz.sizeOf9
 v9:=Tryz.zeroValue9
 t20:=Tryz.underlying20
 a20:=Tryz.isAgg20
 z20:=Tryz.sizeOf20
 v20:=Tryz.zeroValue20
 t31:=Tryz.underlying30
 a31:=Tryz.isAgg30
 z31:=Tryz.sizeOf30
 v31:=Tryz.zeroValue30
 t37:=Tryz.underlying90
 a37:=Tryz.isAgg90
 z37:=Tryz.sizeOf90
 v37:=Tryz.zeroValue90
 t70:=Tryz.underlying89
 a70:=Tryz.isAgg89
 z70:=Tryz.sizeOf89
 v70:=Tryz.zeroValue89
 t72:=Tryz.underlying92
 a72:=Tryz.isAgg92
 z72:=Tryz.sizeOf92
 v72:=Tryz.zeroValue92
 t75:=Tryz.underlying94
 a75:=Tryz.isAgg94
 z75:=Tryz.sizeOf94
 v75:=Tryz.zeroValue94
 t76:=Tryz.underlying95
 a76:=Tryz.isAgg95
 z76:=Tryz.sizeOf95
 v76:=Tryz.zeroValue95
 t127:=Tryz.underlying136
 a127:=Tryz.isAgg136
 z127:=Tryz.sizeOf136
 v127:=Tryz.zeroValue136
 t164:=Tryz.underlying170
 a164:=Tryz.isAgg170
 z164:=Tryz.sizeOf170
 v164:=Tryz.zeroValue170 }
theorem Tryz.Builder_Extra_156:Builder.Extra Tryz.prog Tryz.lays156_ren:={
 sizeBuilder:=by kernel_rfl
 liesBuilder:=by kernel_rfl
 t5:=Tryz.underlying5
 a5:=Tryz.isAgg5
 z5:=Tryz.sizeOf5
 v5:=Tryz.zeroValue5
 infoByte:=by kernel_rfl
 cellsByte:=by kernel_rfl
 sizeByte:=by kernel_rfl
 neB5:=by decide }
open Go.RowKit in
theorem Tryz.strings_Join_none (a:Option Addr) (c:Nat) (sep:ByteArray) (w:World) :
  Calls Tryz.prog 89 #[.slice a 0 c,.string sep] w fun e w'=>e= .returned (.string ⟨#[]⟩)∧w'=w:=Any.strings_Join_none Tryz.lays156 Tryz.Builder_Extra_156 a c sep w
open Go.RowKit in
theorem Tryz.strings_Join (bk o c:Nat) (xs:List ByteArray) (sep:ByteArray) (w:World) (hcells:∀(j:Nat) x,xs[j]? =some x→w.cell? ⟨bk,o+j,none⟩=some (.string x)) (hbk:bk<w.heap.size) (hN:xs.length≤140737488355328) (hcap:xs.length≤c) (hlen:(Lib.join (xs.map (·.data.toList)) sep.data.toList).length≤140737488355328) :
  Calls Tryz.prog 89 #[.slice (some ⟨bk,o,none⟩) xs.length c,.string sep] w fun e w'=>e= .returned (.string ⟨(Lib.join (xs.map (·.data.toList)) sep.data.toList).toArray⟩)∧Below w.heap.size w w':=Any.strings_Join Tryz.lays156 Tryz.Builder_Extra_156 bk o c xs sep w hcells hbk hN hcap hlen
def Tryz.sort91_ren:Go.Shelf.Ren:=⟨fun | 6=>91 | 15=>127 | 14=>126 | 28=>166 | 29=>167 | 20=>158 | 21=>159 | 22=>160 | 23=>161 | 24=>162 | 25=>163 | 26=>164 | 27=>165 | 46=>187 | 47=>188 | 48=>189 | 49=>190 | 50=>191 | 57=>212 | n=>n,fun | 22=>22 | 24=>24 | 25=>116 | 3=>3 | 39=>151 | 0=>0 | 53=>191 | 55=>193 | 4=>4 | 46=>184 | 45=>183 | 50=>188 | 5=>5 | 9=>9 | 66=>210 | 70=>214 | 76=>230 | 77=>78 | n=>n,fun | n=>n⟩
theorem Tryz.sort91:Go.Proofs.SlLaysF0.n6 Tryz.prog Tryz.sort91_ren:={
 mixed:=by kernel_rfl
 f6:=⟨Tryz.f91.name,by decide,Tryz.func91.trans (congrArg some (by kernel_rfl))⟩
 f14:=⟨Tryz.f126.name,by decide,Tryz.func126.trans (congrArg some (by kernel_rfl))⟩
 f15:=Tryz.func127.trans (congrArg some (by kernel_rfl))
 f20:=⟨Tryz.f158.name,by decide,Tryz.func158.trans (congrArg some (by kernel_rfl))⟩
 f21:=⟨Tryz.f159.name,by decide,Tryz.func159.trans (congrArg some (by kernel_rfl))⟩
 f22:=⟨Tryz.f160.name,by decide,Tryz.func160.trans (congrArg some (by kernel_rfl))⟩
 f23:=⟨Tryz.f161.name,by decide,Tryz.func161.trans (congrArg some (by kernel_rfl))⟩
 f24:=⟨Tryz.f162.name,by decide,Tryz.func162.trans (congrArg some (by kernel_rfl))⟩
 f25:=⟨Tryz.f163.name,by decide,Tryz.func163.trans (congrArg some (by kernel_rfl))⟩
 f26:=⟨Tryz.f164.name,by decide,Tryz.func164.trans (congrArg some (by kernel_rfl))⟩
 f27:=⟨Tryz.f165.name,by decide,Tryz.func165.trans (congrArg some (by kernel_rfl))⟩
 f28:=Tryz.func166.trans (congrArg some (by kernel_rfl))
 f29:=Tryz.func167.trans (congrArg some (by kernel_rfl))
 f46:=⟨Tryz.f187.name,by decide,Tryz.func187.trans (congrArg some (by kernel_rfl))⟩
 f47:=Tryz.func188.trans (congrArg some (by kernel_rfl))
 f48:=Tryz.func189.trans (congrArg some (by kernel_rfl))
 f49:=⟨Tryz.f190.name,by decide,Tryz.func190.trans (congrArg some (by kernel_rfl))⟩
 f50:=⟨Tryz.f191.name,by decide,Tryz.func191.trans (congrArg some (by kernel_rfl))⟩
 f57:=⟨Tryz.f212.name,by decide,Tryz.func212.trans (congrArg some (by kernel_rfl))⟩
 t0:=Tryz.underlying0
 a0:=Tryz.isAgg0
 z0:=Tryz.sizeOf0
 v0:=Tryz.zeroValue0
 t3:=Tryz.underlying3
 a3:=Tryz.isAgg3
 z3:=Tryz.sizeOf3
 v3:=Tryz.zeroValue3
 t4:=Tryz.underlying4
 a4:=Tryz.isAgg4
 z4:=Tryz.sizeOf4
 v4:=Tryz.zeroValue4
 t5:=Tryz.underlying5
 a5:=Tryz.isAgg5
 z5:=Tryz.sizeOf5
 v5:=Tryz.zeroValue5
 t9:=Tryz.underlying9
 a9:=Tryz.isAgg9
 z9:=Tryz.sizeOf9
 v9:=Tryz.zeroValue9
 t22:=Tryz.underlying22
 a22:=Tryz.isAgg22
 z22:=Tryz.sizeOf22
 v22:=Tryz.zeroValue22
 t25:=Tryz.underlying116
 a25:=Tryz.isAgg116
 z25:=Tryz.sizeOf116
 v25:=Tryz.zeroValue116
 t39:=Tryz.underlying151
 a39:=Tryz.isAgg151
 z39:=Tryz.sizeOf151
 v39:=Tryz.zeroValue151
 t45:=Tryz.underlying183
 a45:=Tryz.isAgg183
 z45:=Tryz.sizeOf183
 v45:=Tryz.zeroValue183
 t46:=Tryz.underlying184
 a46:=Tryz.isAgg184
 z46:=Tryz.sizeOf184
 v46:=Tryz.zeroValue184
 t50:=Tryz.underlying188
 a50:=Tryz.isAgg188
 z50:=Tryz.sizeOf188
 v50:=Tryz.zeroValue188
 t53:=Tryz.underlying191
 a53:=Tryz.isAgg191
 z53:=Tryz.sizeOf191
 v53:=Tryz.zeroValue191
 t55:=Tryz.underlying193
 a55:=Tryz.isAgg193
 z55:=Tryz.sizeOf193
 v55:=Tryz.zeroValue193
 t66:=Tryz.underlying210
 a66:=Tryz.isAgg210
 z66:=Tryz.sizeOf210
 v66:=Tryz.zeroValue210
 t70:=Tryz.underlying214
 a70:=Tryz.isAgg214
 z70:=Tryz.sizeOf214
 v70:=Tryz.zeroValue214
 t76:=Tryz.underlying230
 a76:=Tryz.isAgg230
 z76:=Tryz.sizeOf230
 v76:=Tryz.zeroValue230
 t77:=Tryz.underlying78
 a77:=Tryz.isAgg78
 z77:=Tryz.sizeOf78
 v77:=Tryz.zeroValue78 }
def Tryz.sort210_ren:Go.Shelf.Ren:=⟨fun | 6=>210 | 15=>127 | 14=>232 | 28=>166 | 29=>167 | 20=>240 | 21=>241 | 22=>242 | 23=>243 | 24=>244 | 25=>245 | 26=>246 | 27=>247 | 46=>252 | 47=>188 | 48=>189 | 49=>253 | 50=>254 | 57=>255 | n=>n,fun | 22=>43 | 24=>64 | 25=>181 | 3=>3 | 39=>151 | 0=>0 | 53=>191 | 55=>193 | 4=>4 | 46=>184 | 45=>183 | 50=>188 | 5=>5 | 9=>9 | 66=>210 | 70=>214 | 76=>230 | 77=>78 | n=>n,fun | n=>n⟩
theorem Tryz.sort210:Go.Proofs.SlLaysF0.n6 Tryz.prog Tryz.sort210_ren:={
 mixed:=by kernel_rfl
 f6:=⟨Tryz.f210.name,by decide,Tryz.func210.trans (congrArg some (by kernel_rfl))⟩
 f14:=⟨Tryz.f232.name,by decide,Tryz.func232.trans (congrArg some (by kernel_rfl))⟩
 f15:=Tryz.func127.trans (congrArg some (by kernel_rfl))
 f20:=⟨Tryz.f240.name,by decide,Tryz.func240.trans (congrArg some (by kernel_rfl))⟩
 f21:=⟨Tryz.f241.name,by decide,Tryz.func241.trans (congrArg some (by kernel_rfl))⟩
 f22:=⟨Tryz.f242.name,by decide,Tryz.func242.trans (congrArg some (by kernel_rfl))⟩
 f23:=⟨Tryz.f243.name,by decide,Tryz.func243.trans (congrArg some (by kernel_rfl))⟩
 f24:=⟨Tryz.f244.name,by decide,Tryz.func244.trans (congrArg some (by kernel_rfl))⟩
 f25:=⟨Tryz.f245.name,by decide,Tryz.func245.trans (congrArg some (by kernel_rfl))⟩
 f26:=⟨Tryz.f246.name,by decide,Tryz.func246.trans (congrArg some (by kernel_rfl))⟩
 f27:=⟨Tryz.f247.name,by decide,Tryz.func247.trans (congrArg some (by kernel_rfl))⟩
 f28:=Tryz.func166.trans (congrArg some (by kernel_rfl))
 f29:=Tryz.func167.trans (congrArg some (by kernel_rfl))
 f46:=⟨Tryz.f252.name,by decide,Tryz.func252.trans (congrArg some (by kernel_rfl))⟩
 f47:=Tryz.func188.trans (congrArg some (by kernel_rfl))
 f48:=Tryz.func189.trans (congrArg some (by kernel_rfl))
 f49:=⟨Tryz.f253.name,by decide,Tryz.func253.trans (congrArg some (by kernel_rfl))⟩
 f50:=⟨Tryz.f254.name,by decide,Tryz.func254.trans (congrArg some (by kernel_rfl))⟩
 f57:=⟨Tryz.f255.name,by decide,Tryz.func255.trans (congrArg some (by kernel_rfl))⟩
 t0:=Tryz.underlying0
 a0:=Tryz.isAgg0
 z0:=Tryz.sizeOf0
 v0:=Tryz.zeroValue0
 t3:=Tryz.underlying3
 a3:=Tryz.isAgg3
 z3:=Tryz.sizeOf3
 v3:=Tryz.zeroValue3
 t4:=Tryz.underlying4
 a4:=Tryz.isAgg4
 z4:=Tryz.sizeOf4
 v4:=Tryz.zeroValue4
 t5:=Tryz.underlying5
 a5:=Tryz.isAgg5
 z5:=Tryz.sizeOf5
 v5:=Tryz.zeroValue5
 t9:=Tryz.underlying9
 a9:=Tryz.isAgg9
 z9:=Tryz.sizeOf9
 v9:=Tryz.zeroValue9
 t22:=Tryz.underlying43
 a22:=Tryz.isAgg43
 z22:=Tryz.sizeOf43
 v22:=Tryz.zeroValue43
 t25:=Tryz.underlying181
 a25:=Tryz.isAgg181
 z25:=Tryz.sizeOf181
 v25:=Tryz.zeroValue181
 t39:=Tryz.underlying151
 a39:=Tryz.isAgg151
 z39:=Tryz.sizeOf151
 v39:=Tryz.zeroValue151
 t45:=Tryz.underlying183
 a45:=Tryz.isAgg183
 z45:=Tryz.sizeOf183
 v45:=Tryz.zeroValue183
 t46:=Tryz.underlying184
 a46:=Tryz.isAgg184
 z46:=Tryz.sizeOf184
 v46:=Tryz.zeroValue184
 t50:=Tryz.underlying188
 a50:=Tryz.isAgg188
 z50:=Tryz.sizeOf188
 v50:=Tryz.zeroValue188
 t53:=Tryz.underlying191
 a53:=Tryz.isAgg191
 z53:=Tryz.sizeOf191
 v53:=Tryz.zeroValue191
 t55:=Tryz.underlying193
 a55:=Tryz.isAgg193
 z55:=Tryz.sizeOf193
 v55:=Tryz.zeroValue193
 t66:=Tryz.underlying210
 a66:=Tryz.isAgg210
 z66:=Tryz.sizeOf210
 v66:=Tryz.zeroValue210
 t70:=Tryz.underlying214
 a70:=Tryz.isAgg214
 z70:=Tryz.sizeOf214
 v70:=Tryz.zeroValue214
 t76:=Tryz.underlying230
 a76:=Tryz.isAgg230
 z76:=Tryz.sizeOf230
 v76:=Tryz.zeroValue230
 t77:=Tryz.underlying78
 a77:=Tryz.isAgg78
 z77:=Tryz.sizeOf78
 v77:=Tryz.zeroValue78 }
def Tryz.sort131_ren:Go.Shelf.Ren:=⟨fun | 6=>131 | 15=>127 | 14=>169 | 28=>166 | 29=>167 | 20=>192 | 21=>193 | 22=>194 | 23=>195 | 24=>196 | 25=>197 | 26=>198 | 27=>199 | 46=>213 | 47=>188 | 48=>189 | 49=>214 | 50=>215 | 57=>233 | n=>n,fun | 22=>30 | 24=>9 | 25=>115 | 3=>3 | 39=>151 | 0=>0 | 53=>191 | 55=>193 | 4=>4 | 46=>184 | 45=>183 | 50=>188 | 5=>5 | 9=>9 | 66=>210 | 70=>214 | 76=>230 | 77=>78 | n=>n,fun | n=>n⟩
theorem Tryz.sort131:Go.Proofs.SlLaysF.n6 Tryz.prog Tryz.sort131_ren:={
 mixed:=by kernel_rfl
 f6:=⟨Tryz.f131.name,by decide,Tryz.func131.trans (congrArg some (by kernel_rfl))⟩
 f14:=⟨Tryz.f169.name,by decide,Tryz.func169.trans (congrArg some (by kernel_rfl))⟩
 f15:=Tryz.func127.trans (congrArg some (by kernel_rfl))
 f20:=⟨Tryz.f192.name,by decide,Tryz.func192.trans (congrArg some (by kernel_rfl))⟩
 f21:=⟨Tryz.f193.name,by decide,Tryz.func193.trans (congrArg some (by kernel_rfl))⟩
 f22:=⟨Tryz.f194.name,by decide,Tryz.func194.trans (congrArg some (by kernel_rfl))⟩
 f23:=⟨Tryz.f195.name,by decide,Tryz.func195.trans (congrArg some (by kernel_rfl))⟩
 f24:=⟨Tryz.f196.name,by decide,Tryz.func196.trans (congrArg some (by kernel_rfl))⟩
 f25:=⟨Tryz.f197.name,by decide,Tryz.func197.trans (congrArg some (by kernel_rfl))⟩
 f26:=⟨Tryz.f198.name,by decide,Tryz.func198.trans (congrArg some (by kernel_rfl))⟩
 f27:=⟨Tryz.f199.name,by decide,Tryz.func199.trans (congrArg some (by kernel_rfl))⟩
 f28:=Tryz.func166.trans (congrArg some (by kernel_rfl))
 f29:=Tryz.func167.trans (congrArg some (by kernel_rfl))
 f46:=⟨Tryz.f213.name,by decide,Tryz.func213.trans (congrArg some (by kernel_rfl))⟩
 f47:=Tryz.func188.trans (congrArg some (by kernel_rfl))
 f48:=Tryz.func189.trans (congrArg some (by kernel_rfl))
 f49:=⟨Tryz.f214.name,by decide,Tryz.func214.trans (congrArg some (by kernel_rfl))⟩
 f50:=⟨Tryz.f215.name,by decide,Tryz.func215.trans (congrArg some (by kernel_rfl))⟩
 f57:=⟨Tryz.f233.name,by decide,Tryz.func233.trans (congrArg some (by kernel_rfl))⟩
 t0:=Tryz.underlying0
 a0:=Tryz.isAgg0
 z0:=Tryz.sizeOf0
 v0:=Tryz.zeroValue0
 t3:=Tryz.underlying3
 a3:=Tryz.isAgg3
 z3:=Tryz.sizeOf3
 v3:=Tryz.zeroValue3
 t4:=Tryz.underlying4
 a4:=Tryz.isAgg4
 z4:=Tryz.sizeOf4
 v4:=Tryz.zeroValue4
 t5:=Tryz.underlying5
 a5:=Tryz.isAgg5
 z5:=Tryz.sizeOf5
 v5:=Tryz.zeroValue5
 t9:=Tryz.underlying9
 a9:=Tryz.isAgg9
 z9:=Tryz.sizeOf9
 v9:=Tryz.zeroValue9
 t22:=Tryz.underlying30
 a22:=Tryz.isAgg30
 z22:=Tryz.sizeOf30
 v22:=Tryz.zeroValue30
 a24:=Tryz.isAgg9
 z24:=Tryz.sizeOf9
 t25:=Tryz.underlying115
 a25:=Tryz.isAgg115
 z25:=Tryz.sizeOf115
 v25:=Tryz.zeroValue115
 t39:=Tryz.underlying151
 a39:=Tryz.isAgg151
 z39:=Tryz.sizeOf151
 v39:=Tryz.zeroValue151
 t45:=Tryz.underlying183
 a45:=Tryz.isAgg183
 z45:=Tryz.sizeOf183
 v45:=Tryz.zeroValue183
 t46:=Tryz.underlying184
 a46:=Tryz.isAgg184
 z46:=Tryz.sizeOf184
 v46:=Tryz.zeroValue184
 t50:=Tryz.underlying188
 a50:=Tryz.isAgg188
 z50:=Tryz.sizeOf188
 v50:=Tryz.zeroValue188
 t53:=Tryz.underlying191
 a53:=Tryz.isAgg191
 z53:=Tryz.sizeOf191
 v53:=Tryz.zeroValue191
 t55:=Tryz.underlying193
 a55:=Tryz.isAgg193
 z55:=Tryz.sizeOf193
 v55:=Tryz.zeroValue193
 t66:=Tryz.underlying210
 a66:=Tryz.isAgg210
 z66:=Tryz.sizeOf210
 v66:=Tryz.zeroValue210
 t70:=Tryz.underlying214
 a70:=Tryz.isAgg214
 z70:=Tryz.sizeOf214
 v70:=Tryz.zeroValue214
 t76:=Tryz.underlying230
 a76:=Tryz.isAgg230
 z76:=Tryz.sizeOf230
 v76:=Tryz.zeroValue230
 t77:=Tryz.underlying78
 a77:=Tryz.isAgg78
 z77:=Tryz.sizeOf78
 v77:=Tryz.zeroValue78 }
def Tryz.sort179_ren:Go.Shelf.Ren:=⟨fun | 6=>179 | 15=>127 | 14=>205 | 28=>166 | 29=>167 | 20=>222 | 21=>223 | 22=>224 | 23=>225 | 24=>226 | 25=>227 | 26=>228 | 27=>229 | 46=>237 | 47=>188 | 48=>189 | 49=>238 | 50=>239 | 57=>251 | n=>n,fun | 22=>57 | 24=>43 | 25=>180 | 3=>3 | 39=>151 | 0=>0 | 53=>191 | 55=>193 | 4=>4 | 46=>184 | 45=>183 | 50=>188 | 5=>5 | 9=>9 | 66=>210 | 70=>214 | 76=>230 | 77=>78 | n=>n,fun | n=>n⟩
theorem Tryz.sort179:Go.Proofs.SlLaysF.n6 Tryz.prog Tryz.sort179_ren:={
 mixed:=by kernel_rfl
 f6:=⟨Tryz.f179.name,by decide,Tryz.func179.trans (congrArg some (by kernel_rfl))⟩
 f14:=⟨Tryz.f205.name,by decide,Tryz.func205.trans (congrArg some (by kernel_rfl))⟩
 f15:=Tryz.func127.trans (congrArg some (by kernel_rfl))
 f20:=⟨Tryz.f222.name,by decide,Tryz.func222.trans (congrArg some (by kernel_rfl))⟩
 f21:=⟨Tryz.f223.name,by decide,Tryz.func223.trans (congrArg some (by kernel_rfl))⟩
 f22:=⟨Tryz.f224.name,by decide,Tryz.func224.trans (congrArg some (by kernel_rfl))⟩
 f23:=⟨Tryz.f225.name,by decide,Tryz.func225.trans (congrArg some (by kernel_rfl))⟩
 f24:=⟨Tryz.f226.name,by decide,Tryz.func226.trans (congrArg some (by kernel_rfl))⟩
 f25:=⟨Tryz.f227.name,by decide,Tryz.func227.trans (congrArg some (by kernel_rfl))⟩
 f26:=⟨Tryz.f228.name,by decide,Tryz.func228.trans (congrArg some (by kernel_rfl))⟩
 f27:=⟨Tryz.f229.name,by decide,Tryz.func229.trans (congrArg some (by kernel_rfl))⟩
 f28:=Tryz.func166.trans (congrArg some (by kernel_rfl))
 f29:=Tryz.func167.trans (congrArg some (by kernel_rfl))
 f46:=⟨Tryz.f237.name,by decide,Tryz.func237.trans (congrArg some (by kernel_rfl))⟩
 f47:=Tryz.func188.trans (congrArg some (by kernel_rfl))
 f48:=Tryz.func189.trans (congrArg some (by kernel_rfl))
 f49:=⟨Tryz.f238.name,by decide,Tryz.func238.trans (congrArg some (by kernel_rfl))⟩
 f50:=⟨Tryz.f239.name,by decide,Tryz.func239.trans (congrArg some (by kernel_rfl))⟩
 f57:=⟨Tryz.f251.name,by decide,Tryz.func251.trans (congrArg some (by kernel_rfl))⟩
 t0:=Tryz.underlying0
 a0:=Tryz.isAgg0
 z0:=Tryz.sizeOf0
 v0:=Tryz.zeroValue0
 t3:=Tryz.underlying3
 a3:=Tryz.isAgg3
 z3:=Tryz.sizeOf3
 v3:=Tryz.zeroValue3
 t4:=Tryz.underlying4
 a4:=Tryz.isAgg4
 z4:=Tryz.sizeOf4
 v4:=Tryz.zeroValue4
 t5:=Tryz.underlying5
 a5:=Tryz.isAgg5
 z5:=Tryz.sizeOf5
 v5:=Tryz.zeroValue5
 t9:=Tryz.underlying9
 a9:=Tryz.isAgg9
 z9:=Tryz.sizeOf9
 v9:=Tryz.zeroValue9
 t22:=Tryz.underlying57
 a22:=Tryz.isAgg57
 z22:=Tryz.sizeOf57
 v22:=Tryz.zeroValue57
 a24:=Tryz.isAgg43
 z24:=Tryz.sizeOf43
 t25:=Tryz.underlying180
 a25:=Tryz.isAgg180
 z25:=Tryz.sizeOf180
 v25:=Tryz.zeroValue180
 t39:=Tryz.underlying151
 a39:=Tryz.isAgg151
 z39:=Tryz.sizeOf151
 v39:=Tryz.zeroValue151
 t45:=Tryz.underlying183
 a45:=Tryz.isAgg183
 z45:=Tryz.sizeOf183
 v45:=Tryz.zeroValue183
 t46:=Tryz.underlying184
 a46:=Tryz.isAgg184
 z46:=Tryz.sizeOf184
 v46:=Tryz.zeroValue184
 t50:=Tryz.underlying188
 a50:=Tryz.isAgg188
 z50:=Tryz.sizeOf188
 v50:=Tryz.zeroValue188
 t53:=Tryz.underlying191
 a53:=Tryz.isAgg191
 z53:=Tryz.sizeOf191
 v53:=Tryz.zeroValue191
 t55:=Tryz.underlying193
 a55:=Tryz.isAgg193
 z55:=Tryz.sizeOf193
 v55:=Tryz.zeroValue193
 t66:=Tryz.underlying210
 a66:=Tryz.isAgg210
 z66:=Tryz.sizeOf210
 v66:=Tryz.zeroValue210
 t70:=Tryz.underlying214
 a70:=Tryz.isAgg214
 z70:=Tryz.sizeOf214
 v70:=Tryz.zeroValue214
 t76:=Tryz.underlying230
 a76:=Tryz.isAgg230
 z76:=Tryz.sizeOf230
 v76:=Tryz.zeroValue230
 t77:=Tryz.underlying78
 a77:=Tryz.isAgg78
 z77:=Tryz.sizeOf78
 v77:=Tryz.zeroValue78 }
end Go.Proofs
namespace Pe.Tryz
open Go Go.Proofs
end Pe.Tryz
end
