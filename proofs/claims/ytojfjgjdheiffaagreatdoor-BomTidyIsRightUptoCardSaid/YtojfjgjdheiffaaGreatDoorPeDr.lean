/- The number of draws never falls: in no run of a program, in no step of the machine. -/
import Derived.Test.YtojfjgjdheiffaaGreatDoorNm
import Derived.Below
namespace Pe.Dr
open Go
variable{P:Program}{α:Type}
def resW:Result α->World| .ok _ w=>w| .halt _ w=>w
theorem ztc(q:Ask α):∀w:World,w.drawn<=(w.ask q).2.drawn:=by
 induction q with
 |done a=>intro w;exact yAi _
 |ask what range k ih =>
   intro w;unfold World.ask;dsimp only;split;·exact ih _ w
   ·exact yAo (Nat.le_succ _) (ih _ { w with drawn:=w.drawn+1 })
theorem zss(w:World)(c:Sys):w.drawn<=(w.sys c).2.drawn:=by
 unfold World.sys;have h:=ztc (Kernel.perform c w.os) w;split;·exact yAi _
 ·rename_i heq;rw[heq] at h;exact h
theorem zkk{w:World}{at_ k:Addr}{u:TypeId}{v:Value}{b:Bool}{r:World×List Addr}(h:w.viewStore P at_ u k v b= .ok r):r.1.drawn=w.drawn:=by
 unfold World.viewStore at h;simp only[bind,Except.bind,pure,Except.pure] at h
 repeat' split at h
 all_goals first|(cases h;rfl)|(cases h)
theorem zmc{w:World}{a:Addr}{v:Value}{b:Bool}{r:World×List Addr}(h:w.farStore P a v b= .ok r):r.1.drawn=w.drawn:=by
 unfold World.farStore at h;split at h
 ·split at h;·rename_i heq;cases h;exact zkk heq
  ·cases h
 ·cases h
theorem zpf(w:World)(a:Addr)(n:Nat):(w.freeze a n).drawn=w.drawn:=by unfold World.freeze;split<;>rfl
theorem zhz(s:Sem α):∀w:World,w.drawn<=(resW (s.run P w)).drawn:=by
 induction s with
 |pure a=>intro w;exact yAi _
 |load m a k ih =>
   intro w;simp only[Sem.run];split;·exact ih _ w
   ·split;·exact ih _ w
    ·exact yAi _
 |store m a v k ih =>
   intro w;have key:w.drawn<=(resW (match w.cell? a with
    |some _ => if w.frozen? a then .halt (.unsupported (.unsafePointer "a write to bytes that a string shares")) w else k.run P (w.setCell a v)
    |none=>match w.farStore P a v (m== .atomic) with
      | .ok (w,_)=>k.run P w| .error h=>.halt h w)).drawn:=by
    split
    ·split;·exact yAi _
     ·exact ih (w.setCell a v)
    ·split;·rename_i heq;exact yAo (Nat.le_of_eq (zmc heq).symm) (ih _)
     ·exact yAi _
   cases v<;>first|exact key|exact yAi _
 |new o k ih=>intro w;simp only[Sem.run];exact ih _ { w with heap:=w.heap.push o }
 |shape r k ih=>intro w;simp only[Sem.run];exact ih _ _
 |freeze a n k ih=>intro w;simp only[Sem.run];exact yAo (Nat.le_of_eq (zpf w a n).symm) (ih _)
 |frozen a k ih=>intro w;simp only[Sem.run];exact ih _ _
 |getObj r k ih =>
   intro w;simp only[Sem.run];split;·exact yAi _
   ·exact ih _ _
   ·exact yAi _
 |setObj r o k ih =>
   intro w;simp only[Sem.run];split;·exact yAi _
   ·exact ih { w with heap:=w.heap.setIfInBounds r o }
   ·exact yAi _
 |choose q k ih =>
   intro w;simp only[Sem.run];split;·exact ih _ _
   ·exact yAo (Nat.le_succ _) (ih _ { w with drawn:=w.drawn+1 })
 |sys c k ih=>intro w;simp only[Sem.run];exact yAo (zss w c) (ih _ _)
 |program k ih=>intro w;simp only[Sem.run];exact ih _ _
 |mark m k ih=>intro w;simp only[Sem.run];exact ih _
 |halt h=>intro w;exact yAi _
theorem zox{s:Sem α}{w w1:World}{a:α}(h:s.run P w= .ok a w1):w.drawn<=w1.drawn:=by have:=zhz (P:=P) s w;rw[h] at this;exact this
theorem zwX{s:Sem α}{w w1:World}{a:Halt}(h:s.run P w= .halt a w1):w.drawn<=w1.drawn:=by have:=zhz (P:=P) s w;rw[h] at this;exact this
theorem zx8{s:Sem α}{w w1:World}{a:α}{es es':Array Event}(h:s.runT P w es=(.ok a w1,es')):w.drawn<=w1.drawn:=zox (by rw[<-Sem.runT_fst P s w es,h])
theorem zxC{s:Sem α}{w w1:World}{a:Halt}{es es':Array Event}(h:s.runT P w es=(.halt a w1,es')):w.drawn<=w1.drawn:=zwX (by rw[<-Sem.runT_fst P s w es,h])
theorem zwY{s:Sem α}{w:World}{es es':Array Event}{r:Result α}(h:s.runT P w es=(r,es')):w.drawn<=(resW r).drawn:=by have:=zhz (P:=P) s w;rw[<-Sem.runT_fst P s w es,h] at this;exact this
theorem zwT{s:Sem α}{w w1:World}{a:α}{es:Array Event}(h:(s.runT P w es).1= .ok a w1):w.drawn<=w1.drawn:=zox (by rw[<-Sem.runT_fst P s w es,h])
theorem zxQ{s:Sem α}{w w1:World}{a:Halt}{es:Array Event}(h:(s.runT P w es).1= .halt a w1):w.drawn<=w1.drawn:=zwX (by rw[<-Sem.runT_fst P s w es,h])
def lo(n:Nat):GStep->Prop| .go _ w _=>n<=w.drawn| .comm _ _ _ _ w _=>n<=w.drawn| .spawn _ _ w _=>n<=w.drawn| .count _ w _=>n<=w.drawn| .timer _ _ w _=>n<=w.drawn| .alone _ _ w _=>n<=w.drawn| .newcoro _ _ _ w _=>n<=w.drawn| .coroswitch _ _ _ w _=>n<=w.drawn| .collect _ w _=>n<=w.drawn| .watch _ w _=>n<=w.drawn| .ended _ _ _=>True
theorem zsC{n:Nat}{es:Array Event}{g:GStep}(h:lo n g):lo n (GStep.after es g):=by cases g<;>exact h
theorem zxZ{n:Nat}{c:Prop}[Decidable c]{a b:GStep}(h1:lo n a)(h2:lo n b):lo n (if c then a else b):=by split<;>assumption
theorem zw1{n m:Nat}{g:GStep}(hm:m<=n)(h:lo n g):lo m g:=by cases g<;>first|exact yAo hm h|exact h
theorem zxw{n:Nat}{w:World}{fd:Nat}{t:ByteArray}{o:Outcome}:lo n (endWith w fd t o):=by
 unfold endWith;dsimp only;split;·split<;>trivial
 ·trivial
 ·trivial
theorem zwF{n:Nat}{w:World}{fr:Frame}{m:String}(h:n<=w.drawn):lo n (endThrow fr m w):=h
theorem zwE{n:Nat}{w:World}{fr:Frame}{v:Value}(h:n<=w.drawn):lo n (endPrinting P fr v w):=by
 unfold endPrinting;dsimp only;split;·exact zwF h
 ·trivial
theorem zwO{w:World}{fr:Frame}{cs:List Frame}{d:Option Dying}{m:String}:lo w.drawn (endFatal P fr cs d m w):=by
 unfold endFatal;dsimp only;split;·exact zox (by assumption)
 ·trivial
 ·trivial
theorem zxp{w:World}{fr:Frame}{d:Dying}{f:Fatal}:lo w.drawn (writeOn P fr d f w):=by
 unfold writeOn;dsimp only;split;·trivial
 ·split;·exact zx8 (by assumption)
  ·exact zxC (by assumption)
  ·trivial
  ·trivial
theorem zyn{w:World}{fr:Frame}{d:Dying}:lo w.drawn (die P fr d w):=by
 unfold die;split;·exact zxp
 ·split
  ·split;·exact yAi _
   ·exact zxw
  ·dsimp only;split;·exact yAi _
   ·split;·exact zox (by assumption)
    ·trivial
   ·rename_i t recv name _;rcases hX:(invoke (.fn (.method name) #[]) #[.iface t recv]).runT P w #[] with ⟨r,es⟩;have hr:=zwY hX;dsimp only;refine zsC ?_
    repeat' split
    all_goals first|exact hr|trivial|exact zwE hr
   ·trivial
theorem zwz{n:Nat}{w:World}{b:Bool}{fr:Frame}{cs:List Frame}{d:Option Dying}{v:Value}(h:n<=w.drawn):lo n (doReturn P b fr cs d v w):=by
 unfold doReturn
 repeat' split
 all_goals first|exact h|trivial
theorem zwP{w:World}{fr:Frame}{cs:List Frame}{d:Option Dying}{df:Deferred}:lo w.drawn (callDeferred P fr cs d df w):=by
 unfold callDeferred;refine zxZ trivial ?_
 ·rcases hX:(invoke df.target df.args).runT P w #[] with ⟨r,es⟩;have hr:=zwY hX;dsimp only;refine zsC ?_
  repeat' split
  all_goals first|exact hr|trivial|exact zw1 hr zwO|exact zwF hr
theorem zxy{w:World}{b:Bool}{fr:Frame}{cs:List Frame}{d:Option Dying}:lo w.drawn (unwind P b fr cs d w):=by
 unfold unwind;split
 ·dsimp only;refine zsC ?_;split;·rename_i h;exact zwT h
  ·trivial
 ·exact zwP
 ·split;·trivial
  ·repeat' split
   all_goals first|exact yAi _|trivial|exact zwE (yAi _)|exact zox (by assumption)
  ·split;·exact zwz (yAi _)
   ·rename_i fn _;rcases hX:(results fn fr.tmps).runT P w #[] with ⟨r,es⟩;have hr:=zwY hX;dsimp only;refine zsC ?_
    repeat' split
    all_goals first|exact zwz hr|trivial
theorem zxR{w:World}{fr:Frame}{cs:List Frame}{d:Option Dying}{g:Nat}:lo w.drawn (early P fr cs d g w):=by
 unfold early;dsimp only
 repeat' split
 all_goals first|exact yAi _|trivial|exact zox (by assumption)|(rename_i h _ _ _ _;have h2:=zox h;exact h2)
theorem zwK{w:World}{l:Bool}{fr:Frame}{cs:List Frame}{d:Option Dying}{s:Sem Next}:lo w.drawn (stepG.apply P l fr cs d s w):=by
 unfold stepG.apply;dsimp only;rcases hX:(if l=true then s.runT P w #[] else (s.run P w,#[])) with ⟨r,es⟩;have hr:w.drawn<=(resW r).drawn:=by
  cases l with
  |true=>exact zwY hX|false=>have:=zhz (P:=P) s w;cases hX;exact this
 dsimp only;refine zsC ?_
 repeat' split
 all_goals first|exact hr|trivial|exact zw1 hr zwO|exact zwF hr|exact zw1 hr zxR
theorem zx9{w:World}{l:Bool}{fr:Frame}{cs:List Frame}{d:Option Dying}:lo w.drawn (stepG.oper P l fr cs d w):=by
 unfold stepG.oper
 repeat' split
 all_goals first|trivial|exact zwK
theorem zw2{n:Nat}{β:Type}{o:Option β}{x:GStep}{f:β->GStep}(h1:lo n x)(h2:∀t,lo n (f t)):lo n (o.elim x f):=by cases o<;>first|exact h1|exact h2 _
theorem zyf{w:World}{b l:Bool}{fr:Frame}{cs:List Frame}{d:Option Dying}:lo w.drawn (stepG.exec P b l fr cs d w):=by
 unfold stepG.exec;dsimp only;have hle:∀j:Option Code,lo w.drawn (match fr.roundOf with
   |none => if (match j with | none => true | some .ret => true | _ => false) = true then .go { frame := { fr with mode := .returning }, callers := cs, status := .running, dying := d } w else .ended (.stuck "exit, goto: no such block or label" (fr.pos P)) w
   |some l=>GStep.after (seen P fr.fn ((Instr.endRound l j).runT P w #[]).2) (match ((Instr.endRound l j).runT P w #[]).1 with
     | .ok v w=>doReturn P b fr cs d v w
     | .halt _ w => .ended (.stuck "range over a function: no such loop" (fr.pos P)) w)) := by
  intro j;split;·exact zxZ (yAi _) trivial
  ·refine zsC ?_;split;·exact zwz (zwT (by assumption))
   ·trivial
 repeat' split
 all_goals first
  |exact yAi _
  |trivial
  |exact zwK
  |exact zx9
  |exact zox (by assumption)
  |exact zsC (zwT (by assumption))
  |exact zsC (zxQ (by assumption))
  |exact zsC trivial
  |exact zsC (zwz (zwT (by assumption)))
  |exact zsC (zw1 (zwT (by assumption)) zwK)
  |exact zw2 trivial λ_=>yAi _|exact zw2 (zsC (zwz (zwT (by assumption)))) λ_=>yAi _|exact zw2 (zsC trivial) λ_=>yAi _|exact zw2 trivial λ_=>zwK|skip
theorem zxN{w:World}{b l:Bool}{g:Goroutine}:lo w.drawn (stepG P b g w l):=by
 unfold stepG;dsimp only;split;·exact zyn
 ·exact zyf
 ·exact zxy
def sl(n:Nat):Stepped->Prop| .next m=>n<=m.world.drawn| .ended _ _=>True
theorem zxH{gs:Array Goroutine}{rest:Rest}{w:World}:sl w.drawn (look P gs rest w):=by
 unfold look;dsimp only
 repeat' split
 all_goals first|trivial|exact yAi _|(have h2:=zox ‹Sem.run P _ w=Result.ok _ _›;exact h2)
theorem zxq{rest:Rest}{c:Array CommCase}{w w1:World}(h:waitingAt rest c w=some w1):w1.drawn=w.drawn:=by
 unfold waitingAt at h
 repeat' split at h
 all_goals first|(cases h;rfl)|cases h
theorem zwR{rest:Rest}{gs:Array Goroutine}{i:Nat}{g:Goroutine}{c:Array CommCase}{b:Bool}{s:CommShape}{w:World}:sl w.drawn (communicate P rest gs i g c b s w).1:=by
 unfold communicate;dsimp only
 repeat' split
 all_goals first
  |trivial
  |exact yAi _
  |exact Nat.le_of_eq (zxq (by assumption)).symm
  |(have h2:=zox ‹Sem.run P _ w=Result.ok _ _›;exact h2)
  |(have h2:=zox ‹Sem.run P _ w=Result.ok _ _›;have h3:=zwX ‹Sem.run P _ _=Result.halt (.panic _) _›;exact yAo h2 h3)
  |(have h2:=zox ‹Sem.run P _ w=Result.ok _ _›;have h3:=zox ‹Sem.run P _ _=Result.ok _ _›;exact yAo h2 h3)
theorem zxS(w:World)(c:Nat):(drain w c).2.drawn=w.drawn:=by unfold drain;split<;>rfl
theorem zw8(m:Machine)(k:Nat)(t:Timer)(a b:Nat):(retime m k t a b).2.world.drawn=m.world.drawn:=by
 unfold retime;dsimp only;split;·exact zxS _ _
 ·rfl
theorem zxF{m m1:Machine}{var:Addr}(h:timerOp.opened m var=some m1):m1.world.drawn=m.world.drawn:=by
 unfold timerOp.opened at h
 repeat' split at h
 all_goals first|(cases h;rfl)|cases h
theorem zxg{n:Nat}{m0 m1:Machine}{var:Addr}{v:Value}{f:Nat->Timer->Value×Machine}(hf:∀k t,(f k t).2.world.drawn=n)(hn:timerOp.named m0 var f= .ok (v,m1)):m1.world.drawn=n:=by
 unfold timerOp.named at hn;split at hn;·rename_i k _;have h2:=Except.ok.inj hn;have h3:=hf k (m0.rest.timers.getD k default);rw[h2] at h3;exact h3
 ·cases hn
theorem zxr{m m1:Machine}{op:TimerOp}{v:Value}(h:timerOp m op= .ok (v,m1)):m1.world.drawn=m.world.drawn:=by
 unfold timerOp at h;split at h
 ·repeat' split at h
  all_goals first|(cases h;rfl)|cases h
 ·exact zxg (λk t=>zw8 m k t _ _) h
 ·split at h;·rename_i ho;exact zxg (λk t=>(zw8 _ k t _ _).trans (zxF ho)) h
  ·cases h
 ·cases h;rfl
theorem zwG{n k:Nat}{s:Stepped}(hk:k<=n)(h:sl n s):sl k s:=by cases s<;>first|exact yAo hk h|exact h
theorem zx7{m:Machine}{i:Nat}{l:Bool}:sl m.world.drawn (Go.runT P m i l).1:=by
 unfold Go.runT;dsimp only;rcases hX:m.gs.swapAt! i { (default:Goroutine) with status:= .finished } with ⟨g,gs⟩;dsimp only;have hs:=zxN (P:=P) (w:=m.world) (b:=i==0) (l:=l) (g:=g);generalize stepG P (i==0) g m.world l=s at hs ⊢;cases s with
 |ended=>trivial|comm g' c b sh w' es=>exact zwG hs (zwR (P:=P) (rest:=m.rest) (gs:=gs) (i:=i) (g:=g') (c:=c) (b:=b) (s:=sh) (w:=w'))|go=>exact hs|spawn=>exact hs|count =>
   dsimp only;split;·trivial
   ·exact hs
 |alone=>exact hs|collect=>exact zwG hs zxH|watch=>exact hs|newcoro=>exact hs|coroswitch =>
   dsimp only;split;·exact hs
   ·exact hs
   ·trivial
 |timer =>
   dsimp only;split;·rename_i h;exact yAo hs (Nat.le_of_eq (zxr h).symm)
   ·exact hs
   ·trivial
   ·trivial
def ml(n:Nat):Move->Prop| .goroutine m _=>n<=m.world.drawn| .machine s _=>sl n s
theorem zxP{m:Machine}{k:Nat}:sl m.world.drawn (serve P m k):=by
 unfold serve;split;·trivial
 ·exact yAi _
 ·dsimp only;split;·trivial
  ·exact yAi _
theorem zw6{m:Machine}:ml m.world.drawn (askOn P m):=by
 unfold askOn;dsimp only;split;·trivial
 ·rename_i k world h0;have h1:=zox h0;clear h0;split;·exact zwG h1 (zxP (m:={ m with world:=world }))
  ·repeat' split
   all_goals first
    |trivial
    |exact h1
    |exact yAo h1 (zox (by assumption))
    |exact yAo h1 (yAo (zox (by assumption)) (zox (by assumption)))
    |(have h2:=zox ‹Sem.run P _ world=Result.ok _ _›;exact yAo h1 h2)
    |(have h2:=zox ‹Sem.run P _ world=Result.ok _ _›;have h3:=zox ‹Sem.run P _ (Machine.advanceTo _ _).world=Result.ok _ _›;exact yAo h1 (yAo h2 h3))
    |(have h2 := zox ‹Sem.run P _ world = Result.ok _ _›; have h3 := zox ‹Sem.run P _ (Machine.advanceTo _ _).world = Result.ok _ _›; have h4 := zox ‹Sem.run P (choose (.extern "sched.slice" 65536)) _ = Result.ok _ _›; exact yAo h1 (yAo h2 (yAo h3 h4)))
    |(have h2 := zox ‹Sem.run P (choose (.sched _)) world = Result.ok _ _›; have h4 := zox ‹Sem.run P (choose (.extern "sched.slice" 65536)) _ = Result.ok _ _›; exact yAo h1 (yAo h2 h4))
    |(have h2 := zox ‹Sem.run P (choose (.extern "clock.wait" _)) world = Result.ok _ _›; have h3 := zox ‹Sem.run P (choose (.sched _)) _ = Result.ok _ _›; have h4 := zox ‹Sem.run P (choose (.extern "sched.slice" 65536)) _ = Result.ok _ _›; exact yAo h1 (yAo h2 (yAo h3 h4)))
theorem zxG{n k:Nat}{s:Move}(hk:k<=n)(h:ml n s):ml k s:=by
 cases s with
 |goroutine m i=>exact yAo hk h|machine s ops=>exact zwG hk h
theorem zx2{m:Machine}:ml m.world.drawn (ask P m):=by
 unfold ask;split
 ·split;·trivial
  ·rename_i world h0;have h1:=zox h0;have h2:=zxH (P:=P) (gs:=m.gs) (rest:=m.rest) (w:=world);split;·rename_i heq;rw[heq] at h2;exact zxG (yAo h1 h2) zw6
   ·exact zwG h1 h2
  ·rename_i world _ h0;exact zxG (zox h0) (zw6 (m:={ m with world:=world }))
 ·exact zw6
theorem zyc{m:Machine}:ml m.world.drawn (move P m):=by
 unfold move;split
 ·split;·exact yAi _
  ·trivial
 ·split
  ·split;·exact yAi _
   ·exact zx2 (m:={ m with rest:={ m.rest with slice:=none } })
  ·exact zx2
theorem zx5{m m1:Machine}(h:step P m= .next m1):m.world.drawn<=m1.world.drawn:=by
 have hm:=zyc (P:=P) (m:=m);unfold step stepT at h;split at h;·rename_i m0 i heq;rw[heq] at hm;have:=zwG hm (zx7 (P:=P) (m:=m0) (i:=i) (l:=true));rw[h] at this;exact this
 ·rename_i s ops heq;rw[heq] at hm;have h':s=Stepped.next m1:=h;rw[h'] at hm;exact hm
theorem zxM{m m1:Machine}(h:Steps P m m1):m.world.drawn<=m1.world.drawn:=by
 obtain ⟨n,hn⟩:=h;induction n generalizing m with
 |zero=>cases hn;exact yAi _|succ n ih =>
   simp only[runN] at hn;split at hn;·rename_i h;exact yAo (zx5 h) (ih hn)
   ·rename_i h;exact absurd hn (h _)
theorem calls_le{f:FuncId}{args:Array Value}{w:World}{R:Ending->World->Prop}(h:Calls P f args w R)(hr:∀e w',R e w'->∃v,e= .returned v):Calls P f args w λe w'=>R e w'/\w.drawn<=w'.drawn:=by intro cs;obtain ⟨e,w',fr,h1,h2,h3,h4⟩:=h cs;obtain ⟨v,rfl⟩:=hr e w' h1;exact ⟨_,w',fr,⟨h1,zxM h2⟩,h2,h3,h4⟩
theorem grown_of{w w':World}(h:Go.RowKit.Below w.heap.size w w')(hd:w.drawn<=w'.drawn):∃q os,w'={ w with drawn:=w.drawn+q,heap:=w.heap++os }:=by
 refine ⟨w'.drawn - w.drawn,w'.heap.extract w.heap.size w'.heap.size,?_⟩;obtain ⟨heap,tape,drawn,os,output⟩:=w;obtain ⟨heap',tape',drawn',os',output'⟩:=w';obtain ⟨e1,e2,e3,e4,e5⟩:=h;simp only at e1 e2 e3 e4 e5 hd;subst e1 e2 e3;show World.mk heap' _ drawn' _ _=World.mk (heap++heap'.extract heap.size heap'.size) _ (drawn+(drawn' - drawn)) _ _;have hh:heap++heap'.extract heap.size heap'.size=heap':=by
  apply Array.ext_getElem?;intro k;rw[Array.getElem?_append];split;·rename_i hk;exact (e5 k hk).symm
  ·rename_i hk;rw[Array.getElem?_extract];simp only[Nat.min_self];split;·congr 1;omega
   ·rw[Array.getElem?_eq_none];omega
 rw[hh,show drawn+(drawn' - drawn)=drawn' by omega]
end Pe.Dr
