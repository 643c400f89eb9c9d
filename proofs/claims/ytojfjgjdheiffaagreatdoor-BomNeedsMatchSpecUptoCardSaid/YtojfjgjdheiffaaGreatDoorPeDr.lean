/- The number of draws never falls: in no run of a program, in no step of the machine. -/
import Derived.Test.YtojfjgjdheiffaaGreatDoorNm
import Derived.Below
import Derived.Calls
import Derived.RunT
namespace Pe.Dr
open Go
variable{P:Program}{α:Type}
def resW:Result α->World| .ok _ w=>w| .halt _ w=>w
theorem ztc(q:Ask α):∀w:World,w.drawn<=(w.ask q).2.drawn:=by
 induction q with
 |done a=>intro w;exact yAi _
 |ask what range k ih =>
   intro w;unfold World.ask;dsimp only;split;·exact ih _ w
   ·exact yAo (Nat.le_succ _) (ih _ { w with drawn:=w.drawn+1 })
theorem zss(w:World)(c:Sys):w.drawn<=(w.sys c).2.drawn:=by
 unfold World.sys;have h:=ztc (Kernel.perform c w.os) w;split;·exact yAi _
 ·rename_i heq;rw[heq] at h;exact h
theorem zkk{w:World}{at_ k:Addr}{u:TypeId}{v:Value}{b:Bool}{r:World×List Addr}(h:w.viewStore P at_ u k v b= .ok r):r.1.drawn=w.drawn:=by
 unfold World.viewStore at h;simp only[bind,Except.bind,pure,Except.pure] at h
 repeat' split at h
 all_goals first|(cases h;rfl)|(cases h)
theorem zmc{w:World}{a:Addr}{v:Value}{b:Bool}{r:World×List Addr}(h:w.farStore P a v b= .ok r):r.1.drawn=w.drawn:=by
 unfold World.farStore at h;split at h
 ·split at h;·rename_i heq;cases h;exact zkk heq
  ·cases h
 ·cases h
theorem zpf(w:World)(a:Addr)(n:Nat):(w.freeze a n).drawn=w.drawn:=by unfold World.freeze;split<;>rfl
theorem zhz(s:Sem α):∀w:World,w.drawn<=(resW (s.run P w)).drawn:=by
 induction s with
 |pure a=>intro w;exact yAi _
 |load m a k ih =>
   intro w;simp only[Sem.run];split;·exact ih _ w
   ·split;·exact ih _ w
    ·exact yAi _
 |store m a v k ih =>
   intro w;have key:w.drawn<=(resW (match w.cell? a with
    |some _ => if w.frozen? a then .halt (.unsupported (.unsafePointer "a write to bytes that a string shares")) w else k.run P (w.setCell a v)
    |none=>match w.farStore P a v (m== .atomic) with
      | .ok (w,_)=>k.run P w| .error h=>.halt h w)).drawn:=by
    split
    ·split;·exact yAi _
     ·exact ih (w.setCell a v)
    ·split;·rename_i heq;exact yAo (Nat.le_of_eq (zmc heq).symm) (ih _)
     ·exact yAi _
   cases v<;>first|exact key|exact yAi _
 |new o k ih=>intro w;simp only[Sem.run];exact ih _ { w with heap:=w.heap.push o }
 |shape r k ih=>intro w;simp only[Sem.run];exact ih _ _
 |freeze a n k ih=>intro w;simp only[Sem.run];exact yAo (Nat.le_of_eq (zpf w a n).symm) (ih _)
 |frozen a k ih=>intro w;simp only[Sem.run];exact ih _ _
 |getObj r k ih =>
   intro w;simp only[Sem.run];split;·exact yAi _
   ·exact ih _ _
   ·exact yAi _
 |setObj r o k ih =>
   intro w;simp only[Sem.run];split;·exact yAi _
   ·exact ih { w with heap:=w.heap.setIfInBounds r o }
   ·exact yAi _
 |choose q k ih =>
   intro w;simp only[Sem.run];split;·exact ih _ _
   ·exact yAo (Nat.le_succ _) (ih _ { w with drawn:=w.drawn+1 })
 |sys c k ih=>intro w;simp only[Sem.run];exact yAo (zss w c) (ih _ _)
 |program k ih=>intro w;simp only[Sem.run];exact ih _ _
 |mark m k ih=>intro w;simp only[Sem.run];exact ih _
 |halt h=>intro w;exact yAi _
theorem zox{s:Sem α}{w w1:World}{a:α}(h:s.run P w= .ok a w1):w.drawn<=w1.drawn:=by have:=zhz (P:=P) s w;rw[h] at this;exact this
def lo(n:Nat):GStep->Prop| .go _ w _=>n<=w.drawn| .comm _ _ _ _ w _=>n<=w.drawn| .spawn _ _ w _=>n<=w.drawn| .count _ w _=>n<=w.drawn| .timer _ _ w _=>n<=w.drawn| .alone _ _ w _=>n<=w.drawn| .newcoro _ _ _ w _=>n<=w.drawn| .coroswitch _ _ _ w _=>n<=w.drawn| .collect _ w _=>n<=w.drawn| .watch _ w _=>n<=w.drawn| .ended _ _ _=>True
def sl(n:Nat):Stepped->Prop| .next m=>n<=m.world.drawn| .ended _ _=>True
end Pe.Dr
