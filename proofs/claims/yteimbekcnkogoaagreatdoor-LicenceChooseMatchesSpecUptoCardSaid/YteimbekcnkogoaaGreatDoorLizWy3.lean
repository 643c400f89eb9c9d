/- The law of Choose, Fulfils and Adds in plain. -/
import Derived.Test.YteimbekcnkogoaaGreatDoorNm
import Derived.Test.YteimbekcnkogoaaGreatDoorLizH
import Derived.Test.YteimbekcnkogoaaGreatDoorLizF
set_option maxRecDepth 100000
namespace Pe.Tryz
open Go Go.Proofs Pe LicSpec
theorem ztY {c:Cat} {e:Ex} (h:zj0 c e=[]) {u:Gt.Use} (hu:u∈zkk c e):uF c u=0:=by
 obtain ⟨⟨m,hm⟩,hw⟩:=zmG h
 unfold zkk at hu
 rw [hm] at hu
 obtain ⟨r,hr,hp⟩:=yAY.1 hu
 unfold pick at hp
 cases hb:((r.name != (zdu c e.name).name&& !laterR c e r)||(e.wth != []&& !hasT (zfu c e.wth).for_ r.name)) with
 | true=>rw [hb] at hp;cases hp
 | false =>
   rw [hb] at hp
   cases hp
   rw [yBc] at hb
   have h1:(lIx c r.name).isNone=false:=by
    have:(lIx c r.name).isSome=true:=by
     unfold lIx
     rw [zbk,yA5]
     exact ⟨r,hr,by simp⟩
    cases hx:lIx c r.name with
    | none=>rw [hx] at this;cases this
    | some k=>rfl
   unfold uF
   simp only [h1,cond_false]
   cases hw0:e.wth==[] with
   | true=>rfl
   | false =>
     have hne:(e.wth != [])=true:=by rw [bne,hw0];rfl
     have h2:=hb.2
     rw [hne,yCk,Bool.not_eq_false'] at h2
     have h3:(xIx c e.wth).isNone=false:=by
      rcases hw with hw | hw
      ·rw [hw] at hw0;cases hw0
      ·cases hx:xIx c e.wth with
       | none=>rw [hx] at hw;cases hw
       | some k=>rfl
     simp only [cond_false,h3,h2,yA9,Bool.or_self]
def UF (c:Cat) (W:List Way):Prop:=∀w∈W,∀u∈w,uF c u=0
theorem UF.bnd {c:Cat} {l W:List Way} (hl:∀w∈l,zcg cU w) (h:UF c l) (hb:(zg6 l).map (zbs cU)=some W):UF c W:=by
 obtain ⟨s,h1,rfl⟩:=yAM.1 hb
 obtain ⟨_,hm⟩:=zcd hl h1
 intro w hw
 exact h w ((hm w).1 (zet hw))
theorem UF.prod {c:Cat} {a b:List Way} (ha:UF c a) (hb:UF c b):UF c (zbN a b):=by
 intro w hw u hu
 obtain ⟨v,hv,h1⟩:=List.mem_flatMap.1 hw
 obtain ⟨x,hx,rfl⟩:=yA1.1 h1
 rcases yAv.1 ((zfR zeC _ u).1 hu) with h | h
 ·exact ha v hv u h
 ·exact hb x hx u h
mutual
theorem zlU (c:Cat):∀(e:Ex) (W:List Way),zdh c e=some W→zg2 c e=[]→UF c W
 | .mk kind name later wth kids,W,h,hu=>by
   simp only [zdh] at h
   rw [zhq] at hu
   simp only at hu
   split at h
   ·rename_i hk
    rw [if_neg (by simp [hk])] at hu
    refine UF.bnd (fun w hw=> ?_) (fun w hw u hu2=> ?_) h
    ·obtain ⟨u,_,rfl⟩:=yA1.1 hw
     exact yAT _ _
    ·obtain ⟨v,hv,rfl⟩:=yA1.1 hw
     rw [yA3] at hu2;subst hu2
     exact ztY hu hv
   ·rename_i hk
    rw [if_pos hk] at hu
    split at h
    ·obtain ⟨l,h1,h2⟩:=yAK.1 h
     exact UF.bnd (zcZ c kids l h1) (zku c kids l h1 hu) h2
    ·obtain ⟨l,h1,h2⟩:=yAK.1 h
     exact UF.bnd (zhn c kids [[]] l zhi h1).each (zix c kids [[]] l (fun w hw u hu2=>by rw [yA3] at hw;subst hw;cases hu2) h1 hu) h2
theorem zku (c:Cat):∀(l:List Ex) (W:List Way),zbo c l=some W→zkr c l=[]→UF c W
 | [],W,h,_=>by simp only [zbo] at h;cases h;intro w hw;cases hw
 | k::r,W,h,hu=>by
   simp only [zbo] at h
   simp only [zkr] at hu
   obtain ⟨u1,u2⟩:=yBW.1 hu
   obtain ⟨m,h1,h2⟩:=yAK.1 h
   obtain ⟨l,h3,rfl⟩:=yAM.1 h2
   intro w hw
   rcases yAv.1 hw with hw | hw
   ·exact zlU c k m h1 u1 w hw
   ·exact zku c r l h3 u2 w hw
theorem zix (c:Cat):∀(l:List Ex) (a W:List Way),UF c a→zaT c l a=some W→zkr c l=[]→UF c W
 | [],a,W,ha,h,_=>by simp only [zaT] at h;cases h;exact ha
 | k::r,a,W,ha,h,hu=>by
   simp only [zaT] at h
   simp only [zkr] at hu
   obtain ⟨u1,u2⟩:=yBW.1 hu
   obtain ⟨m,h1,h2⟩:=yAK.1 h
   obtain ⟨l',h3,h4⟩:=yAK.1 h2
   exact zix c r l' W (fun w hw=>(ha.prod (zlU c k m h1 u1)) w (((zcd zfK h3).2 w).1 hw)) h4 u2
end
theorem zr2 {F:Nat→Int}:∀n,(∀k,k<n→F k=0)→ff F n=0
 | 0,_=>rfl
 | n+1,h=>by simp only [ff];rw [zr2 n fun k hk=>h k (by omega),h n (by omega)];rfl
theorem zqB {c:Cat} (hcat:zf1 c=0) {w:Way} (hl:w.length≤40) (hu:∀u∈w,uF c u=0):zjX c w=0:=by
 unfold zjX zsc
 have h1:decide (40<len w)=false:=decide_eq_false (by unfold len;omega)
 rw [hcat,h1]
 exact zr2 _ fun k hk=>by rw [←zo0 hk];exact hu _ (yAl hk)
theorem zfx {c:Cat} {e:Ex}:∀w∈(wOf c e).1,zjX c w=0:=by
 intro w hw
 have h0:(wOf c e).2.1=0:=Classical.byContradiction fun h=>by rw [zsa h] at hw;cases hw
 unfold wOf at h0 hw
 cases h1:zf1 c != 0 with
 | true=>rw [h1] at hw;cases hw
 | false =>
   rw [h1] at hw
   simp only [cond_false] at hw
   cases h2:chk e != 0 with
   | true=>rw [h2] at hw;cases hw
   | false =>
     rw [h2] at hw
     simp only [cond_false] at hw
     split at hw
     ·cases hw
     ·rename_i hu
      have hu:zg2 c e=[]:=Classical.byContradiction hu
      cases hs:zdh c e with
      | none=>rw [hs] at hw;cases hw
      | some W =>
        rw [hs] at hw
        exact zqB (zcy h1) ((zbP c e W hs).len w hw) (zlU c e W hs hu w hw)
def wAt (W:List Way) (i:Nat):Way:=W[i]?.getD []
theorem zji {W:List Way} {k:Nat} (h:k<W.length):W[k]=wAt W k:=by simp [wAt,h]
theorem zth {W:List Way} {k:Nat} (h:k<W.length):at? W (k:Int)=some (wAt W k):=by rw [zak h,zji h]
theorem zoT {W:List Way} {k:Nat} (h:k<W.length):wAt W k∈W:=by rw [←zji h];exact yAl h
def okW (c:Cat) (w:Way):Bool:=len (clS c (zdz c w))==0
def zbI (c:Cat) (W:List Way) (b:Option Nat) (i:Nat):Option Nat :=
 bif okW c (wAt W i)&&(match b with | none=>true | some j=>decide (len (zdz c (wAt W i))<len (zdz c (wAt W j)))) then some i else b
def zmz (c:Cat) (W:List Way):Option Nat:=(List.range W.length).foldl (zbI c W) none
def znm (c:Cat) (W:List Way) (b:Option Nat):List (List UInt8):=match b with | none=>[] | some j=>zdz c (wAt W j)
theorem zjp (c:Cat) (W:List Way) (b:Option Nat) (i:Nat):zbI c W b i=some i∨zbI c W b i=b:=by
 unfold zbI
 generalize (okW c (wAt W i)&&(match b with | none=>true | some j=>decide (len (zdz c (wAt W i))<len (zdz c (wAt W j)))))=q
 cases q
 ·exact .inr rfl
 ·exact .inl rfl
def zba (c:Cat) (e:Ex):Way×List (List UInt8)×Int×Unit :=
 bif (wOf c e).2.1 != 0 then ([],[],(wOf c e).2.1,()) else match zmz c (wOf c e).1 with | none=>([],[],11,()) | some j=>(wAt (wOf c e).1 j,zdz c (wAt (wOf c e).1 j),0,())
theorem zdA {n:Nat} (hn:4≤n) {c:Cat} (hc:SmallC c) {W:List Way} (hW:GoodW W) (hL:∀w∈W,zjX c w=0) {k:Nat} (hk:k<W.length) :
  m62 (zah n) c (wAt W k)=some (zdz c (wAt W k),())∧m64 (zah n) c (wAt W k)=some (zdz c (wAt W k),())∧m66 (zah n) c (wAt W k)=some (clS c (zdz c (wAt W k)),())∧m65 (zah n) c (zdz c (wAt W k))=some (clS c (zdz c (wAt W k)),())∧(zdz c (wAt W k)).length≤2000∧(wAt W k).length≤40:=by
 have hm:=zoT hk
 have hl:=hW.len _ hm
 have h0:=hL _ hm
 have ho:=zm5 h0
 exact ⟨L62 hn hc hl,L64 (by omega) hc hl (zno h0),L66 (by omega) hc hl (zno h0),L65 (by omega) hc (by omega),ho,hl⟩
theorem L40 {n:Nat} {c:Cat} (hc:SmallC c) {e:Ex} (hs:Small e) (hn:e.lev+70≤n):m40 (zah n) c e=some (zba c e):=by
 obtain ⟨n,rfl⟩:∃k,n=k+1:=⟨n - 1,by omega⟩
 unfold m40 zba
 rw [Ex.eta,q70,L70 hc hs (by omega)]
 simp only [zaa]
 have g:=zeE (c:=c) (e:=e)
 have hL:=zfx (c:=c) (e:=e)
 cases h1:(wOf c e).2.1 != 0 with
 | true=>rfl
 | false =>
 simp only [zab,cond_false]
 generalize (wOf c e).1=W at g hL
 have hnum:=g.num
 rw [show ((-1:Int),([]:List (List UInt8)),(0:Int),())=((fun (k:Nat) (b:Option Nat)=>(ixI b,znm c W b,(k:Int),())) 0 none) from rfl]
 rw [zbe (fun (k:Nat) (b:Option Nat)=>(ixI b,znm c W b,(k:Int),())) (List.range W.length) (zbI c W) (fun b=> .inl (ixI b,znm c W b,())) (fun _ b=>∀j,b=some j→j<W.length) ?h1 ?h2 none (fun j hj=>by cases hj)]
 case h1 =>
  intro k hk b hb
  have hk':k<W.length:=by simpa using hk
  obtain ⟨f1,_,_,f4,f5,_⟩:=zdA (n:=n) (by omega) hc g hL hk'
  rw [yBi]
  refine ⟨?_,fun j hj=> ?_⟩
  ·simp only [zam,hk',decide_true,zad,zth hk',zaa,q62,f1,q65,f4,ziZ,zae hk' (by omega:W.length≤9223372036854775807)]
   unfold zbI okW
   cases b with
   | none =>
     cases (len (clS c (zdz c (wAt W k)))==0)<;>rfl
   | some j =>
     simp only [znm,Option.isNone_some,zab]
     cases (len (clS c (zdz c (wAt W k)))==0) with
     | false=>rfl
     | true =>
       by_cases hd:len (zdz c (wAt W k))<len (zdz c (wAt W j))
       ·simp only [hd,decide_true];rfl
       ·simp only [hd,decide_false];rfl
  ·rcases zjp c W b k with h | h
   ·rw [h] at hj;cases hj;exact hk'
   ·rw [h] at hj;exact hb j hj
 case h2=>intro b _;simp [len,zab]
 rw [zaj]
 have hfold:(List.range W.length).foldl (zbI c W) none=zmz c W:=rfl
 rw [hfold]
 have hlt:∀j,zmz c W=some j→j<W.length:=by
  have key:∀(l:List Nat) (b:Option Nat),(∀i∈l,i<W.length)→(∀j,b=some j→j<W.length)→∀j,l.foldl (zbI c W) b=some j→j<W.length:=by
   intro l
   induction l with
   | nil=>intro b _ hb j h;exact hb j h
   | cons i l ih =>
     intro b hl hb j h
     rw [yAW] at h
     refine ih _ (fun x hx=>hl x (by simp [hx])) (fun j hj=> ?_) j h
     rcases zjp c W b i with h | h
     ·rw [h] at hj;cases hj;exact hl _ (by simp)
     ·rw [h] at hj;exact hb j hj
  exact key _ none (fun i hi=>by simpa using hi) (fun j hj=>by cases hj)
 simp only [ziZ]
 cases hb:zmz c W with
 | none=>rfl
 | some j =>
   have hj:=hlt j hb
   have hlen:=g.len _ (zoT hj)
   show br false _ (ob (at? W (j:Int)) _)=_
   rw [zab,zth hj,zaa]
   refine (congrArg (fun z=>ob (α:=Way×Unit) z _) (G38 (n:=n+1) (by omega) (l:=wAt W j) (by omega))).trans ?_
   rfl
theorem L41 {n:Nat} {c:Cat} (hc:SmallC c) {e:Ex} (hs:Small e) (hbd:e.lev≤100000000) (hn:e.lev+70≤n):m41 (zah n) c e=some (zba c e):=by
 obtain ⟨n,rfl⟩:∃k,n=k+1:=⟨n - 1,by omega⟩
 unfold m41 zba
 rw [Ex.eta,q34,L34 hc hs hbd (by omega)]
 simp only [zaa]
 have g:=zeE (c:=c) (e:=e)
 have hL:=zfx (c:=c) (e:=e)
 cases h1:(wOf c e).2.1 != 0 with
 | true=>rfl
 | false =>
 simp only [zab,cond_false]
 generalize (wOf c e).1=W at g hL
 have hnum:=g.num
 have hlt:∀(l:List Nat) (b:Option Nat),(∀i∈l,i<W.length)→(∀j,b=some j→j<W.length)→∀j,l.foldl (zbI c W) b=some j→j<W.length:=by
  intro l
  induction l with
  | nil=>intro b _ hb j h;exact hb j h
  | cons i l ih =>
    intro b hl hb j h
    rw [yAW] at h
    refine ih _ (fun x hx=>hl x (by simp [hx])) (fun j hj=> ?_) j h
    rcases zjp c W b i with h | h
    ·rw [h] at hj;cases hj;exact hl _ (by simp)
    ·rw [h] at hj;exact hb j hj
 rw [show ((-1:Int),(0:Int),())=((fun (k:Nat) (b:Option Nat)=>(ixI b,(k:Int),())) 0 none) from rfl]
 rw [zbe (fun (k:Nat) (b:Option Nat)=>(ixI b,(k:Int),())) (List.range W.length) (zbI c W) (fun b=> .inl (ixI b,())) (fun _ b=>∀j,b=some j→j<W.length) ?h1 ?h2 none (fun j hj=>by cases hj)]
 case h1 =>
  intro k hk b hb
  have hk':k<W.length:=by simpa using hk
  obtain ⟨_,f2,f3,_,f5,_⟩:=zdA (n:=n) (by omega) hc g hL hk'
  rw [yBi]
  refine ⟨?_,fun j hj=> ?_⟩
  ·simp only [zam,hk',decide_true,zad,zth hk',zaa,q66,f3,q64,f2,ziZ,zae hk' (by omega:W.length≤9223372036854775807)]
   unfold zbI okW
   cases b with
   | none =>
     cases (len (clS c (zdz c (wAt W k)))==0)<;>rfl
   | some j =>
     obtain ⟨_,f2',_⟩:=zdA (n:=n) (by omega) hc g hL (hb j rfl)
     have hat:at? W (ixI (some j))=some (wAt W j):=zth (hb j rfl)
     simp only [hat,zaa,f2',Option.isNone_some,zab]
     cases (len (clS c (zdz c (wAt W k)))==0) with
     | false=>rfl
     | true =>
       by_cases hd:len (zdz c (wAt W k))<len (zdz c (wAt W j))
       ·simp only [hd,decide_true];rfl
       ·simp only [hd,decide_false];rfl
  ·rcases zjp c W b k with h | h
   ·rw [h] at hj;cases hj;exact hk'
   ·rw [h] at hj;exact hb j hj
 case h2=>intro b _;simp [len,zab]
 rw [zaj]
 have hfold:(List.range W.length).foldl (zbI c W) none=zmz c W:=rfl
 rw [hfold]
 simp only [ziZ]
 cases hb:zmz c W with
 | none=>rfl
 | some j =>
   have hj:=hlt _ none (fun i hi=>by simpa using hi) (fun j hj=>by cases hj) j hb
   obtain ⟨_,f2,_⟩:=zdA (n:=n) (by omega) hc g hL hj
   show br false _ (ob (at? W (j:Int)) fun y=>ob (at? W (j:Int)) _)=_
   rw [zab,zth hj,zaa,zaa]
   simp only [q64,f2,zaa]
def zr1 (c:Cat) (l:List (List UInt8)) (w:Way):Bool:=okW c w&&(zdz c w).all (hasT l)
def zsY (c:Cat) (e:Ex) (l:List (List UInt8)):Way×Bool×Int×Unit :=
 bif (wOf c e).2.1 != 0 then ([],false,(wOf c e).2.1,()) else match (wOf c e).1.findIdx? (zr1 c l) with | some j=>(wAt (wOf c e).1 j,true,0,()) | none=>([],false,0,())
noncomputable def zsG (orc:Orc Sx) (o l:List (List UInt8)):Option (Bool×Unit) :=
 (ob (α:=Int×Unit) (zaz (σ:=Unit) (R:=Int×Unit) (zan (σ:=Int×Unit) (R:=Unit⊕(Int×Unit)) (fun (t7:Int×Unit)=>(br (decide (t7.1<(len o))) (ob (at? o t7.1) fun y8=>(ob (α:=Bool×Unit) (ob (α:=Bool×Unit) (orc.d 86 [.sl .str l,.str y8] [.bool]) fun (r10:Bool×Unit)=>(some ((!r10.1),()))) fun (r11:Bool×Unit)=>(br r11.1 (some (.inr (.inr (t7.1,())))) (some (.inl ((IntKind.i64.wrap (t7.1+1)),())))))) (some (.inr (.inl (())))))) (0,())) fun (_:Unit)=>(some ((-1),()))) fun (r13:Int×Unit)=>(some ((decide (0≤r13.1)),())))
theorem zrb {n:Nat} (hn:2≤n) {o l:List (List UInt8)} (ho:o.length≤1000000000) (hl:l.length≤1000000000):zsG (zah n) o l=some (!(o.all (hasT l)),()):=by
 obtain ⟨n,rfl⟩:∃k,n=k+1:=⟨n - 1,by omega⟩
 unfold zsG
 rw [zaO o (fun s=> !hasT l s) (fun k=> .inr ((k:Int),())) (.inl ()) ?h1 ?h2]
 case h1 =>
  intro k hk
  simp only [zam,hk,decide_true,zad,zak hk,zaa,q86,L86 (by omega:1≤n) hl,zae hk (by omega:o.length≤9223372036854775807)]
  cases hasT l o[k]<;>rfl
 case h2=>simp [len,zab]
 have hq:(!(o.all (hasT l)))=(o.findIdx? fun s=> !hasT l s).isSome:=by
  rw [zbk,List.not_all_eq_any_not]
 rw [hq]
 cases o.findIdx? (fun s=> !hasT l s) with
 | none=>rfl
 | some k =>
   have:((0:Int)≤(k:Int)):=by omega
   simp [zaG,zaa,this]
theorem L42 {n:Nat} {c:Cat} (hc:SmallC c) {e:Ex} (hs:Small e) (hn:e.lev+70≤n) {l:List (List UInt8)} (hl:l.length≤2000000):m42 (zah n) c e l=some (zsY c e l):=by
 obtain ⟨n,rfl⟩:∃k,n=k+1:=⟨n - 1,by omega⟩
 unfold m42 zsY
 rw [Ex.eta,q70,L70 hc hs (by omega)]
 simp only [zaa]
 have g:=zeE (c:=c) (e:=e)
 have hL:=zfx (c:=c) (e:=e)
 cases h1:(wOf c e).2.1 != 0 with
 | true=>rfl
 | false =>
 simp only [zab,cond_false]
 generalize (wOf c e).1=W at g hL
 have hnum:=g.num
 rw [zaO W (zr1 c l) (fun k=> .inr (wAt W k,true,0,())) (.inl ()) ?h1 ?h2]
 case h1 =>
  intro k hk
  obtain ⟨f1,_,_,f4,f5,f6⟩:=zdA (n:=n) (by omega) hc g hL hk
  have hm:=zrb (n:=n+1) (by omega) (o:=zdz c (wAt W k)) (l:=l) (by omega) (by omega)
  unfold zsG at hm
  have hg:=G38 (n:=n+1) (by omega) (l:=wAt W k) (by omega)
  rw [zji hk]
  simp only [zam,hk,decide_true,zad,zth hk,zaa,q62,f1,hm,q65,f4,zae hk (by omega:W.length≤9223372036854775807)]
  have hcl:∀F:Way×Unit→Option ((Int×Unit)⊕(Unit⊕(Way×Bool×Int×Unit))),ob (α:=Way×Unit) ((zah (n+1)).d 38 [.sl (.st 6) (wAt W k)] [(.sl (.st 6))]) F=F (wAt W k,()):=fun F=>congrArg (fun z=>ob (α:=Way×Unit) z F) hg
  unfold zr1 okW
  cases (zdz c (wAt W k)).all (hasT l) with
  | false =>
    simp only [yBE,yA9,zab,zaa,Bool.and_false]
    rfl
  | true =>
    simp only [yA9,yBE,zad,zaa,yB6]
    cases (len (clS c (zdz c (wAt W k)))==0) with
    | false=>rfl
    | true =>
      rw [zad]
      exact hcl _
 case h2=>simp [len,zab]
 cases W.findIdx? (zr1 c l)<;>rfl
theorem L87w {n:Nat} {a b:List (List UInt8)} (hn:1≤n) (ha:a.length≤1000000) (hb:b.length≤1000000000):m87 (zah n) a b=some (a.all (hasT b),()):=by
 obtain ⟨n,rfl⟩:∃k,n=k+1:=⟨n - 1,by omega⟩
 unfold m87
 rw [zjS a (hasT b) (false,()) ?h1 ?h2]
 case h1 =>
  intro j hj
  simp only [zam,hj,decide_true,zad,zak hj,zaa,q88,L88 (zah n) hb,zae hj (by omega:a.length≤9223372036854775807)]
  cases hasT b a[j]<;>rfl
 case h2=>simp [len,zab]
 cases a.all (hasT b)<;>rfl
theorem L43 {n:Nat} {c:Cat} (hc:SmallC c) {e:Ex} (hs:Small e) (hbd:e.lev≤100000000) (hn:e.lev+70≤n) {l:List (List UInt8)} (hl:l.length≤2000000):m43 (zah n) c e l=some (zsY c e l):=by
 obtain ⟨n,rfl⟩:∃k,n=k+1:=⟨n - 1,by omega⟩
 unfold m43 zsY
 rw [Ex.eta,q34,L34 hc hs hbd (by omega)]
 simp only [zaa]
 have g:=zeE (c:=c) (e:=e)
 have hL:=zfx (c:=c) (e:=e)
 cases h1:(wOf c e).2.1 != 0 with
 | true=>rfl
 | false =>
 simp only [zab,cond_false]
 generalize (wOf c e).1=W at g hL
 have hnum:=g.num
 rw [zaO W (zr1 c l) (fun k=> .inr (wAt W k,true,0,())) (.inl ()) ?h1 ?h2]
 case h1 =>
  intro k hk
  obtain ⟨_,f2,f3,_,f5,f6⟩:=zdA (n:=n) (by omega) hc g hL hk
  rw [zji hk]
  simp only [zam,hk,decide_true,zad,zth hk,zaa,q66,f3,q64,f2,q87,L87w (by omega:1≤n) (by omega:(zdz c (wAt W k)).length≤1000000) (by omega:l.length≤1000000000),zae hk (by omega:W.length≤9223372036854775807)]
  unfold zr1 okW
  cases (len (clS c (zdz c (wAt W k)))==0) with
  | false=>rfl
  | true=>cases (zdz c (wAt W k)).all (hasT l)<;>rfl
 case h2=>simp [len,zab]
 cases W.findIdx? (zr1 c l)<;>rfl
def zmB (c:Cat) (a b:Ex):List (List UInt8)×Int×Unit :=
 bif (zba c a).2.2.1 != 0 then ([],(zba c a).2.2.1,()) else bif (zba c b).2.2.1 != 0 then ([],(zba c b).2.2.1,()) else ((zba c b).2.1.filterMap (fun s=>bif hasT (zba c a).2.1 s then none else some s),0,())
theorem zco {c:Cat} {e:Ex}:(zba c e).1.length≤40∧(zba c e).2.1.length≤2000:=by
 unfold zba
 cases (wOf c e).2.1 != 0 with
 | true=>exact ⟨by simp,by simp⟩
 | false =>
   simp only [cond_false]
   cases zmz c (wOf c e).1 with
   | none=>exact ⟨by simp,by simp⟩
   | some j =>
     simp only
     unfold wAt
     by_cases hj:j<(wOf c e).1.length
     ·rw [yAe hj]
      exact ⟨zeE.len _ (yAl hj),zm5 (zfx _ (yAl hj))⟩
     ·rw [yA6 (by omega)]
      exact ⟨by simp,by simp [zdz]⟩
theorem L44 {n:Nat} {c:Cat} (hc:SmallC c) {a b:Ex} (ha:Small a) (hb:Small b) (hna:a.lev+80≤n) (hnb:b.lev+80≤n):m44 (zah n) c a b=some (zmB c a b):=by
 obtain ⟨n,rfl⟩:∃k,n=k+1:=⟨n - 1,by omega⟩
 unfold m44 zmB
 simp only [Ex.eta]
 rw [q40,L40 hc ha (by omega),q40,L40 hc hb (by omega)]
 have la:=(zco (c:=c) (e:=a)).2
 have lb:=(zco (c:=c) (e:=b)).2
 generalize zba c a=p at la
 generalize zba c b=q at lb
 simp only [zaa]
 cases h1:p.2.2.1 != 0 with
 | true=>rfl
 | false =>
 simp only [zab,cond_false]
 cases h2:q.2.2.1 != 0 with
 | true=>rfl
 | false =>
 simp only [zab,cond_false]
 rw [zcO q.2.1 (fun s=>bif hasT p.2.1 s then none else some s) (fun l=> .inl (l,())) ?h1 ?h2]
 case h1 =>
  intro k hk a ha
  simp only [zam,hk,decide_true,zad,zak hk,zaa,q86,L86 (by omega:1≤n) (by omega:p.2.1.length≤1000000000),zae hk (by omega:q.2.1.length≤9223372036854775807)]
  rw [zax (by have:lim=4294967296:=rfl;simp;omega)]
  cases hasT p.2.1 q.2.1[k]<;>rfl
 case h2=>intro a;simp [len,zab]
 rfl
theorem L45 {n:Nat} {c:Cat} (hc:SmallC c) {a b:Ex} (ha:Small a) (hb:Small b) (hba:a.lev≤100000000) (hbb:b.lev≤100000000) (hna:a.lev+80≤n) (hnb:b.lev+80≤n):m45 (zah n) c a b=some (zmB c a b):=by
 obtain ⟨n,rfl⟩:∃k,n=k+1:=⟨n - 1,by omega⟩
 unfold m45 zmB
 simp only [Ex.eta]
 rw [q41,L41 hc ha hba (by omega),q41,L41 hc hb hbb (by omega)]
 have la:=(zco (c:=c) (e:=a)).2
 have lb:=(zco (c:=c) (e:=b)).2
 generalize zba c a=p at la
 generalize zba c b=q at lb
 simp only [zaa]
 cases h1:p.2.2.1 != 0 with
 | true=>rfl
 | false =>
 simp only [zab,cond_false]
 cases h2:q.2.2.1 != 0 with
 | true=>rfl
 | false =>
 simp only [zab,cond_false]
 rw [zcO q.2.1 (fun s=>bif hasT p.2.1 s then none else some s) (fun l=> .inl (l,())) ?h1 ?h2]
 case h1 =>
  intro k hk a ha
  simp only [zam,hk,decide_true,zad,zak hk,zaa,q88,L88 (zah n) (by omega:p.2.1.length≤1000000000),zae hk (by omega:q.2.1.length≤9223372036854775807)]
  rw [zax (by have:lim=4294967296:=rfl;simp;omega)]
  cases hasT p.2.1 q.2.1[k]<;>rfl
 case h2=>intro a;simp [len,zab]
 rfl
theorem zsX {c:Cat} {e:Ex} {l:List (List UInt8)}:(zsY c e l).1.length≤40:=by
 unfold zsY
 cases (wOf c e).2.1 != 0 with
 | true=>simp
 | false =>
   simp only [cond_false]
   cases (wOf c e).1.findIdx? (zr1 c l) with
   | none=>simp
   | some j =>
     simp only
     unfold wAt
     by_cases hj:j<(wOf c e).1.length
     ·rw [yAe hj];exact zeE.len _ (yAl hj)
     ·rw [yA6 (by omega)];simp
theorem zrL {c:Cat} {a b:Ex}:(zmB c a b).1.length≤2000:=by
 unfold zmB
 cases (zba c a).2.2.1 != 0 with
 | true=>simp
 | false =>
   simp only [cond_false]
   cases (zba c b).2.2.1 != 0 with
   | true=>simp
   | false=>exact yAk (yBS _ _) zco.2
theorem L10 {n:Nat} {c:Cat} (hc:SmallC c) {x y:Ex} (hx:Small x) (hbx:x.lev≤1500000) (hy:Small y) (hby:y.lev≤1500000) {l:List (List UInt8)} (hl:l.length≤2000000) (hn:1500300≤n):m10 (zah n) c x y l=some (true,()):=by
 obtain ⟨n,rfl⟩:∃k,n=k+1:=⟨n - 1,by omega⟩
 unfold m10
 simp only [Ex.eta]
 rw [q40,L40 hc hx (by omega),q41,L41 hc hx (by omega) (by omega),q42,L42 hc hx (by omega) hl,q43,L43 hc hx (by omega) (by omega) hl,q44,L44 hc hx hy (by omega) (by omega),q45,L45 hc hx hy (by omega) (by omega) (by omega) (by omega)]
 have l1:=(zco (c:=c) (e:=x)).1
 have l2:=(zco (c:=c) (e:=x)).2
 have l3:=zsX (c:=c) (e:=x) (l:=l)
 have l4:=zrL (c:=c) (a:=x) (b:=y)
 simp only [zaa,q46,L46 (zah n) (by omega:(zba c x).1.length≤1000000000),L46 (zah n) (by omega:(zsY c x l).1.length≤1000000000),beq_self_eq_true,zad,q21,L21 (zah n) (by omega:(zba c x).2.1.length≤1000000),L21 (zah n) (by omega:(zmB c x y).1.length≤1000000),G22 (by omega:231≤n+1)]
end Pe.Tryz
