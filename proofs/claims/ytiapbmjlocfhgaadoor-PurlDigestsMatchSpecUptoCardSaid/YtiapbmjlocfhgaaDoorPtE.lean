/- PROVED HERE: a part of the seat's proofs; see the text that holds the claim's theorem. -/
import Derived.Test.YtiapbmjlocfhgaaDoorNm
import Derived.Test.YtiapbmjlocfhgaaDoorPtC
import Derived.Test.YtiapbmjlocfhgaaDoorPeE
section
/- PROVED in plain: Sum64, CheckDigests and Agree answer as the reference does; Agree is the same both ways. -/
set_option maxRecDepth 100000
namespace Pe.Tryd
open Go Go.Proofs Pe Pe.Told
abbrev B:=List UInt8
abbrev Dg:=Gt.Digest
theorem all8{p:UInt8->Bool}(h:((List.range 256).all λn=>p (UInt8.ofNat n))=true)(c:UInt8):p c=true:=by have:=yAY.1 h c.toNat (by simpa using c.toNat_lt);simpa using this
theorem eq8{α:Type}[DecidableEq α]{f g:UInt8->α}(h:((List.range 256).all λn=>decide (f (UInt8.ofNat n)=g (UInt8.ofNat n)))=true)(c:UInt8):f c=g c:=by have:=all8 (p:=λc=>decide (f c=g c)) h c;simpa using this
theorem zaA{σ R:Type}{x:Option (σ⊕R)}{r:σ⊕R}{g:σ->Option R}{y:Option R}(h:x=some r)(h2:zaJ (some r) g=y):zaJ x g=y:=by rw[h,h2]
def ztY(c:UInt8):Bool:=decide (48<=c)&&decide (c<=57)||decide (97<=c)&&decide (c<=102)
def zc5(c:UInt8):Int:=bif decide (48<=c)&&decide (c<=57) then (c.toNat:Int) - 48 else bif decide (97<=c)&&decide (c<=102) then (c.toNat:Int) - 87 else bif decide (65<=c)&&decide (c<=70) then (c.toNat:Int) - 55 else -1
theorem s24(o:Orc Sx)(c:UInt8):m24 o (c.toNat:Int)=some (zc5 c,()) :=
 eq8 (f:=λc=>m24 o (c.toNat:Int)) (g:=λc=>some (zc5 c,())) (by kernel_rfl) c
theorem L24(n:Nat)(c:UInt8): @Eq (Option (Int×Unit)) ((zal (n+1)).d 24 [.int .u8 (c.toNat:Int)] [(.int .i64)]) (some (zc5 c,())):=(q24 n _).trans (s24 _ c)
def zvy(s:B)(n:Int):Bool:=bif s.any (λc=> !ztY c) then false else len s==n
theorem zl5(s:B):(List.range s.length).any (λk=> !ztY (s.getD k 0))=s.any (λc=> !ztY c):=by
 rw[yBE,yBc,yBc];constructor
 ·rintro ⟨k,hk,h⟩
  have hk:k<s.length:=by simpa using hk
  rw[List.getD,yAh hk] at h;exact ⟨s[k],yBg hk,h⟩
 ·rintro ⟨c,hc,h⟩
  obtain ⟨k,hk,rfl⟩:=List.getElem_of_mem hc;refine ⟨k,by simpa using hk,?_⟩;rw[List.getD,yAh hk];exact h
theorem zbO(s:B){k:Nat}(h:k<s.length):s.getD k 0=s[k]:=by rw[List.getD,yAh h];rfl
theorem L13(n:Nat){s:B}(hs:s.length<=1000000000)(N:Int): @Eq (Option (Bool×Unit)) ((zal (n+2)).d 13 [.str s,.int .i64 N] [.bool]) (some (zvy s N,())):=by
 refine (q13 (n+1) _ _).trans ?_;unfold m13;rw[zcF s.length (λk=> !ztY (s.getD k 0)) (.inr (false,())) (.inl ()) (λk hk=>?_) ?_,zl5];·unfold zvy;cases s.any (λc=> !ztY c)<;>rfl
 ·dsimp only;rw[decide_eq_false (by simp[len]),zab]
 ·dsimp only;rw[decide_eq_true (zaW.mpr hk),zad,zaX hk,zaa,zaD hk (by omega)];refine (congrArg (λy:Option (Int×Unit)=>ob y _) (L24 n s[k])).trans ?_;rw[zaa,zbO s hk];simp only[zaa,zav]
  have:(bif decide (zc5 s[k]<0) then true else bif decide (65<=(s[k].toNat:Int)) then decide ((s[k].toNat:Int)<=70) else false)= !ztY s[k] :=
   eq8 (f:=λc=>bif decide (zc5 c<0) then true else bif decide (65<=(c.toNat:Int)) then decide ((c.toNat:Int)<=70) else false) (g:=λc=> !ztY c) (by decide+kernel) _
  rw[this];cases ztY s[k]<;>rfl
theorem L14(n:Nat){s:B}(hs:s.length<=1000000000)(N:Int): @Eq (Option (Bool×Unit)) ((zal (n+1)).d 14 [.str s,.int .i64 N] [.bool]) (some (zvy s N,())):=by
 refine (q14 n _ _).trans ?_;unfold m14;rw[zcF s.length (λk=> !ztY (s.getD k 0)) (.inr (false,())) (.inl ()) (λk hk=>?_) ?_,zl5];·unfold zvy;cases s.any (λc=> !ztY c)<;>rfl
 ·dsimp only;rw[decide_eq_false (by simp[len]),zab]
 ·dsimp only;rw[decide_eq_true (zaW.mpr hk),zad,zaX hk,zaa,zaD hk (by omega),zbO s hk];simp only[zaa,zav]
  have:(bif bif decide (48<=(s[k].toNat:Int)) then decide ((s[k].toNat:Int)<=57) else false then true else bif decide (97<=(s[k].toNat:Int)) then decide ((s[k].toNat:Int)<=102) else false)=ztY s[k] :=
   eq8 (f:=λc=>bif bif decide (48<=(c.toNat:Int)) then decide ((c.toNat:Int)<=57) else false then true else bif decide (97<=(c.toNat:Int)) then decide ((c.toNat:Int)<=102) else false) (g:=ztY) (by decide+kernel) _
  rw[this];cases ztY s[k]<;>rfl
def zvv:B:=[115,104,97,50,53,54]
def s64:B:=[115,117,109,54,52]
def zvr(d:Dg):Int:=bif d.algo==s64 then 16 else 64
def ord1(x y:B):Bool:=Op.bytesLess x y||(x==y)
def zuQ(l:List Dg)(x:B):Nat->Bool|0=>false|j+1=>match l[j]? with|none=>false|some e=>ord1 x e.algo
def zuW(l:List Dg)(d:Dg)(k:Nat):Int:=bif d.algo != zvv&&d.algo != s64 then 7 else bif !zvy d.text (zvr d) then 2 else bif zuQ l d.algo k then 10 else 0
def zuP(l:List Dg)(k:Nat):Int:=match l[k]? with
 |none=>0|some d=>zuW l d k
def zuO(l:List Dg):Int:=bif decide (4<len l) then 3 else ff (zuP l) l.length
def Small(l:List Dg):Prop:=∀d∈l,d.text.length<=1000000000
def f8(orc:Orc Sx)(l:List Dg)(t1:Int×Unit):Option ((Int×Unit)⊕(Unit⊕(Int×Unit))):=(br (decide (t1.1<(len l))) (ob (at? l t1.1) λy2=>(zaJ (σ:=Int×Unit) (R:=_) (br ((Gt.Digest.algo y2)==[115,117,109,54,52]) (some (.inl (16,()))) (some (.inl (64,())))) λ(t3:Int×Unit)=>(ob (br ((Gt.Digest.algo y2) != [115,104,97,50,53,54]) (some ((Gt.Digest.algo y2) != [115,117,109,54,52])) (some false)) λb4=>(br b4 (some (.inr (.inr (7,())))) (ob (α:=Bool×Unit) (orc.d 13 [.str (Gt.Digest.text y2),.int .i64 t3.1] [.bool]) λ(r5:Bool×Unit)=>(br (!r5.1) (some (.inr (.inr (2,())))) (ob (br (decide (0<t1.1)) (ob (at? l (IntKind.i64.wrap (t1.1 - 1))) λy6=>(some ((Op.bytesLess (Gt.Digest.algo y2) (Gt.Digest.algo y6))||((Gt.Digest.algo y2)==(Gt.Digest.algo y6))))) (some false)) λb7=>(br b7 (some (.inr (.inr (10,())))) (some (.inl ((IntKind.i64.wrap (t1.1+1)),()))))))))))) (some (.inr (.inl (())))))
def f9(orc:Orc Sx)(l:List Dg)(t1:Int×Unit):Option ((Int×Unit)⊕(Unit⊕(Int×Unit))):=(br (decide (t1.1<(len l))) (ob (at? l t1.1) λy2=>(zaJ (σ:=Int×Unit) (R:=_) (br ((Gt.Digest.algo y2)==[115,104,97,50,53,54]) (some (.inl (64,()))) (br ((Gt.Digest.algo y2)==[115,117,109,54,52]) (some (.inl (16,()))) (some (.inr (.inr (.inr (7,()))))))) λ(t3:Int×Unit)=>(ob (α:=Bool×Unit) (orc.d 14 [.str (Gt.Digest.text y2),.int .i64 t3.1] [.bool]) λ(r4:Bool×Unit)=>(br (!r4.1) (some (.inr (.inr (2,())))) (ob (br (decide (0<t1.1)) (ob (at? l (IntKind.i64.wrap (t1.1 - 1))) λy5=>(some ((Op.bytesLess (Gt.Digest.algo y2) (Gt.Digest.algo y5))||((Gt.Digest.algo y2)==(Gt.Digest.algo y5))))) (some false)) λb6=>(br b6 (some (.inr (.inr (10,())))) (some (.inl ((IntKind.i64.wrap (t1.1+1)),()))))))))) (some (.inr (.inl (())))))
def fA(y4:Dg)(b:List Dg)(t5:Int×Int×Unit):Option ((Int×Int×Unit)⊕((Int×Unit)⊕((Int×Int×Unit)⊕((Int×Unit)⊕(Int×Int×Unit))))):=(br (decide (t5.2.1<(len b))) (ob (at? b t5.2.1) λy6=>(br ((Gt.Digest.algo y4) != (Gt.Digest.algo y6)) (some (.inl (t5.1,(IntKind.i64.wrap (t5.2.1+1)),()))) (br ((Gt.Digest.text y4) != (Gt.Digest.text y6)) (some (.inr (.inr (.inr (.inr ((-1),0,())))))) (some (.inl (1,(IntKind.i64.wrap (t5.2.1+1)),())))))) (some (.inr (.inl (t5.1,())))))
noncomputable def fB(a b:List Dg)(t3:Int×Int×Unit):Option ((Int×Int×Unit)⊕((Int×Unit)⊕(Int×Int×Unit))):=(br (decide (t3.2.1<(len a))) (zaJ (σ:=Int×Unit) (R:=_) (ob (at? a t3.2.1) λy4=>(zau (σ:=Int×Int×Unit) (R:=_) (fA y4 b) (t3.1,0,()))) λ(t7:Int×Unit)=>(some (.inl (t7.1,(IntKind.i64.wrap (t3.2.1+1)),())))) (some (.inr (.inl (t3.1,())))))
def fH(text:B)(t1:Int×Int×Unit):Option ((Int×Int×Unit)⊕((Int×Unit)⊕(B×Unit))):=(br (decide (t1.2.1<(len text))) (ob (at? text t1.2.1) λc2=>(some (.inl ((IntKind.u64.wrap ((zvM .u64 t1.1 (IntKind.u64.wrap (UInt8.toNat c2:Int)))*1099511628211)),(IntKind.i64.wrap (t1.2.1+1)),())))) (some (.inr (.inl (t1.1,())))))
def fD(h:Int)(t4:List Int×Int×Unit):Option ((List Int×Int×Unit)⊕((List Int×Unit)⊕(B×Unit))):=(br (decide (0<=t4.2.1)) (bif decide (0<=t4.2.1) then (ob (at? [48,49,50,51,52,53,54,55,56,57,97,98,99,100,101,102] (bAnd .u64 (zhM .u64 h t4.2.1) 15)) λc5=>(ob (zbf t4.1 [(UInt8.toNat c5:Int)]) λl6=>(some (.inl (l6,(IntKind.i64.wrap (t4.2.1 - 4)),()))))) else none) (some (.inr (.inl (t4.1,())))))
theorem f8_loop(n:Nat){l:List Dg}(hl:l.length<=4)(hx:Small l):zau (f8 (zal (n+2)) l) ((0:Int),())=some (if ff (zuP l) l.length≠0 then (.inr (ff (zuP l) l.length,()):Unit⊕(Int×Unit)) else .inl ()):=by
 refine znu (R:=Unit⊕(Int×Unit)) l.length (zuP l) (λc=>.inr (c,())) (.inl ()) (λk hk _=>?_) ?_
 ·unfold f8;dsimp only;rw[decide_eq_true (zaW.mpr hk),zad,zaX hk,zaa,zaD hk (by omega)];have hd:(zaJ (σ:=Int×Unit) (R:=(Int×Unit)⊕(Unit⊕(Int×Unit))) (br ((Gt.Digest.algo l[k])==[115,117,109,54,52]) (some (.inl (16,()))) (some (.inl (64,()))))=λg=>g (zvr l[k],())):=by
   funext g;unfold zvr;show zaJ (br (l[k].algo==s64) _ _) g=_;cases l[k].algo==s64<;>rfl
  rw[hd];dsimp only;have h13:=L13 n (s:=l[k].text) (hx _ (yBg hk)) (zvr l[k]);have e7:ob (br ((Gt.Digest.algo l[k]) != [115,104,97,50,53,54]) (some ((Gt.Digest.algo l[k]) != [115,117,109,54,52])) (some false))=λ(g:Bool->Option ((Int×Unit)⊕(Unit⊕(Int×Unit))))=>g (l[k].algo != zvv&&l[k].algo != s64):=by funext g;show ob (br (l[k].algo != zvv) (some (l[k].algo != s64)) (some false)) g=_;rw[zav,zve];rfl
  rw[e7];dsimp only;have eF:zuP l k=zuW l l[k] k:=by unfold zuP;rw[yAh hk]
  rw[eF];unfold zuW;refine zqu (out:=λc=>(.inr (c,()):Unit⊕(Int×Unit))) 7 (by decide) λ_=>?_;refine (congrArg (λy:Option (Bool×Unit)=>ob y _) h13).trans ?_;rw[zaa];refine zqu (out:=λc=>(.inr (c,()):Unit⊕(Int×Unit))) 2 (by decide) λ_=>?_;cases k with
  |zero=>rfl|succ j =>
    have hj:j<l.length:=(by omega);have hw:IntKind.i64.wrap (((j+1:Nat):Int) - 1)=(j:Int):=(by rw[zbT (by omega) (by omega)];omega);rw[decide_eq_true (by omega),zad,hw,zaX hj,zaa,zaa];have e:zuQ l l[j+1].algo (j+1)=ord1 l[j+1].algo l[j].algo:=by unfold zuQ;dsimp only;rw[yAh hj]
    rw[e];exact zqu (out:=λc=>(.inr (c,()):Unit⊕(Int×Unit))) 10 (by decide) λ_=>rfl
 ·unfold f8;dsimp only;rw[decide_eq_false (by simp[len]),zab]
theorem L8(n:Nat){l:List Dg}(hx:Small l): @Eq (Option (Int×Unit)) ((zal (n+3)).d 8 [.sl (.st 1) l] [(.int .i64)]) (some (zuO l,())):=by
 refine (q8 (n+2) _).trans ?_;unfold zuO;show br (decide (4<len l)) (some (3,())) (zaJ (zau (f8 (zal (n+2)) l) (0,())) λ_=>some (0,()))=_;cases h4:decide (4<len l) with
 |true=>rfl|false =>
   rw[zab,cond_false];have hl:l.length<=4:=by have:=of_decide_eq_false h4;unfold len at this;omega
   refine zaA (f8_loop n hl hx) ?_;by_cases h0:ff (zuP l) l.length=0;·rw[if_neg (by simpa using h0),h0];rfl
   ·rw[if_pos h0];rfl
theorem f9_loop(n:Nat){l:List Dg}(hl:l.length<=4)(hx:Small l):zau (f9 (zal (n+1)) l) ((0:Int),())=some (if ff (zuP l) l.length≠0 then (.inr (ff (zuP l) l.length,()):Unit⊕(Int×Unit)) else .inl ()):=by
 refine znu (R:=Unit⊕(Int×Unit)) l.length (zuP l) (λc=>.inr (c,())) (.inl ()) (λk hk _=>?_) ?_
 ·unfold f9;dsimp only;rw[decide_eq_true (zaW.mpr hk),zad,zaX hk,zaa,zaD hk (by omega)];have eF:zuP l k=zuW l l[k] k:=by unfold zuP;rw[yAh hk]
  rw[eF];unfold zuW;have hd:∀g:Int×Unit->Option ((Int×Unit)⊕(Unit⊕(Int×Unit))),zaJ (σ:=Int×Unit) (R:=(Int×Unit)⊕(Unit⊕(Int×Unit))) (br ((Gt.Digest.algo l[k])==[115,104,97,50,53,54]) (some (.inl (64,()))) (br ((Gt.Digest.algo l[k])==[115,117,109,54,52]) (some (.inl (16,()))) (some (.inr (.inr (.inr (7,()))))))) g=br (l[k].algo != zvv&&l[k].algo != s64) (some (.inr (.inr (7,())))) (g (zvr l[k],())):=by
   intro g;unfold zvr;show zaJ (br (l[k].algo==zvv) _ (br (l[k].algo==s64) _ _)) g=_;simp only[bne];cases h2:l[k].algo==zvv with
   |true =>
     have:(l[k].algo==s64)=false:=by rw[beq_iff_eq.1 h2];rfl
     rw[this];rfl
   |false=>cases l[k].algo==s64<;>rfl
  rw[hd];have h14:=L14 n (s:=l[k].text) (hx _ (yBg hk)) (zvr l[k]);refine zqu (out:=λc=>(.inr (c,()):Unit⊕(Int×Unit))) 7 (by decide) λ_=>?_;dsimp only;refine (congrArg (λy:Option (Bool×Unit)=>ob y _) h14).trans ?_;rw[zaa];refine zqu (out:=λc=>(.inr (c,()):Unit⊕(Int×Unit))) 2 (by decide) λ_=>?_;cases k with
  |zero=>rfl|succ j =>
    have hj:j<l.length:=(by omega);have hw:IntKind.i64.wrap (((j+1:Nat):Int) - 1)=(j:Int):=(by rw[zbT (by omega) (by omega)];omega);rw[decide_eq_true (by omega),zad,hw,zaX hj,zaa,zaa];have e:zuQ l l[j+1].algo (j+1)=ord1 l[j+1].algo l[j].algo:=by unfold zuQ;dsimp only;rw[yAh hj]
    rw[e];exact zqu (out:=λc=>(.inr (c,()):Unit⊕(Int×Unit))) 10 (by decide) λ_=>rfl
 ·unfold f9;dsimp only;rw[decide_eq_false (by simp[len]),zab]
theorem L9(n:Nat){l:List Dg}(hx:Small l): @Eq (Option (Int×Unit)) ((zal (n+2)).d 9 [.sl (.st 1) l] [(.int .i64)]) (some (zuO l,())):=by
 refine (q9 (n+1) _).trans ?_;unfold zuO;show br (decide (4<len l)) (some (3,())) (zaJ (zau (f9 (zal (n+1)) l) (0,())) λ_=>some (0,()))=_;cases h4:decide (4<len l) with
 |true=>rfl|false =>
   rw[zab,cond_false];have hl:l.length<=4:=by have:=of_decide_eq_false h4;unfold len at this;omega
   refine zaA (f9_loop n hl hx) ?_;by_cases h0:ff (zuP l) l.length=0;·rw[if_neg (by simpa using h0),h0];rfl
   ·rw[if_pos h0];rfl
theorem zuZ{l:List Dg}(h:zuO l=0):l.length<=4:=by
 unfold zuO at h;cases h4:decide (4<len l) with
 |true=>rw[h4] at h;cases h|false=>have:=of_decide_eq_false h4;unfold len at this;omega
def clash(x:Dg)(b:List Dg):Bool:=b.any λy=>x.algo==y.algo&&x.text != y.text
def meets(x:Dg)(b:List Dg):Bool:=b.any λy=>x.algo==y.algo
def agS(a b:List Dg):Int:=bif a.any (λx=>clash x b) then -1 else bif a.any (λx=>meets x b) then 1 else 0
theorem zu1(x:Dg){b:List Dg}(hb:b.length<=4):∀(d j:Nat)(o:Int),j+d=b.length ->
  zau (fA x b) (o,(j:Int),())=some (bif clash x (b.drop j) then .inr (.inr (.inr (-1,0,()))) else .inl (bif meets x (b.drop j) then 1 else o,()))
 |0,j,o,h=>by
   obtain rfl:j=b.length:=by omega
   rw[yBz];refine zao ?_;unfold fA;dsimp only;rw[decide_eq_false (by simp[len]),zab];rfl
 |d+1,j,o,h=>by
   have hj:j<b.length:=(by omega);have e:fA x b (o,(j:Int),())=br (x.algo != b[j].algo) (some (.inl (o,((j+1:Nat):Int),()))) (br (x.text != b[j].text) (some (.inr (.inr (.inr (.inr ((-1),0,())))))) (some (.inl (1,((j+1:Nat):Int),())))):=(by unfold fA;dsimp only;rw[decide_eq_true (zaW.mpr hj),zad,zaX hj,zaa,zaD hj (by omega)]);rw[yAI hj];have ec:clash x (b[j]::b.drop (j+1))=((x.algo==b[j].algo&&x.text != b[j].text)||clash x (b.drop (j+1))):=rfl;have em:meets x (b[j]::b.drop (j+1))=((x.algo==b[j].algo)||meets x (b.drop (j+1))):=rfl;rw[ec,em];rw[bne] at e;cases h1:(x.algo==b[j].algo) with
   |false =>rw[h1] at e;rw[zay e,zu1 x hb d (j+1) o (by omega)];rfl|true =>
     rw[h1] at e;cases h2:(x.text != b[j].text) with
     |true=>rw[h2] at e;exact zao e|false =>rw[h2] at e;rw[zay e,zu1 x hb d (j+1) 1 (by omega)];simp
theorem zva{a b:List Dg}(ha:a.length<=4)(hb:b.length<=4):∀(d j:Nat)(o:Int),j+d=a.length ->
  zau (fB a b) (o,(j:Int),())=some (bif (a.drop j).any (λx=>clash x b) then .inr (-1,0,()) else .inl (bif (a.drop j).any (λx=>meets x b) then 1 else o,()))
 |0,j,o,h=>by
   obtain rfl:j=a.length:=by omega
   rw[yBz];refine zao ?_;unfold fB;dsimp only;rw[decide_eq_false (by simp[len]),zab];rfl
 |d+1,j,o,h=>by
   have hj:j<a.length:=(by omega);have hA:=zu1 a[j] hb b.length 0 o (by omega);rw[yBB,show ((0:Nat):Int)=0 from rfl] at hA;have e:fB a b (o,(j:Int),())=(bif clash a[j] b then some (.inr (.inr (-1,0,()))) else some (.inl (bif meets a[j] b then 1 else o,((j+1:Nat):Int),()))):=(by unfold fB;dsimp only;rw[decide_eq_true (zaW.mpr hj),zad,zaX hj,zaa,zaD hj (by omega),hA];cases clash a[j] b<;>rfl);rw[yAI hj,yCh,yCh];cases h1:clash a[j] b with
   |true=>rw[h1] at e;exact zao e|false =>
     rw[h1] at e;rw[zay e,zva ha hb d (j+1) _ (by omega)];cases meets a[j] b;·rfl
     ·simp
def zuR(a b:List Dg):Int×Int×Unit:=bif zuO a != 0 then (0,zuO a,()) else bif zuO b != 0 then (0,zuO b,()) else (agS a b,0,())
theorem zvn{a b:List Dg}(ha:zuO a=0)(hb:zuO b=0):zaJ (zau (fB a b) (0,0,())) (λt8=>some (t8.1,0,()))=some (agS a b,(0:Int),()):=by have h:=zva (zuZ ha) (zuZ hb) a.length 0 0 (by omega);rw[yBB,show ((0:Nat):Int)=0 from rfl] at h;refine (congrArg (λy:Option ((Int×Unit)⊕(Int×Int×Unit))=>zaJ y _) h).trans ?_;unfold agS;cases a.any (λx=>clash x b)<;>rfl
theorem L4(n:Nat){a b:List Dg}(ha:Small a)(hb:Small b): @Eq (Option (Int×Int×Unit)) ((zal (n+4)).d 4 [.sl (.st 1) a,.sl (.st 1) b] [(.int .i64),(.int .i64)]) (some (zuR a b)):=by
 refine (q4 (n+3) _ _).trans ?_;show ob (α:=Int×Unit) ((zal (n+3)).d 8 [.sl (.st 1) a] [(.int .i64)]) (λr1=>br (r1.1 != 0) (some (0,r1.1,())) (ob (α:=Int×Unit) ((zal (n+3)).d 8 [.sl (.st 1) b] [(.int .i64)]) λr2=>br (r2.1 != 0) (some (0,r2.1,())) (zaJ (zau (fB a b) (0,0,())) (λt8=>some (t8.1,0,())))))=_;rw[L8 n ha,zaa,L8 n hb,zaa];unfold zuR;cases h1:(zuO a != 0) with
 |true=>rfl|false =>
   cases h2:(zuO b != 0) with
   |true=>rfl|false =>rw[zab,zab,zvn (by simpa using h1) (by simpa using h2)];rfl
def f5(orc:Orc Sx)(a b:List Dg)(t1:List (List Dg)×Int×Unit):Option ((List (List Dg)×Int×Unit)⊕(Unit⊕(Int×Int×Unit))):=(br (decide (t1.2.1<(len [a,b]))) (ob (at? t1.1 t1.2.1) λy2=>(ob (α:=Int×Unit) (orc.d 9 [.sl (.st 1) y2] [(.int .i64)]) λ(r3:Int×Unit)=>(br (r3.1 != 0) (some (.inr (.inr (0,r3.1,())))) (some (.inl (t1.1,(IntKind.i64.wrap (t1.2.1+1)),())))))) (some (.inr (.inl (())))))
theorem L5(n:Nat){a b:List Dg}(ha:Small a)(hb:Small b): @Eq (Option (Int×Int×Unit)) ((zal (n+3)).d 5 [.sl (.st 1) a,.sl (.st 1) b] [(.int .i64),(.int .i64)]) (some (zuR a b)):=by
 refine (q5 (n+2) _ _).trans ?_;show zaJ (zau (f5 (zal (n+2)) a b) ([a,b],0,())) (λ_=>zaJ (zau (fB a b) (0,0,())) (λt8=>some (t8.1,0,())))=_;have e0:f5 (zal (n+2)) a b ([a,b],0,())=br (zuO a != 0) (some (.inr (.inr (0,zuO a,())))) (some (.inl ([a,b],1,()))):=by unfold f5;dsimp only;rw[show decide ((0:Int)<len [a,b])=true from rfl,zad,show at? [a,b] 0=some a from rfl,zaa];refine (congrArg (λy:Option (Int×Unit)=>ob y _) (L9 n ha)).trans ?_;rfl
 have e1:f5 (zal (n+2)) a b ([a,b],1,())=br (zuO b != 0) (some (.inr (.inr (0,zuO b,())))) (some (.inl ([a,b],2,()))):=by unfold f5;dsimp only;rw[show decide ((1:Int)<len [a,b])=true from rfl,zad,show at? [a,b] 1=some b from rfl,zaa];refine (congrArg (λy:Option (Int×Unit)=>ob y _) (L9 n hb)).trans ?_;rfl
 have e2:f5 (zal (n+2)) a b ([a,b],2,())=some (.inr (.inl ())):=by unfold f5;dsimp only;rw[show decide ((2:Int)<len [a,b])=false from rfl,zab]
 unfold zuR;cases h1:(zuO a != 0) with
 |true=>rw[h1] at e0;exact zaA (zao e0) rfl|false =>
   rw[h1] at e0;cases h2:(zuO b != 0) with
   |true=>rw[h2] at e1;exact zaA ((zay e0).trans (zao e1)) rfl|false =>rw[h2] at e1;refine zaA ((zay e0).trans ((zay e1).trans (zao e2))) ?_;exact zvn (by simpa using h1) (by simpa using h2)
theorem zu4(a b:List Dg):a.any (λx=>clash x b)=b.any (λx=>clash x a):=by
 rw[yBE];simp only[clash,yBc,yAd,beq_iff_eq,bne_iff_ne,ne_eq];constructor
 ·rintro ⟨x,hx,y,hy,h1,h2⟩;exact ⟨y,hy,x,hx,h1.symm,λe=>h2 e.symm⟩
 ·rintro ⟨x,hx,y,hy,h1,h2⟩;exact ⟨y,hy,x,hx,h1.symm,λe=>h2 e.symm⟩
theorem zu3(a b:List Dg):a.any (λx=>meets x b)=b.any (λx=>meets x a):=by
 rw[yBE];simp only[meets,yBc,beq_iff_eq];constructor
 ·rintro ⟨x,hx,y,hy,h1⟩;exact ⟨y,hy,x,hx,h1.symm⟩
 ·rintro ⟨x,hx,y,hy,h1⟩;exact ⟨y,hy,x,hx,h1.symm⟩
theorem zvu(a b:List Dg):agS b a=agS a b:=by unfold agS;rw[zu4 b a,zu3 b a]
end Pe.Tryd
end
section
/- PROVED in plain: Sum64 answers as the reference does; the law. -/
set_option maxRecDepth 100000
namespace Pe.Tryd
open Go Go.Proofs Pe Pe.Told
open Go.Proofs.YtiapbmjlocfhgaaDoor
theorem zfq(s:List UInt8):zdM (zah s)=s:=by simp[zdM,zah,Function.comp_def]
theorem zbi(a:List UInt8):(zah a).length=a.length:=by simp[zah]
def zuY(N:Nat):B:=(List.range 16).map λj=>hx (N / 16 ^ (15 - j) % 16)
theorem zuT:∀(f n:Nat),0<f->n<16 ^ f->zuS f n+1<=f/\n<16 ^ (zuS f n+1)
 |0,_,h,_=>by omega
 |f+1,n,_,h=>by
   by_cases h16:n<16;·rw[zu0 h16];exact ⟨by omega,by simpa using h16⟩
   ·have hf:0<f:=by
     rcases Nat.eq_zero_or_pos f with rfl|h1;·simp at h;omega
     ·exact h1
    have hn:n / 16<16 ^ f:=(by rw[Nat.pow_succ] at h;omega);obtain ⟨h1,h2⟩:=zuT f (n / 16) hf hn;have e:zuS (f+1) n=1+zuS f (n / 16):=by rw[zuS,if_neg h16]
    rw[e];refine ⟨by omega,?_⟩;rw[show 1+zuS f (n / 16)+1=(zuS f (n / 16)+1)+1 by omega,Nat.pow_succ];omega
theorem zvq(c:Nat):(Lib.repeatL [48] c).length=c:=by rw[Lib.repeatL_length];simp
theorem zvg:∀c,Lib.repeatL [48] c=List.replicate c 48|0=>rfl|c+1=>by rw[Lib.repeatL,zvg c];rfl
theorem zvz{N:Nat}(h:N<18446744073709551616):Lib.repeatL [48] (16 - (zuS 16 N+1))++hexL N=zuY N:=by
 obtain ⟨h1,h2⟩:=zuT 16 N (by omega) (by show N<16 ^ 16;omega);rw[zvg];refine List.ext_getElem (by simp[hexL,zuY];omega) λj hj1 hj2=>?_;have hj:j<16:=by simpa[zuY] using hj2
 rw[List.getElem_append];have er:(zuY N)[j]=hx (N / 16 ^ (15 - j) % 16):=by simp[zuY]
 refine Eq.trans ?_ er.symm;by_cases hlt:j<16 - (zuS 16 N+1)
 ·rw[dif_pos (by simpa using hlt),List.getElem_replicate];have:N / 16 ^ (15 - j)=0:=by
   refine Nat.div_eq_of_lt (yAq h2 (Nat.pow_le_pow_right (by decide) (by omega)))
  rw[this];rfl
 ·rw[dif_neg (by simpa using hlt)];simp only[hexL,List.getElem_map,yCp,yCc];congr 4;omega
def zvc(h:Int)(c:UInt8):Int:=IntKind.u64.wrap ((zvM .u64 h (IntKind.u64.wrap (UInt8.toNat c:Int)))*1099511628211)
def fnv(s:B):Int:=s.foldl zvc 14695981039346656037
theorem zu6(n:Int):0<=IntKind.u64.wrap n/\IntKind.u64.wrap n<18446744073709551616:=by simp[IntKind.wrap,IntKind.signed,IntKind.bits];omega
theorem zuV(s:B):0<=fnv s/\fnv s<18446744073709551616:=by
 have:∀(s:B)(h:Int),(0<=h/\h<18446744073709551616)->0<=s.foldl zvc h/\s.foldl zvc h<18446744073709551616:=by
  intro s;induction s with
  |nil=>intro h hh;exact hh
  |cons c s ih=>intro h _;exact ih _ (zu6 _)
 exact this s _ (by decide)
theorem zu9{s:B}(hs:s.length<=1000000000):zau (fH s) (14695981039346656037,0,())=some (.inl (fnv s,())):=by
 refine zgf (R:=(Int×Unit)⊕(B×Unit)) (λk (h:Int)=>(h,(k:Int),())) s zvc (λh=>.inl (h,())) (λ_ _=>True) (λk hk h _=>⟨?_,trivial⟩) (λh _=>?_) 14695981039346656037 trivial;·unfold fH;dsimp only;rw[decide_eq_true (zaW.mpr hk),zad,zaX hk,zaa,zaD hk (by omega)];rfl
 ·unfold fH;dsimp only;rw[decide_eq_false (by simp[len]),zab]
theorem L11(n:Nat)(u b:Int): @Eq (Option (List UInt8×Unit)) ((zal (n+1)).d 11 [.int .u64 u,.int .i64 b] [.str]) (zvx u b):=by kernel_rfl
theorem L12(n:Nat)(s:B)(c:Int): @Eq (Option (List UInt8×Unit)) ((zal (n+1)).d 12 [.str s,.int .i64 c] [.str]) (zvw s c):=by kernel_rfl
theorem zvs{N:Nat}(h:N<18446744073709551616):zvx (N:Int) 16=some (hexL N,()):=by unfold zvx;rw[decide_eq_true (by omega),decide_eq_true (by omega)];simp
theorem L6(n:Nat){s:B}(hs:s.length<=1000000000): @Eq (Option (List UInt8×Unit)) ((zal (n+2)).d 6 [.str s] [.str]) (some (zuY (fnv s).toNat,())):=by
 refine (q6 (n+1) _).trans ?_;obtain ⟨h0,h1⟩:=zuV s;obtain ⟨N,hN⟩:∃N:Nat,fnv s=(N:Int):=⟨(fnv s).toNat,by omega⟩;have hlt:N<18446744073709551616:=by omega
 obtain ⟨hl,_⟩:=zuT 16 N (by omega) (by show N<16 ^ 16;omega);have hlen:(hexL N).length=zuS 16 N+1:=by simp[hexL]
 have hL:=zu9 hs;refine (show _=zaJ (zau (fH s) (14695981039346656037,0,())) (λt3=>(ob (α:=List UInt8×Unit) ((zal (n+1)).d 11 [.int .u64 t3.1,.int .i64 16] [.str]) λ(r4:List UInt8×Unit)=>(ob (α:=List UInt8×Unit) ((zal (n+1)).d 12 [.str [48],.int .i64 (IntKind.i64.wrap (16 - (len r4.1)))] [.str]) λ(r5:List UInt8×Unit)=>(ob (zbf r5.1 r4.1) λs6=>(some (s6,())))))) from rfl).trans ?_;rw[hL,zai,hN];refine (congrArg (λy:Option (List UInt8×Unit)=>ob y _) ((L11 n N 16).trans (zvs hlt))).trans ?_;rw[zaa];have hw:IntKind.i64.wrap (16 - len (hexL N))=((16 - (zuS 16 N+1):Nat):Int):=by unfold len;rw[hlen,zbT (by omega) (by omega)];omega
 have hr:zvw [48] ((16 - (zuS 16 N+1):Nat):Int)=some (Lib.repeatL [48] (16 - (zuS 16 N+1)),()):=by unfold zvw;rw[decide_eq_true (by omega),decide_eq_true (by omega)];rfl
 dsimp only;rw[hw];refine (congrArg (λy:Option (List UInt8×Unit)=>ob y _) ((L12 n [48] _).trans hr)).trans ?_;rw[zaa,zbj (by rw[zvq,hlen];simp[lim];omega),zaa,zvz hlt];rfl
theorem zvd:∀d:Nat,d<16->at? ([48,49,50,51,52,53,54,55,56,57,97,98,99,100,101,102]:List UInt8) (d:Int)=some (hx d):=by decide+kernel
theorem and16{M:Nat}(h:M<18446744073709551616):bAnd .u64 (M:Int) 15=((M % 16:Nat):Int):=Go.Proofs.YtiapbmjlocfhgaaDoor.and15 M h
theorem shr16(N:Nat){k:Nat}(h:k<16):zhM .u64 (N:Int) (60 - 4*(k:Int))=((N / 16 ^ (15 - k):Nat):Int):=by
 unfold zhM;have e:min (60 - 4*(k:Int)).toNat IntKind.u64.bits=4*(15 - k):=by show min (60 - 4*(k:Int)).toNat 64=_;omega
 have e2:(2:Int) ^ (4*(15 - k))=((16 ^ (15 - k):Nat):Int):=by have:(2 ^ (4*(15 - k)):Nat)=16 ^ (15 - k):=Nat.pow_mul 2 4 (15 - k);rw[<-this,Int.natCast_pow];rfl
 rw[e,Int.fdiv_eq_ediv_of_nonneg _ (Int.pow_nonneg (by decide)),e2];rfl
theorem zvt{N:Nat}(hN:N<18446744073709551616):zau (fD (N:Int)) ([],60,())=some (.inl (zah (zuY N),())):=by
 refine (zgf (λk (a:B)=>(zah a,60 - 4*(k:Int),())) (List.range 16) (λa j=>a++[hx (N / 16 ^ (15 - j) % 16)]) (λa=>.inl (zah a,())) (λk a=>a.length<=k) (λk hk a hI=>?_) (λa _=>?_) [] (by simp)).trans ?_
 ·have hk:k<16:=by simpa using hk
  rw[yCp];refine ⟨?_,by simp;omega⟩;unfold fD;dsimp only;rw[decide_eq_true (by omega),zad,cond_true,shr16 N hk,and16 (Nat.lt_of_le_of_lt (Nat.div_le_self _ _) hN),zvd _ (Nat.mod_lt _ (by decide)),zaa];rw[zbj (by rw[zbi];simp[lim];omega),zaa,zbT (by omega) (by omega)];congr 4;·simp[zah]
  ·omega
 ·unfold fD;dsimp only;rw[decide_eq_false (by simp),zab]
 ·congr 3
theorem L7(n:Nat){s:B}(hs:s.length<=1000000000): @Eq (Option (List UInt8×Unit)) ((zal (n+1)).d 7 [.str s] [.str]) (some (zuY (fnv s).toNat,())):=by
 refine (q7 n _).trans ?_;obtain ⟨h0,h1⟩:=zuV s;obtain ⟨N,hN⟩:∃N:Nat,fnv s=(N:Int):=⟨(fnv s).toNat,by omega⟩;have hlt:N<18446744073709551616:=by omega
 refine (show _=zaJ (zau (fH s) (14695981039346656037,0,())) (λt3=>zaJ (zau (fD t3.1) ([],60,())) λt7=>some (zdM t7.1,())) from rfl).trans ?_;rw[zu9 hs,zai,hN];dsimp only;rw[zvt hlt,zai];dsimp only;rw[zfq];rfl
theorem L3(n:Nat){s:B}{a b:List Dg}(hs:s.length<=1000000000)(ha:Small a)(hb:Small b):m3 (zal (n+7)) s a b=some (true,()):=by
 unfold m3;rw[L4 (n+3) ha hb,zaa,L5 (n+4) ha hb,zaa,L4 (n+3) hb ha,zaa,L6 (n+5) hs,zaa,L7 (n+6) hs,zaa,L8 (n+4) ha,L9 (n+5) ha,told n];simp only[zaa,beq_self_eq_true,zav];have key:(bif (zuR a b).2.1 != 0 then true else bif (zuR b a).1==(zuR a b).1 then (zuR b a).2.1==0 else false)=true:=by
  unfold zuR;cases h1:(zuO a != 0) with
  |true=>simp only[cond_true];rw[h1];rfl|false =>
    cases h2:(zuO b != 0) with
    |true=>simp only[cond_true,cond_false];rw[h2];rfl|false=>simp only[cond_false];rw[zvu a b];simp
 simp only[key,cond_true]
end Pe.Tryd
end
