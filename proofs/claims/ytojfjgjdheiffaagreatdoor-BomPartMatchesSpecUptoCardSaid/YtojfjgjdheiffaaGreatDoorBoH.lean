/- PROVED HERE: a part of the seat's proofs; see the text that holds the claim's theorem. -/
import Derived.Test.YtojfjgjdheiffaaGreatDoorCards
import Derived.Test.YtojfjgjdheiffaaGreatDoorTie
import Derived.ProofKit
import Derived.Deep.DeepHandedRow
import Derived.LaidMore
import Derived.Lay
import Derived.Test.YtojfjgjdheiffaaGreatDoorBoJ
set_option maxRecDepth 100000
section
namespace Go.Proofs.YtojfjgjdheiffaaGreatDoor
open Go Go.RowKit Go.WideShapes Go.ChangeShapes Go.ChangeAt
section
variable{H:Type}{enc:TypeId×Value->H}{P:Program}
theorem zlM{C:Checked}{os:Os}{f:FuncId}{fn:Func}{s:OpenSpec}{conds:List PathCond}{apart:Bool}{laid:List (String×DataW Unit)}(modest:Bool)(w0:World)(args:Array Value)(hos:w0.os=os)
  (hsh:(w0.forCall (λ_ _=>0) ⟨#[],args,[]⟩).Shaped C.prog)
  (hok:Input.okWideB C.prog (w0.forCall (λ_ _=>0) ⟨#[],args,[]⟩) f ⟨#[],args,[]⟩=true)
  (Kp:s.preRow enc C.prog fn conds apart laid (w0.forCall (λ_ _=>0) ⟨#[],args,[]⟩).memory args) :
  ∃(w:World) (tape:Tape) (i:Input),w.os=os/\(w.forCall tape i).Shaped C.prog/\i.vars=[]/\Input.okWide C.prog (w.forCall tape i) .any w.heap.size f i /\
   s.preRow enc C.prog fn conds apart laid (w.forCall tape i).memory i.args/\({ modest:=modest }:Assume).holds C.prog (lone (Frame.enter C.prog f i.args .normal) [] (w.forCall tape i)) :=
 ⟨w0,λ_ _=>0,⟨#[],args,[]⟩,hos,hsh,(Input.okWide_of_okWideB (base:=0) hok).1,(Input.okWide_of_okWideB hok).2,Kp,by simp only[Assume.holds];exact ⟨by simp,by simp,λ_=>Modest.zero,by simp,by simp⟩⟩
end
theorem own:ownKnob Tryz.prog.godebug=none:=by kernel_rfl
theorem u9:Tryz.prog.underlying 9=some .string:=by kernel_rfl
theorem u4:Tryz.prog.underlying 4=some .bool:=by kernel_rfl
def zd2:List (String×DataW Unit):=Rows.bomPartMatchesSpecRow.laid
theorem fits0(os:Os):(World.holding Tryz.prog os ⟨#[],#[],[]⟩).layFits Tryz.prog zd2 []=true:=by kernel_rfl
theorem zrP(os:Os):(World.holding Tryz.prog os ⟨#[],#[],[]⟩).layIfaces Tryz.prog zd2 (World.laidAll Tryz.prog os zd2)=true:=by kernel_rfl
theorem zqI(os:Os)(args:Array Value):laidMetH Tryz.prog zd2 ((World.laidAll Tryz.prog os zd2).forCall (λ_ _=>0) ⟨#[],args,[]⟩).memory:=by rw[MakeChecks.laidMetH_plain _ _ _ (by kernel_rfl)];grind[laidMet_laidAll,fits0,zrP]
theorem zrr(os:Os)(args:Array Value):((World.laidAll Tryz.prog os zd2).forCall (λ_ _=>0) ⟨#[],args,[]⟩).Shaped Tryz.prog :=
 World.shaped_of_ZipB (by kernel_rfl) (by kernel_rfl)
end Go.Proofs.YtojfjgjdheiffaaGreatDoor
end
section
namespace Pe
open Go Go.RowKit
theorem DR.split1{S:Nat->Type}{un:Uni S}{D:Dat}{w:World}{u:U}{us:List U}{t:ElL S (u::us)}{cs:List Value}(h:DR un D w (u::us) t cs):∃c r,cs=c++r/\DR un D w [u] (sg (hd t)) c/\DR un D w us (tl t) r:=by
 cases h with
 |int h=>exact ⟨[_],_,rfl,.int .nil,h⟩|bool h=>exact ⟨[_],_,rfl,.bool .nil,h⟩|str h=>exact ⟨[_],_,rfl,.str .nil,h⟩|sl0 A c h0 h=>exact ⟨[_],_,rfl,.sl0 A c h0 .nil,h⟩|sl b off c cs hc a1 a2 h=>exact ⟨[_],_,rfl,.sl b off c cs hc a1 a2 .nil,h⟩|mp kc vc a1 a2 h=>exact ⟨[_],_,rfl,.mp kc vc a1 a2 .nil,h⟩|rw cs a1 h=>exact ⟨[_],_,rfl,.rw cs a1 .nil,h⟩|cs0 A h0 h=>exact ⟨[_],_,rfl,.cs0 A h0 .nil,h⟩|cs b off c a1 a2 h=>exact ⟨[_],_,rfl,.cs b off c a1 a2 .nil,h⟩|st a1 h =>rename_i cs1 _;have:=DR.st (un:=un) (D:=D) (w:=w) (us:=[]) (t:=sg (hd t)) (vs:=[]) a1 .nil;rw[yAR] at this;exact ⟨cs1,_,rfl,this,h⟩
end Pe
namespace Pe.Tryz
open Go Go.Proofs Pe Go.RowKit
def zqQ:List U:=[.str,.st 11,.sl (.st 6),.str,.sl .str]
def zmh(c:Gt.Kd):ElL Sx zqQ:=(c.ref,c.purl,c.K7,c.K1,c.files,())
theorem zr3(x:Gt.Kd)(D:Dat)(w:World)(cs:List Value)(h:DR un D w zqQ (zmh x) cs):DR un D w (un.codes 5) (un.get 5 x) cs:=by
 obtain ⟨c1,r1,rfl,a1,h1⟩:=h.split1;obtain ⟨c2,r2,rfl,a2,h2⟩:=h1.split1;have a2:DR un D w [.st 11] (sg (u:= .st 11) x.purl) c2:=a2;have hp:DR un D w (un.codes 11) (un.get 11 x.purl) c2:=by
  generalize hy:sg (S:=Sx) (u:= .st 11) x.purl=y at a2;cases a2 with
  |st b1 b2=>cases b2;subst hy;rw[yAR];exact b1
 obtain ⟨p1,q1,rfl,b1,hp1⟩:=hp.split1;obtain ⟨p2,q2,rfl,b2,hp2⟩:=hp1.split1;obtain ⟨p3,q3,rfl,b3,hp3⟩:=hp2.split1;obtain ⟨p4,q4,rfl,b4,hp4⟩:=hp3.split1;obtain ⟨p5,q5,rfl,b5,hp5⟩:=hp4.split1;obtain ⟨p6,q6,rfl,b6,hp6⟩:=hp5.split1;have hq:q6=[]:=by cases hp6;rfl
 subst hq;have:=DR.one_cons a1 (DR.one_cons b1 (DR.one_cons b2 (DR.one_cons b3 (DR.one_cons b4 (DR.one_cons b5 (DR.one_cons b6 h2))))));simp only[yA5,yAR,yBb] at this ⊢;exact this
structure G1 (n:Nat) where
 g:List U
 get:Sx n->ElL Sx g
 put:ElL Sx g->Sx n
 get_put:∀t,get (put t)=t
 dr:∀(x:Sx n)(D:Dat)(w:World)(cs:List Value),DR un D w g (get x) cs->DR un D w (un.codes n) (un.get n x) cs
 size:zcF un g=(un.codes n).length
def zsz(n:Nat):G1 n:=⟨un.codes n,un.get n,un.put n,zeM.get_put n,λ_ _ _ _ h=>h,zgi _ λu hu=>(zeM.flat n u hu).1⟩
def comp1:G1 5:=⟨zqQ,zmh,λt=>Gt.Kd.mk t.1 t.2.1 t.2.2.1 t.2.2.2.1 t.2.2.2.2.1,λ_=>rfl,zr3,rfl⟩
def zsi(n:Nat):G1 n:=if h:n=5 then h▸comp1 else zsz n
def zmZ:Grp un:=⟨λn=>(zsi n).g,λn=>(zsi n).get,λn=>(zsi n).put,λn=>(zsi n).get_put,λn=>(zsi n).dr,λn=>(zsi n).size⟩
end Pe.Tryz
namespace Go.Proofs.YtojfjgjdheiffaaGreatDoor
open Go Go.RowKit Go.WideShapes Go.ChangeShapes Go.ChangeAt Pe Pe.Tryz
def mL:List (U×TypeId):=[(.str,9),(.int .i64,3),(.st 3,25),(.sl (.st 5),22),(.sl (.st 7),23),(.st 5,38),(.st 7,75),(.st 11,35),(.sl (.st 6),36),(.st 6,98),(.sl .str,26),(.sl (.st 10),33),(.st 10,153),(.sl (.st 4),58),(.st 4,117)]
def M:U->TypeId->Prop:=λu t=>(u,t)∈mL
theorem zkg:M .str 9:=by simp[M,mL]
theorem mInt:M (.int .i64) 3:=by simp[M,mL]
theorem zwt:M (.st 3) 25:=by simp[M,mL]
theorem zsG:M (.sl (.st 5)) 22:=by simp[M,mL]
theorem zsF:M (.sl (.st 7)) 23:=by simp[M,mL]
theorem mComp:M (.st 5) 38:=by simp[M,mL]
theorem mEdge:M (.st 7) 75:=by simp[M,mL]
theorem mPurl:M (.st 11) 35:=by simp[M,mL]
theorem mDigs:M (.sl (.st 6)) 36:=by simp[M,mL]
theorem mDig:M (.st 6) 98:=by simp[M,mL]
theorem mTxs:M (.sl .str) 26:=by simp[M,mL]
theorem zvk:M (.sl (.st 10)) 33:=by simp[M,mL]
theorem mPair:M (.st 10) 153:=by simp[M,mL]
theorem mCh:M (.st 4) 117:=by simp[M,mL]
theorem stepM:∀u t,M u t->ztj zmZ Tryz.prog M u t:=by
 intro u t h;simp only[M,mL,yAm,yAX,or_false,Prod.mk.injEq] at h;rcases h with ⟨rfl,rfl⟩|⟨rfl,rfl⟩|⟨rfl,rfl⟩|⟨rfl,rfl⟩|⟨rfl,rfl⟩|⟨rfl,rfl⟩|⟨rfl,rfl⟩|⟨rfl,rfl⟩|⟨rfl,rfl⟩|⟨rfl,rfl⟩|⟨rfl,rfl⟩|⟨rfl,rfl⟩|⟨rfl,rfl⟩|⟨rfl,rfl⟩|⟨rfl,rfl⟩;·exact u9
 ·exact (by kernel_rfl:Tryz.prog.underlying 3=some (.int .i64))
 ·exact ⟨by kernel_rfl,.inl ⟨_,Tryz.underlying25,⟨by kernel_rfl,by kernel_rfl,zkg,by kernel_rfl,by kernel_rfl,zkg,by kernel_rfl,by kernel_rfl,zkg,by kernel_rfl,by kernel_rfl,zsG,by kernel_rfl,by kernel_rfl,zsF,trivial⟩⟩⟩
 ·exact ⟨38,Tryz.underlying22,by kernel_rfl,by decide,mComp⟩
 ·exact ⟨75,Tryz.underlying23,by kernel_rfl,by decide,mEdge⟩
 ·exact ⟨by kernel_rfl,.inl ⟨_,Tryz.underlying38,⟨by kernel_rfl,by kernel_rfl,zkg,by kernel_rfl,by kernel_rfl,mPurl,by kernel_rfl,by kernel_rfl,mDigs,by kernel_rfl,by kernel_rfl,zkg,by kernel_rfl,by kernel_rfl,mTxs,trivial⟩⟩⟩
 ·exact ⟨by kernel_rfl,.inl ⟨_,Tryz.underlying75,⟨by kernel_rfl,by kernel_rfl,zkg,by kernel_rfl,by kernel_rfl,zkg,by kernel_rfl,by kernel_rfl,mInt,trivial⟩⟩⟩
 ·exact ⟨by kernel_rfl,.inl ⟨_,Tryz.underlying35,⟨by kernel_rfl,by kernel_rfl,zkg,by kernel_rfl,by kernel_rfl,zkg,by kernel_rfl,by kernel_rfl,zkg,by kernel_rfl,by kernel_rfl,zkg,by kernel_rfl,by kernel_rfl,zvk,by kernel_rfl,by kernel_rfl,zkg,trivial⟩⟩⟩
 ·exact ⟨98,Tryz.underlying36,by kernel_rfl,by decide,mDig⟩
 ·exact ⟨by kernel_rfl,.inl ⟨_,Tryz.underlying98,⟨by kernel_rfl,by kernel_rfl,zkg,by kernel_rfl,by kernel_rfl,zkg,trivial⟩⟩⟩
 ·exact ⟨9,Tryz.underlying26,by kernel_rfl,by decide,zkg⟩
 ·exact ⟨153,Tryz.underlying33,by kernel_rfl,by decide,mPair⟩
 ·exact ⟨by kernel_rfl,.inl ⟨_,Tryz.underlying153,⟨by kernel_rfl,by kernel_rfl,zkg,by kernel_rfl,by kernel_rfl,zkg,trivial⟩⟩⟩
 ·exact ⟨117,Tryz.underlying58,by kernel_rfl,by decide,mCh⟩
 ·exact ⟨by kernel_rfl,.inl ⟨_,Tryz.underlying117,⟨by kernel_rfl,by kernel_rfl,mInt,by kernel_rfl,by kernel_rfl,zkg,by kernel_rfl,by kernel_rfl,zkg,by kernel_rfl,by kernel_rfl,zsG,by kernel_rfl,by kernel_rfl,zsF,trivial⟩⟩⟩
theorem zrI:laidOutB Tryz.prog=true:=by kernel_rfl
theorem zne{H:Type}:∀{l:List (DataW H)}{i:Nat}{d:DataW H},l[i]?=some d->Rows.uptoBulk d<=Rows.uptoBulkAll l
 |[],i,d,h=>by simp at h
 |x::r,0,d,h=>by grind[Rows.uptoBulkAll]
 |x::r,i+1,d,h=>by have:=zne (l:=r) (i:=i) (d:=d) (by simpa using h);grind[Rows.uptoBulkAll]
theorem zqW{H:Type}(d:DataW H):1<=Rows.uptoBulk d:=by
 cases d with
 |lit l=>cases l<;>simp[Rows.uptoBulk]|_=>simp[Rows.uptoBulk]
theorem znf{H:Type}:∀(l:List (DataW H)),l.length<=Rows.uptoBulkAll l
 |[]=>by simp
 |x::r=>by have:=znf r;have:=zqW x;simp only[Rows.uptoBulkAll,yAw];omega
theorem zf8{H:Type}{u:U}{l:List (El Sx u)}{d:DataW H}{Q:El Sx u->Prop}
  (h:(d= .nil/\l=[])\/∃es sp,d= .slice es sp/\es.length=l.length/\∀(i:Nat)(x:El Sx u)(d:DataW H),l[i]?=some x->es[i]?=some d->Rd zmZ [u] (sg x) [d])
  (hb:Rows.uptoBulk d<=2000000) (hq:∀(x:El Sx u)(d:DataW H),Rd zmZ [u] (sg x) [d]->Rows.uptoBulk d<=2000000->Q x):l.length<=2000000/\∀x∈l,Q x:=by
 rcases h with ⟨rfl,rfl⟩|⟨es,sp,rfl,hl,h6⟩;·grind
 ·simp only[Rows.uptoBulk] at hb;have Ku:=znf es;refine ⟨by omega,λx hx=>?_⟩;obtain ⟨i,hi,rfl⟩:=yBH hx;have hi':es[i]?=some es[i]:=yAe (by omega);have hm:=zne hi';exact hq _ _ (h6 i _ _ (yAe hi) hi') (by omega)
theorem zoq{H:Type}(s:By)(d:DataW H)(h:Rd zmZ [.str] (sg (u:= .str) s) [d])(hb:Rows.uptoBulk d<=2000000):s.length<=2000000:=by obtain ⟨r,h0,_,_⟩:=h.inv_str;obtain ⟨rfl,_⟩:=List.cons.inj h0;have hb:Rows.uptoBulk (H:=H) (.lit (.string s))<=2000000:=hb;grind[Rows.uptoBulk]
theorem zpo{H:Type}(x:Gt.Qd)(d:DataW H)(h:Rd zmZ [.st 6] (sg (u:= .st 6) x) [d])(hb:Rows.uptoBulk d<=2000000):x.text.length<=2000000:=by obtain ⟨ps,r,h0,h1,_⟩:=h.inv_st;obtain ⟨rfl,_⟩:=List.cons.inj h0;have h1:Rd zmZ [.str,.str] ((x.algo,x.text,()):ElL Sx [.str,.str]) ps:=h1;obtain ⟨r1,rfl,w1,h2⟩:=h1.inv_str;obtain ⟨r2,rfl,w2,h3⟩:=h2.inv_str;have hb:Rows.uptoBulk (H:=H) (.agg (.lit (.string x.algo):: .lit (.string x.text)::r2))<=2000000:=hb;grind[Rows.uptoBulk,Rows.uptoBulkAll]
theorem zn6{H:Type}(x:Gt.Kd)(d:DataW H)(h:Rd zmZ [.st 5] (sg (u:= .st 5) x) [d])(hb:Rows.uptoBulk d<=2000000):SmC x:=by obtain ⟨ps,r,h0,h1,_⟩:=h.inv_st;obtain ⟨rfl,_⟩:=List.cons.inj h0;have h1:Rd zmZ zqQ (zmh x) ps:=h1;have h1:Rd zmZ [.str,.st 11,.sl (.st 6),.str,.sl .str] ((x.ref,x.purl,x.K7,x.K1,x.files,()):ElL Sx [.str,.st 11,.sl (.st 6),.str,.sl .str]) ps:=h1;obtain ⟨r1,rfl,w1,h2⟩:=h1.inv_str;obtain ⟨qs,r2,rfl,hp,h3⟩:=h2.inv_st;obtain ⟨d3,r3,rfl,k3,h4⟩:=h3.inv_sl;obtain ⟨r4,rfl,w4,h5⟩:=h4.inv_str;obtain ⟨d5,r5,rfl,k5,h6⟩:=h5.inv_sl;have hp:Rd zmZ [.str,.str,.str,.str,.sl (.st 10),.str] ((x.purl.kind,x.purl.Kz,x.purl.name,x.purl.Ko,x.purl.Kf,x.purl.sub,()):ElL Sx [.str,.str,.str,.str,.sl (.st 10),.str]) qs:=hp;obtain ⟨s1,rfl,v1,g2⟩:=hp.inv_str;obtain ⟨s2,rfl,v2,g3⟩:=g2.inv_str;obtain ⟨s3,rfl,v3,g4⟩:=g3.inv_str;obtain ⟨s4,rfl,v4,g5⟩:=g4.inv_str;obtain ⟨dq,s5,rfl,kq,g6⟩:=g5.inv_sl;have hb:Rows.uptoBulk (H:=H) (.agg (.lit (.string x.ref):: .agg (.lit (.string x.purl.kind):: .lit (.string x.purl.Kz):: .lit (.string x.purl.name):: .lit (.string x.purl.Ko)::dq::s5)::d3:: .lit (.string x.K1)::d5::r5))<=2000000:=hb;simp only[Rows.uptoBulk,Rows.uptoBulkAll] at hb;obtain ⟨a1,a2⟩:=zf8 (u:= .st 6) (l:=x.K7) k3 (by omega) λs d=>zpo s d;obtain ⟨b1,b2⟩:=zf8 (u:= .str) (l:=x.files) k5 (by omega) λs d=>zoq s d;obtain ⟨c1,_⟩:=zf8 (u:= .st 10) (l:=x.purl.Kf) (Q:=λ_=>True) kq (by omega) λ_ _ _ _=>trivial;exact ⟨by omega,by omega,yAo c1 (by decide),λd hd=>yAo (a2 d hd) (by decide),λf hf=>yAo (b2 f hf) (by decide),yAo a1 (by decide),yAo b1 (by decide)⟩
theorem zoc{H:Type}(x:Gt.Kn)(d:DataW H)(h:Rd zmZ [.st 3] (sg (u:= .st 3) x) [d])(hb:Rows.uptoBulk d<=2000000):SmB x:=by obtain ⟨ps,r,h0,h1,_⟩:=h.inv_st;obtain ⟨rfl,_⟩:=List.cons.inj h0;have h1:Rd zmZ [.str,.str,.str,.sl (.st 5),.sl (.st 7)] ((x.name,x.Ko,x.root,x.Ka,x.Kh,()):ElL Sx [.str,.str,.str,.sl (.st 5),.sl (.st 7)]) ps:=h1;obtain ⟨r1,rfl,w1,h2⟩:=h1.inv_str;obtain ⟨r2,rfl,w2,h3⟩:=h2.inv_str;obtain ⟨r3,rfl,w3,h4⟩:=h3.inv_str;obtain ⟨d4,r4,rfl,k4,h5⟩:=h4.inv_sl;have hb:Rows.uptoBulk (H:=H) (.agg (.lit (.string x.name):: .lit (.string x.Ko):: .lit (.string x.root)::d4::r4))<=2000000:=hb;simp only[Rows.uptoBulk,Rows.uptoBulkAll] at hb;obtain ⟨a1,a2⟩:=zf8 (u:= .st 5) (l:=x.Ka) k4 (by omega) λs d=>zn6 s d;exact ⟨by omega,by omega,a2⟩
end Go.Proofs.YtojfjgjdheiffaaGreatDoor
end
