/- What is handed in to the laws of names: which types are read as which codes; a name of bounded bulk has few qualifiers. -/
import Derived.Test.YtjhmblhgicjlfaaDoorPuCard
import Derived.Test.YtjhmblhgicjlfaaDoorPuE
import Derived.Test.YtjhmblhgicjlfaaDoorPeE
set_option maxRecDepth 100000
namespace Go.Proofs.YtjhmblhgicjlfaaDoor
open Go Go.RowKit Go.WideShapes Go.ChangeShapes Go.ChangeAt Pe Pe.Tryd
def M:U→TypeId→Prop:=fun u t=>(u= .str∧t=9)∨(u= .st 3∧t=63)∨(u= .sl (.st 3)∧t=22)∨(u= .st 4∧t=24)
theorem mStr:M .str 9:= .inl ⟨rfl,rfl⟩
theorem mPair:M (.st 3) 63:= .inr (.inl ⟨rfl,rfl⟩)
theorem mPairs:M (.sl (.st 3)) 22:= .inr (.inr (.inl ⟨rfl,rfl⟩))
theorem mPurl:M (.st 4) 24:= .inr (.inr (.inr ⟨rfl,rfl⟩))
theorem stepM:∀u t,M u t→Step Tryd.prog un M u t:=by
 intro u t h
 rcases h with ⟨rfl,rfl⟩ | ⟨rfl,rfl⟩ | ⟨rfl,rfl⟩ | ⟨rfl,rfl⟩
 ·exact u9
 ·exact ⟨by kernel_rfl,.inl ⟨_,Tryd.underlying63,⟨by kernel_rfl,by kernel_rfl,mStr,by kernel_rfl,by kernel_rfl,mStr,trivial⟩⟩⟩
 ·exact ⟨63,Tryd.underlying22,by kernel_rfl,by decide,mPair⟩
 ·exact ⟨by kernel_rfl,.inl ⟨_,Tryd.underlying24,⟨by kernel_rfl,by kernel_rfl,mStr,by kernel_rfl,by kernel_rfl,mStr,by kernel_rfl,by kernel_rfl,mStr,by kernel_rfl,by kernel_rfl,mStr,by kernel_rfl,by kernel_rfl,mPairs,by kernel_rfl,by kernel_rfl,mStr,trivial⟩⟩⟩
theorem laidOut:laidOutB Tryd.prog=true:=by kernel_rfl
theorem bulk_pos {H:Type} (d:DataW H):1≤Rows.uptoBulk d:=by
 cases d with
 | lit l=>cases l<;>simp [Rows.uptoBulk]
 | _=>simp [Rows.uptoBulk]
theorem bulk_len {H:Type}:∀(l:List (DataW H)),l.length≤Rows.uptoBulkAll l
 | []=>by simp
 | x::r=>by have:=bulk_len r;have:=bulk_pos x;simp only [Rows.uptoBulkAll,List.length_cons];omega
theorem purl_small {H:Type} {p:Gt.Purl} {ds:List (DataW H)} (h:Rd un [.st 4] (sg (u:= .st 4) p) ds) (hc:Rows.uptoBulkAll ds≤1048576):p.qualifiers.length≤1000000000:=by
 obtain ⟨ps,r,rfl,h1,_⟩:=h.inv_st
 have h1:Rd un [.str,.str,.str,.str,.sl (.st 3),.str] ((p.kind,p.space,p.name,p.version,p.qualifiers,p.sub,()):ElL Sx [.str,.str,.str,.str,.sl (.st 3),.str]) ps:=h1
 obtain ⟨r1,rfl,w1,h2⟩:=h1.inv_str
 obtain ⟨r2,rfl,w2,h3⟩:=h2.inv_str
 obtain ⟨r3,rfl,w3,h4⟩:=h3.inv_str
 obtain ⟨r4,rfl,w4,h5⟩:=h4.inv_str
 obtain ⟨dk,r5,rfl,h6,h7⟩:=h5.inv_sl
 rcases h6 with ⟨_,h0⟩ | ⟨es,sp,rfl,hl,_⟩
 ·have h0:p.qualifiers=[]:=h0
  rw [h0];simp
 ·have hl':es.length=p.qualifiers.length:=hl
  have:=bulk_len es
  simp only [Rows.uptoBulk,Rows.uptoBulkAll] at hc
  omega
end Go.Proofs.YtjhmblhgicjlfaaDoor
