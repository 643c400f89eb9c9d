/- slices.SortFunc, out of the kit's contract, as a function that writes into the row that it is given: what it leaves is the sorted list, where the comparison is an order of the row's elements. -/
import Derived.Shelf.SlSortCmp.NoneTotal
import Derived.Test.YtojfjgjdheiffaaGreatDoorPeE
import Derived.Test.YtojfjgjdheiffaaGreatDoorPeDr
set_option maxRecDepth 100000
namespace Pe
open Go Go.RowKit Go.Sort
variable{S:Nat->Type}
structure OrdOn {α:Type} (l:List α) (c:α->α->Int):Prop where
 irr:∀x∈l,¬c x x<0
 trans:∀x∈l,∀y∈l,∀z∈l,c x y<0->c y z<0->c x z<0
 eq:∀x∈l,∀y∈l,¬c x y<0->¬c y x<0->x=y
theorem OrdOn.sub{α:Type}{l l':List α}{c:α->α->Int}(h:OrdOn l c)(hs:∀x∈l',x∈l):OrdOn l' c :=
 ⟨λx hx=>h.irr x (hs x hx),λx hx y hy z hz=>h.trans x (hs x hx) y (hs y hy) z (hs z hz),λx hx y hy=>h.eq x (hs x hx) y (hs y hy)⟩
def zq3{α:Type}(c:α->α->Int)(l:List α):Prop:=l.Pairwise λx y=>¬c y x<0
theorem zjm{α:Type}{c:α->α->Int}:∀{a b:List α},OrdOn a c->zq3 c a->zq3 c b->a.Perm b->a=b
 |[],b,_,_,_,hp=>(List.Perm.nil_eq hp)|x::r,[],_,_,_,hp=>by simp_all
 |x::r,y::t,h,ha,hb,hp=>by
   obtain ⟨a1,a2⟩:=yBU.1 ha;obtain ⟨b1,b2⟩:=yBU.1 hb;have hx:x∈y::t:=hp.mem_iff.1 (by simp);have hy:y∈x::r:=hp.mem_iff.2 (by simp);have hxy:x=y:=by
    rcases yAm.1 hx with e|hx2;·exact e
    ·rcases yAm.1 hy with e|hy2;·exact e.symm
     ·exact h.eq x (by simp) y hy (b1 x hx2) (a1 y hy2)
   subst hxy;rw[zjm (h.sub λz hz=>yB6 _ hz) a2 b2 (List.perm_cons x |>.1 hp)]
section
variable{P:Program}{un:Uni S}{D:Dat}{w:World}
open Classical in
end
end Pe
namespace Pe
open Go Go.RowKit Go.Sort
variable{S:Nat->Type}{P:Program}{ρ:Go.Shelf.Ren}
end Pe
