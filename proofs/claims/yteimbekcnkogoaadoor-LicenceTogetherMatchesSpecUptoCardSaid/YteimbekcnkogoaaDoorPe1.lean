/- A pure reading of Go functions: values as trees, memory of the call's own as a list of boxes. Definitions alone; over any program. -/
import Derived.WalkKit
import Derived.WalkSpells
import Derived.WalkLawsBesides
namespace Pe
open Go

/-- Codes of data that can be frozen: of one cell, or a struct's (an array's) number. -/
inductive U where
  | int (k : IntKind)
  | bool
  | str
  | sl (u : U)
  | st (n : Nat)

def El (S : Nat → Type) : U → Type
  | .int _ => Int
  | .bool => Bool
  | .str => List UInt8
  | .sl u => List (El S u)
  | .st n => S n

def ElL (S : Nat → Type) : List U → Type
  | [] => Unit
  | u :: r => El S u × ElL S r

def kindEq : (a b : IntKind) → Option (PLift (a = b))
  | .i8, .i8 => some ⟨rfl⟩ | .i16, .i16 => some ⟨rfl⟩ | .i32, .i32 => some ⟨rfl⟩ | .i64, .i64 => some ⟨rfl⟩
  | .u8, .u8 => some ⟨rfl⟩ | .u16, .u16 => some ⟨rfl⟩ | .u32, .u32 => some ⟨rfl⟩ | .u64, .u64 => some ⟨rfl⟩
  | _, _ => none
def natEq (a b : Nat) : Option (PLift (a = b)) := if h : a = b then some ⟨h⟩ else none
def U.eq? : (a b : U) → Option (PLift (a = b))
  | .int k, .int k' => match kindEq k k' with | some ⟨h⟩ => some ⟨by rw [h]⟩ | none => none
  | .bool, .bool => some ⟨rfl⟩
  | .str, .str => some ⟨rfl⟩
  | .sl u, .sl v => match U.eq? u v with | some ⟨h⟩ => some ⟨by rw [h]⟩ | none => none
  | .st n, .st m => match natEq n m with | some ⟨h⟩ => some ⟨by rw [h]⟩ | none => none
  | _, _ => none

def ueqb (u : U) : Option U → Bool
  | some v => (U.eq? u v).isSome
  | none => false

/-- Values. -/
inductive PV (S : Nat → Type) where
  | int (k : IntKind) (n : Int)
  | bool (b : Bool)
  | str (l : List UInt8)
  | sl (u : U) (l : List (El S u))
  | nils
  | st (n : Nat) (x : S n)
  | agg (l : List (PV S))
  | tup (l : List (PV S))
  | elp (u : U) (x : El S u) (off : Nat)
  | ptr (b off : Nat)
  | nilp
  | row (b : Nat)
  | func (f : Fn) (first cap : List (PV S))
  | nilFunc
  | iface (t : TypeId) (v : PV S)
  | nilIface
  | junk

inductive Box (S : Nat → Type) where
  | var (T : TypeId) (cs : List (PV S))
  | own (u : U) (T : TypeId) (l : List (El S u))
  | lk (b : Box S)
  | ro (b : Box S)
  | gone

/-- The structs: their cells' codes; taken apart, and put together. -/
structure Uni (S : Nat → Type) where
  codes : Nat → List U
  get : (n : Nat) → S n → ElL S (codes n)
  put : (n : Nat) → ElL S (codes n) → S n

variable {S : Nat → Type}

/-- What a box holds, whoever may write to it. -/
def Box.base : Box S → Box S
  | .lk b => b.base
  | .ro b => b.base
  | b => b


abbrev Env (S : Nat → Type) := List (Nat × PV S)
abbrev Bxs (S : Nat → Type) := List (Box S)

def look : Env S → Nat → Option (PV S)
  | [], _ => none
  | (j, v) :: r, i => bif Nat.beq j i then some v else look r i

def undefV : PV S := .tup []

mutual
def constPV : Value → PV S
  | .int k n => .int k n
  | .bool b => .bool b
  | .string s => .str s.data.toList
  | .slice none 0 0 => .nils
  | .pointer none => .nilp
  | .nilFunc => .nilFunc
  | .nilIface => .nilIface
  | .tuple ⟨[]⟩ => .tup []
  | _ => .junk
end

def ev (e : Env S) : Operand → Option (PV S)
  | .tmp t => look e t
  | .const v => some (constPV v)
  | .func f => some (.func (.func f) [] [])
  | .global _ => none

def evs (e : Env S) : List Operand → Option (List (PV S))
  | [] => some []
  | x :: r => match ev e x, evs e r with
    | some v, some l => some (v :: l)
    | _, _ => none

mutual
/-- Does a value speak of box b's row? -/
def PV.says (b : Nat) : PV S → Bool
  | .row j => Nat.beq j b
  | .agg l => saysL b l
  | .tup l => saysL b l
  | .func _ l r => saysL b l || saysL b r
  | .iface _ v => v.says b
  | _ => false
def saysL (b : Nat) : List (PV S) → Bool
  | [] => false
  | p :: r => p.says b || saysL b r
end
mutual
/-- Does a value speak of no row at all? -/
def PV.rowless : PV S → Bool
  | .row _ => false
  | .agg l => rowlessL l
  | .tup l => rowlessL l
  | .func _ l r => rowlessL l && rowlessL r
  | .iface _ v => v.rowless
  | _ => true
def rowlessL : List (PV S) → Bool
  | [] => true
  | p :: r => p.rowless && rowlessL r
end

/-- Box b's row goes on; y: what it was till now. -/
def PV.kill (b : Nat) (y : PV S) : PV S → PV S
  | .row j => bif Nat.beq j b then y else .row j
  | p => bif p.says b then .junk else p
def killE (b : Nat) (y : PV S) : Env S → Env S
  | [] => []
  | (i, p) :: r => (i, PV.kill b y p) :: killE b y r
def Box.kill (b : Nat) (y : PV S) : Box S → Box S
  | .var T cs => .var T (cs.map (PV.kill b y))
  | .lk x => .lk (x.kill b y)
  | .ro x => .ro (x.kill b y)
  | x => x
def setB : Bxs S → Nat → Box S → Bxs S
  | [], _, _ => []
  | _ :: r, 0, y => y :: r
  | x :: r, n + 1, y => x :: setB r n y
def getB : Bxs S → Nat → Option (Box S)
  | [], _ => none
  | x :: _, 0 => some x
  | _ :: r, n + 1 => getB r n

/-- A frame without these slots. -/
def without (W : List Nat) : Env S → Env S
  | [] => []
  | (i, p) :: r => bif W.contains i then without W r else (i, p) :: without W r
def dsts (l : List Oper) : List Nat := l.filterMap (·.dst)
def dropK (d : Option Nat) : List (Nat × Bool) → List (Nat × Bool)
  | [] => []
  | (i, b) :: r => bif (match d with | some j => Nat.beq i j | none => false) then dropK d r else (i, b) :: dropK d r
def dropL (W : List Nat) : List (Nat × Bool) → List (Nat × Bool)
  | [] => []
  | (i, b) :: r => bif W.contains i then dropL W r else (i, b) :: dropL W r
def lookK : List (Nat × Bool) → Nat → Option Bool
  | [], _ => none
  | (j, v) :: r, i => bif Nat.beq j i then some v else lookK r i
def bbeq : Bool → Bool → Bool
  | true, b => b
  | false, b => !b
def asB (d : Nat) (e : Env S) : Option Bool := match look e d with
  | some (.bool b) => some b
  | _ => none

/-! kept whole in what is printed -/
def ob {α β : Type} (x : Option α) (f : α → Option β) : Option β := match x with
  | some a => f a
  | none => none
def br {α : Type} (b : Bool) (x y : Option α) : Option α := match b with
  | true => x
  | false => y
/-- An element, if the index is right. -/
def at? {α : Type} (l : List α) (n : Int) : Option α := match n with
  | .ofNat k => l[k]?
  | .negSucc _ => none
/-- A part of a string. -/
def part? {α : Type} (l : List α) (lo hi : Int) : Option (List α) := match lo, hi with
  | .ofNat i, .ofNat j => bif Nat.ble i j && Nat.ble j l.length then some ((l.drop i).take (j - i)) else none
  | _, _ => none
def lim : Nat := 4294967296
/-- One list behind another, if that is not too long. -/
def cat? {α : Type} (l r : List α) : Option (List α) := bif Nat.ble (l.length + r.length) lim then some (l ++ r) else none
def len {α : Type} (l : List α) : Int := (l.length : Int)

def iter {σ R : Type} (f : σ → Option (σ ⊕ R)) : Nat → σ → Option R
  | 0, _ => none
  | n + 1, x => match f x with
    | some (.inl y) => iter f n y
    | some (.inr r) => some r
    | none => none
open Classical in
/-- Rounds, until there is a result. -/
noncomputable def loopM {σ R : Type} (f : σ → Option (σ ⊕ R)) (x : σ) : Option R :=
  if h : ∃ n, (iter f n x).isSome then iter f (Classical.choose h) x else none

/-- A piece that ends in a told state, or with the whole's result. -/
def cutM {σ R : Type} (x : Option (σ ⊕ R)) (f : σ → Option R) : Option R := match x with
  | some (.inl t) => f t
  | some (.inr r) => some r
  | none => none

/-! ### values by their codes -/
section
variable (un : Uni S)

def inj : (u : U) → El S u → PV S
  | .int k, x => .int k x
  | .bool, x => .bool x
  | .str, x => .str x
  | .sl u, x => .sl u x
  | .st n, x => .st n x
def injL : (us : List U) → ElL S us → List (PV S)
  | [], _ => []
  | u :: us, t => inj u t.1 :: injL us t.2

def openEl : (u : U) → El S u → List (PV S)
  | .st n, x => injL (un.codes n) (un.get n x)
  | .int k, x => [.int k x]
  | .bool, x => [.bool x]
  | .str, x => [.str x]
  | .sl u, x => [.sl u x]

def U.size : U → Nat
  | .st n => (un.codes n).length
  | _ => 1

def PV.cells : PV S → List (PV S)
  | .agg l => l
  | .st n x => openEl un (.st n) x
  | p => [p]
/-- A value of one cell, of which all is known. -/
def PV.one : PV S → Bool
  | .agg _ => false
  | .st _ _ => false
  | .tup _ => false
  | .junk => false
  | _ => true

/-- A value of one cell by its code. -/
def cast0 : (u : U) → PV S → Option (El S u)
  | .int k, .int k' n => match kindEq k' k with | some _ => some n | none => none
  | .bool, .bool b => some b
  | .str, .str l => some l
  | .sl u, .sl v l => match U.eq? v u with | some ⟨h⟩ => some (h ▸ l) | none => none
  | .sl _, .nils => some []
  | _, _ => none
def castL0 : (us : List U) → List (PV S) → Option (ElL S us)
  | [], [] => some ()
  | u :: us, p :: ps => match cast0 u p, castL0 us ps with
    | some x, some t => some (x, t)
    | _, _ => none
  | _, _ => none
def cast : (u : U) → PV S → Option (El S u)
  | .st n, .st m x => match natEq m n with | some ⟨h⟩ => some (h ▸ x) | none => none
  | .st n, .agg l => match castL0 (un.codes n) l with | some t => some (un.put n t) | none => none
  | .st _, _ => none
  | u, p => cast0 u p

/-- A row of the call's own, read as data. -/
def fz1 (bx : Bxs S) : PV S → PV S
  | .row b => match (getB bx b).map Box.base with
    | some (.own u _ l) => .sl u l
    | _ => .junk
  | p => p
def fz (bx : Bxs S) : PV S → PV S
  | .agg l => .agg (l.map (fz1 bx))
  | p => fz1 bx p

def castL (bx : Bxs S) : (us : List U) → List (PV S) → Option (ElL S us)
  | [], [] => some ()
  | u :: us, p :: ps => match cast un u (fz bx p), castL bx us ps with
    | some x, some t => some (x, t)
    | _, _ => none
  | _, _ => none
/-- Arguments: data by their codes; a function as it is. -/
def clean : PV S → Bool
  | .func _ [] [] => true
  | _ => false
def castA (bx : Bxs S) : (us : List (Option U)) → List (PV S) → Option (List (PV S))
  | [], [] => some []
  | some u :: us, p :: ps => match cast un u (fz bx p), castA bx us ps with
    | some x, some t => some (inj u x :: t)
    | _, _ => none
  | none :: us, p :: ps => match castA bx us ps with
    | some t => bif clean p then some (p :: t) else none
    | none => none
  | _, _ => none
/-- Equality of scalars, cell by cell. -/
def eq1 : (u : U) → El S u → El S u → Bool
  | .int _, x, y => (@BEq.beq Int _ x y)
  | .bool, x, y => @BEq.beq Bool _ x y
  | .str, x, y => @BEq.beq (List UInt8) _ x y
  | _, _, _ => false
def eqC : (us : List U) → ElL S us → ElL S us → Bool
  | [], _, _ => true
  | u :: us, x, y => eq1 u x.1 y.1 && eqC us x.2 y.2
def U.scalar : U → Bool
  | .sl _ => false
  | .st _ => false
  | _ => true
def one? : List (PV S) → PV S
  | [p] => p
  | l => .tup l
def U.flat : U → Bool
  | .sl _ => false
  | .st _ => false
  | _ => true
end

/-! ### tables -/
inductive Tr (α : Type) where
  | leaf
  | node (l : Tr α) (k : Nat) (v : α) (r : Tr α)
def Tr.get {α : Type} : Tr α → Nat → Option α
  | .leaf, _ => none
  | .node l k v r, i => bif Nat.beq i k then some v else bif Nat.blt i k then l.get i else r.get i

/-- What is known of a type: how many cells, whether it is a struct or an array, its zero value, its code; of a slice's type: its elements' type, and their code; of a struct's type: its fields' places and sizes. -/
structure TyRow (S : Nat → Type) where
  /-- 1: string, 2: slice, 3: struct, 4: array, 5: bool, 0: another one -/
  kd : Nat
  n : Nat
  agg : Bool
  zero : List (PV S)
  code : Option U
  elem : Option (TypeId × U)
  fields : List (Nat × Nat)

inductive CTy where
  | fr (u : U)
  | own (u : U) (T : TypeId)
def CTy.code : CTy → U
  | .fr u => u
  | .own u _ => .sl u
/-- Where a state is told by its codes: slots; boxes' cells. -/
structure Cut where
  slots : List (Nat × CTy)
  boxes : List (Nat × List CTy)
structure Ann where
  cut : Tr Cut
  loop : Tr Cut
  /-- Regions without an order that write: all their orders are tried. -/
  any : List (Nat × List Nat)
  /-- Regions with guards ahead of what writes: the ways part there. -/
  dup : List Nat
/-- How a call of a function is read: by what is known of it; or by its text. -/
inductive Sig where
  | data (us : List (Option U)) (rs : List U)
  | inl (fn : Func) (an : Ann) (rs : List U)
  /-- A call to which boxes are lent (ts: their types, lc: their codes), and that may panic (pan: the type of what it panics with, a struct of integers ps). -/
  | eff (us : List (Option U)) (ts : List TypeId) (lc rs ps : List U) (pan : TypeId)
  | effI (fn : Func) (an : Ann) (ts : List TypeId) (lc rs ps : List U) (pan : TypeId)
structure Tb (S : Nat → Type) where
  ty : Tr (TyRow S)
  sig : Tr Sig

/-- What a call to which boxes are lent ends with: their new content and the results, or what it panics with. -/
abbrev Out (S : Nat → Type) (lc rs ps : List U) := (ElL S lc × ElL S rs) ⊕ ElL S ps
structure Orc (S : Nat → Type) where
  d : FuncId → List (PV S) → (rs : List U) → Option (ElL S rs)
  e : FuncId → List (PV S) → (ts : List TypeId) → (lc : List U) → ElL S lc → (rs ps : List U) → (pan : TypeId) → Option (Out S lc rs ps)
structure Inl (S : Nat → Type) where
  d : Func → Ann → List (PV S) → Bxs S → (rs : List U) → Option (ElL S rs)
  e : Func → Ann → List (PV S) → (ts : List TypeId) → (lc : List U) → ElL S lc → (rs ps : List U) → (pan : TypeId) → Option (Out S lc rs ps)

section
variable (un : Uni S) (tb : Tb S) (orc : Orc S) (inl : Inl S)

def load (t : TypeId) (p : PV S) (bx : Bxs S) : Option (PV S) :=
  match tb.ty.get t with
  | none => none
  | some r =>
    let row (cs : List (PV S)) (off : Nat) : Option (PV S) :=
      bif r.agg then (bif Nat.ble (off + r.n) cs.length then some (.agg ((cs.drop off).take r.n)) else none) else cs[off]?
    match p with
    | .ptr b off => match (getB bx b).map Box.base with
      | some (.var _ cs) => row cs off
      | _ => none
    | .elp u x off =>
      match u, x, off, r.code with
      | .st m, x, 0, some (.st m') => bif Nat.beq m m' && r.agg && Nat.beq r.n (un.codes m).length then some (.st m x) else row (openEl un (.st m) x) 0
      | u, x, off, _ => row (openEl un u x) off
    | _ => none

def binI {R : Type} (op : BinOp) (k : IntKind) (a b : Int) (K : PV S → Option R) : Option R :=
  match op with
  | .add => K (.int k (k.wrap (a + b)))
  | .sub => K (.int k (k.wrap (a - b)))
  | .mul => K (.int k (k.wrap (a * b)))
  | .lss => K (.bool (decide (a < b)))
  | .leq => K (.bool (decide (a ≤ b)))
  | .gtr => K (.bool (decide (b < a)))
  | .geq => K (.bool (decide (b ≤ a)))
  | .eql => K (.bool (a == b))
  | .neq => K (.bool (a != b))
  | .quo => match b with
    | .ofNat (n + 1) => K (.int k (k.wrap (Int.tdiv a (.ofNat (n + 1)))))
    | _ => none
  | .rem => match b with
    | .ofNat (n + 1) => K (.int k (Int.tmod a (.ofNat (n + 1))))
    | _ => none
  | _ => none
def binS {R : Type} (op : BinOp) (a b : List UInt8) (K : PV S → Option R) : Option R :=
  match op with
  | .add => ob (cat? a b) fun c => K (.str c)
  | .eql => K (.bool (a == b))
  | .neq => K (.bool (a != b))
  | .lss => K (.bool (Op.bytesLess a b))
  | .leq => K (.bool (Op.bytesLess a b || a == b))
  | .gtr => K (.bool (!(Op.bytesLess a b || a == b)))
  | .geq => K (.bool (!(Op.bytesLess a b)))
  | _ => none

/-- Which Go function a call enters, and with what. -/
def enters (e : Env S) (c : Call) : Option (FuncId × List (PV S)) :=
  match c.callee with
  | .value x => match ev e x, evs e c.args.toList with
    | some (.func (.func f) first cap), some l => some (f, first ++ l ++ cap)
    | _, _ => none
  | _ => none

def splice : List (PV S) → Nat → List (PV S) → List (PV S)
  | cs, _, [] => cs
  | cs, off, v :: r => splice (cs.set off v) (off + 1) r

def partsOf (e : Env S) : List (Nat × Operand) → Option (List (Nat × PV S))
  | [] => some []
  | (i, x) :: r => match ev e x, partsOf e r with
    | some v, some l => some ((i, v) :: l)
    | _, _ => none

def fillP (fields : List (Nat × Nat)) (un : Uni S) : List (PV S) → List (Nat × PV S) → Option (List (PV S))
  | cs, [] => some cs
  | cs, (i, v) :: r => match fields[i]? with
    | some (off, n) => bif (v.cells un).all PV.one && Nat.beq (v.cells un).length n && Nat.ble (off + n) cs.length then fillP fields un (splice cs off (v.cells un)) r else none
    | none => none

/-- Read, not written; rows as data. -/
def Box.tame (bx : Bxs S) : Box S → Box S
  | .var T cs => .var T (cs.map (fz1 bx))
  | b => b
def lockG (bx : Bxs S) : Bxs S → Bxs S
  | [] => []
  | b :: r => .ro (b.base.tame bx) :: lockG bx r
def lockAll (bx : Bxs S) : Bxs S := lockG bx bx

/-- Operations that leave the call's own memory as it is. -/
def popQ {R : Type} (o : Oper) (e : Env S) (bx : Bxs S) (K : PV S → Option R) : Option R :=
  match o.op with
  | .move x => match ev e x with
    | some p => K p
    | none => none
  | .assign x => match ev e x with
    | some p => K p
    | none => none
  | .pick c x y => match ev e c, ev e x, ev e y with
    | some (.bool b), some p, some q => br b (K p) (K q)
    | _, _, _ => none
  | .binOp op t x y _ => match ev e x, ev e y with
    | some (.int k a), some (.int k' b) => match kindEq k k' with
      | some _ => binI op k a b K
      | none => none
    | some (.str a), some (.str b) => binS op a b K
    | some (.bool a), some (.bool b) => match tb.ty.get t with
      | some r => bif Nat.beq r.kd 5 then (match op with
        | .eql => K (.bool (a == b))
        | .neq => K (.bool (a != b))
        | _ => none) else none
      | none => none
    | some p, some q => match (tb.ty.get t).bind (·.code) with
      | some (.st n) => match cast un (.st n) p, cast un (.st n) q with
        | some a, some b => bif (un.codes n).all U.scalar && (match tb.ty.get t with | some r => Nat.beq r.fields.length (un.codes n).length | none => false) then (match op with
          | .eql => K (.bool (eqC (un.codes n) (un.get n a) (un.get n b)))
          | .neq => K (.bool !(eqC (un.codes n) (un.get n a) (un.get n b)))
          | _ => none) else none
        | _, _ => none
      | _ => none
    | _, _ => none
  | .unOp .not _ x => match ev e x with
    | some (.bool b) => K (.bool !b)
    | _ => none
  | .fieldAddr s x f => match ev e x, tb.ty.get s with
    | some p, some r => bif Nat.beq r.kd 3 then (match p, r.fields[f]? with
      | .ptr b off, some (d, _) => K (.ptr b (off + d))
      | .elp u y off, some (d, _) => K (.elp u y (off + d))
      | _, _ => none) else none
    | _, _ => none
  | .indexAddr t x i => match ev e x, ev e i, tb.ty.get t with
    | some p, some (.int _ n), some r => bif Nat.beq r.kd 2 then (match fz1 bx p with
        | .sl u l => bif ueqb u (r.elem.map (·.2)) then ob (at? l n) fun y => K (.elp u y 0) else none
        | _ => none)
      else bif Nat.beq r.kd 4 then (match n with
        | .ofNat k => (match p, r.fields[k]? with
          | .ptr b off, some (d, _) => K (.ptr b (off + d))
          | .elp u y off, some (d, _) => K (.elp u y (off + d))
          | _, _ => none)
        | _ => none) else none
    | _, _, _ => none
  | .index t x i => match ev e x, ev e i, tb.ty.get t with
    | some (.str l), some (.int _ n), some r => bif Nat.beq r.kd 1 then ob (at? l n) fun c => K (.int .u8 (c.toNat : Int)) else none
    | _, _, _ => none
  | .load t x => match ev e x with
    | some p => match load un tb t p bx with
      | some q => K q
      | none => none
    | none => none
  | .nilCheck x => match ev e x with
    | some (.ptr b off) => K (.ptr b off)
    | some (.elp u y off) => K (.elp u y off)
    | _ => none
  | .extract x i => match ev e x with
    | some (.tup l) => match l[i]? with
      | some p => K p
      | none => none
    | _ => none
  | .slice t x lo hi none => match ev e x, tb.ty.get t with
    | some p, some r => match fz1 bx p with
      | .str l => bif Nat.beq r.kd 1 then
        (match (match lo with | some a => ev e a | none => some (.int .i64 0)), (match hi with | some a => ev e a | none => some (.int .i64 (len l))) with
        | some (.int _ i), some (.int _ j) => ob (part? l i j) fun s => K (.str s)
        | _, _ => none) else none
      | .sl u l => bif Nat.beq r.kd 2 && ueqb u (r.elem.map (·.2)) then
        (match (match lo with | some a => ev e a | none => some (.int .i64 0)), (match hi with | some a => ev e a | none => some (.int .i64 (len l))) with
        | some (.int _ i), some (.int _ j) => ob (part? l i j) fun s => K (.sl u s)
        | _, _ => none) else none
      | _ => none
    | _, _ => none
  | .build t parts => match partsOf e parts.toList, tb.ty.get t with
    | some l, some r => bif Nat.beq r.kd 3 then (match fillP r.fields un r.zero l with
      | some cs => K (.agg cs)
      | none => none) else none
    | _, _ => none
  | .makeInterface t x => match ev e x, tb.ty.get t with
    | some (.agg l), some r => bif r.agg then K (.iface t (.agg l)) else none
    | _, _ => none
  | .makeFunc fn first cap => match evs e first.toList, evs e cap.toList with
    | some l, some r => K (.func fn l r)
    | _, _ => none
  | .call c =>
    match c.callee with
    | .builtin .len => match evs e c.args.toList, (c.argTypes[0]?).bind tb.ty.get with
      | some [p], some r => match fz1 bx p with
        | .str l => bif Nat.beq r.kd 1 then K (.int .i64 (len l)) else none
        | .sl _ l => bif Nat.beq r.kd 2 then K (.int .i64 (len l)) else none
        | .nils => bif Nat.beq r.kd 2 then K (.int .i64 0) else none
        | _ => none
      | _, _ => none
    | .builtin .min => match evs e c.args.toList with
      | some [.int .i64 a, .int .i64 b] => K (.int .i64 (min a b))
      | _ => none
    | .builtin .max => match evs e c.args.toList with
      | some [.int .i64 a, .int .i64 b] => K (.int .i64 (max a b))
      | _ => none
    | _ => match enters e c with
      | some (f, l) => match tb.sig.get f with
        | some (.data us rs) =>
          match castA un bx us l with
          | some t => ob (orc.d f t rs) fun r => K (one? (injL rs r))
          | none => none
        | some (.inl fn an rs) => ob (inl.d fn an (l.map (fz1 bx)) (lockAll bx) rs) fun r => K (one? (injL rs r))
        | _ => none
      | none => none
  | _ => none

/-! ### boxes that are lent -/
mutual
/-- The boxes to which a value leads. -/
def PV.ptrs : PV S → List Nat
  | .ptr b _ => [b]
  | .func _ l r => ptrsL l ++ ptrsL r
  | _ => []
def ptrsL : List (PV S) → List Nat
  | [] => []
  | p :: r => p.ptrs ++ ptrsL r
end
def nub : List Nat → List Nat → List Nat
  | _, [] => []
  | sn, i :: r => bif sn.contains i then nub sn r else i :: nub (i :: sn) r
def posOf (b : Nat) : List Nat → Nat → Option Nat
  | [], _ => none
  | i :: r, k => bif Nat.beq i b then some k else posOf b r (k + 1)
mutual
/-- A value as the callee has it: its boxes are those that are lent. -/
def ren (ls : List Nat) (bx : Bxs S) : PV S → Option (PV S)
  | .ptr b off => match posOf b ls 0 with
    | some k => some (.ptr k off)
    | none => none
  | .func f l r => match renL ls bx l, renL ls bx r with
    | some l', some r' => some (.func f l' r')
    | _, _ => none
  | .row b => match fz1 bx (.row b) with
    | .sl u l => some (.sl u l)
    | _ => none
  | .agg l => match renL ls bx l with
    | some l' => some (.agg l')
    | none => none
  | .int k n => some (.int k n)
  | .bool b => some (.bool b)
  | .str l => some (.str l)
  | .sl u l => some (.sl u l)
  | .nils => some .nils
  | .st n x => some (.st n x)
  | .nilp => some .nilp
  | .nilFunc => some .nilFunc
  | .nilIface => some .nilIface
  | _ => none
def renL (ls : List Nat) (bx : Bxs S) : List (PV S) → Option (List (PV S))
  | [] => some []
  | p :: r => match ren ls bx p, renL ls bx r with
    | some q, some l => some (q :: l)
    | _, _ => none
end
/-- Arguments: data by their codes; others by their names. -/
def castE (ls : List Nat) (bx : Bxs S) : (us : List (Option U)) → List (PV S) → Option (List (PV S))
  | [], [] => some []
  | some u :: us, p :: ps => match cast un u (fz bx p), castE ls bx us ps with
    | some x, some t => some (inj u x :: t)
    | _, _ => none
  | none :: us, p :: ps => match ren ls bx p, castE ls bx us ps with
    | some q, some t => some (q :: t)
    | _, _ => none
  | _, _ => none
def mkV (u : U) (cs : List (PV S)) : PV S := match u with
  | .st _ => .agg cs
  | _ => one? cs
/-- What the lent boxes hold. -/
def lend (bx : Bxs S) : (ts : List TypeId) → (lc : List U) → List Nat → Option (ElL S lc)
  | [], [], [] => some ()
  | T :: ts, u :: us, b :: bs => match getB bx b with
    | some (.var T' cs) => match cast un u (fz bx (mkV u cs)), lend bx ts us bs with
      | some x, some t => bif Nat.beq T' T && Nat.beq cs.length (U.size un u) then some (x, t) else none
      | _, _ => none
    | _ => none
  | _, _, _ => none
def putBs : List TypeId → (lc : List U) → List Nat → ElL S lc → Bxs S → Bxs S
  | T :: ts, u :: us, b :: bs, t, bx => putBs ts us bs t.2 (setB bx b (.var T (openEl un u t.1)))
  | _, _, _, _, bx => bx
def junkBs : List Nat → Bxs S → Bxs S
  | [], bx => bx
  | b :: bs, bx => junkBs bs (match getB bx b with
    | some (.var T cs) => setB bx b (.var T (cs.map fun _ => .junk))
    | _ => bx)
/-- The boxes as the callee has them. -/
def mkLent : List TypeId → (lc : List U) → ElL S lc → Bxs S
  | T :: ts, u :: us, t => .var T (openEl un u t.1) :: mkLent ts us t.2
  | _, _, _ => []
def valI : (ps : List U) → ElL S ps → List Value
  | .int k :: us, t => .int k t.1 :: valI us t.2
  | _, _ => []
def unval : (ps : List U) → List Value → Option (ElL S ps)
  | [], [] => some ()
  | .int k :: us, .int k' n :: vs => match kindEq k' k, unval us vs with
    | some _, some t => some (n, t)
    | _, _ => none
  | _, _ => none
def panE (pan : TypeId) (ps : List U) (p : ElL S ps) : PanicEntry := ⟨.iface pan (.agg (valI ps p).toArray), false, false⟩
def unpan (pan : TypeId) (ps : List U) : List PanicEntry → Option (ElL S ps)
  | [⟨.iface T (.agg a), false, false⟩] => bif Nat.beq T pan then unval ps a.toList else none
  | _ => none
def intsP : List (PV S) → Option (List Value)
  | [] => some []
  | .int k n :: r => match intsP r with
    | some l => some (.int k n :: l)
    | none => none
  | _ => none
/-- After a call that may panic. -/
def oc {α β R : Type} (x : Option (α ⊕ β)) (f : α → Option R) (g : β → Option R) : Option R := match x with
  | some (.inl a) => f a
  | some (.inr b) => g b
  | none => none
def effCall {R : Type} (e : Env S) (bx : Bxs S) (ls : List Nat) (args : Option (List (PV S))) (ts : List TypeId) (lc rs ps : List U) (pan : TypeId) (ask : List (PV S) → ElL S lc → Option (Out S lc rs ps)) (K : PV S → Env S → Bxs S → Option R) (KX : Exit → Env S → Bxs S → Option R) : Option R :=
  match args, lend un bx ts lc ls with
  | some t, some c => oc (ask t c) (fun r => K (one? (injL rs r.2)) e (putBs un ts lc ls r.1 bx)) fun p => KX (.panic [panE pan ps p]) e (junkBs ls bx)
  | _, _ => none

/-- Content that is appended. -/
def content (bx : Bxs S) (u : U) (p : PV S) : Option (List (El S u)) :=
  cast un (.sl u) (fz1 bx p)

def castAll (bx : Bxs S) (u : U) : List (PV S) → Option (List (El S u))
  | [] => some []
  | p :: r => match cast un u (fz bx p), castAll bx u r with
    | some x, some l => some (x :: l)
    | _, _ => none

def inOrder : Nat → List (Nat × PV S) → Bool
  | _, [] => true
  | k, (i, _) :: r => Nat.beq i k && inOrder (k + 1) r
def twice : List Nat → Option Nat
  | [t, t'] => bif Nat.beq t t' then some t else none
  | _ => none

/-- Any operation. -/
def popK {R : Type} (o : Oper) (e : Env S) (bx : Bxs S) (K : PV S → Env S → Bxs S → Option R) (KX : Exit → Env S → Bxs S → Option R) : Option R :=
  match o.op with
  | .alloc T => match tb.ty.get T with
    | some r => K (.ptr bx.length 0) e (bx ++ [.var T r.zero])
    | none => none
  | .box T x => match ev e x, tb.ty.get T with
    | some p, some r => bif (p.cells un).all PV.one && Nat.beq (p.cells un).length r.n then K (.ptr bx.length 0) e (bx ++ [.var T (p.cells un)]) else none
    | _, _ => none
  | .store t a x => match ev e a, ev e x, tb.ty.get t with
    | some (.ptr b off), some p, some r => match getB bx b with
      | some (.var T cs) =>
        bif (p.cells un).all PV.one && Nat.beq (p.cells un).length r.n && Nat.ble (off + r.n) cs.length then K undefV e (setB bx b (.var T (splice cs off (p.cells un)))) else none
      | _ => none
    | _, _, _ => none
  | .buildSlice t n parts => match partsOf e parts.toList, (tb.ty.get t).bind (·.elem) with
    | some l, some (T, u) =>
      bif Nat.beq l.length n && inOrder 0 l && Nat.ble (n * U.size un u) 16777216 then
        match castAll un bx u (l.map (·.2)) with
        | some xs => K (.row bx.length) e (bx ++ [.own u T xs])
        | none => none
      else none
    | _, _ => none
  | .call c =>
    match c.callee with
    | .builtin .append =>
      match evs e c.args.toList, twice c.argTypes.toList with
      | some [s, x], some t => match (tb.ty.get t).bind (·.elem) with
       | none => none
       | some (T, u) =>
        match content un bx u x with
        | some new =>
          (match s with
          | .nils => ob (cat? [] new) fun l => K (.row bx.length) e (bx ++ [.own u T l])
          | .row b => match getB bx b with
            | some (.own v T' old) => match U.eq? v u with
              | some ⟨h⟩ => bif Nat.beq T T' then ob (cat? (h ▸ old) new) fun l => K (.row b) (killE b (.sl v old) e) (setB (bx.map (Box.kill b (.sl v old))) b (.own u T l)) else none
              | none => none
            | _ => none
          | _ => none)
        | none => none
      | _, _ => none
    | .value _ => match enters e c with
      | some (f, l) => match tb.sig.get f with
        | some (.eff us ts lc rs ps pan) => effCall un e bx (nub [] (ptrsL l)) (castE un (nub [] (ptrsL l)) bx us l) ts lc rs ps pan (fun t c => orc.e f t ts lc c rs ps pan) K KX
        | some (.effI fn an ts lc rs ps pan) => effCall un e bx (nub [] (ptrsL l)) (renL (nub [] (ptrsL l)) bx l) ts lc rs ps pan (fun t c => inl.e fn an t ts lc c rs ps pan) K KX
        | _ => popQ un tb orc inl o e bx fun p => K p e bx
      | none => none
    | _ => popQ un tb orc inl o e bx fun p => K p e bx
  | .panic x => match ev e x with
    | some (.iface T (.agg l)) => match intsP l with
      | some vs => KX (.panic [⟨.iface T (.agg vs.toArray), false, false⟩]) e bx
      | none => none
    | _ => none
  | _ => popQ un tb orc inl o e bx fun p => K p e bx

def push : Option Nat → PV S → Env S → Env S
  | some d, v, e => (d, v) :: e
  | none, _, e => e

def gslot (ops : List Oper) (o : Oper) : Option (Nat × Bool) :=
  match o.guard with
  | some (j, want) => match ops[j]? with
    | some oj => match oj.dst with
      | some d => some (d, want)
      | none => none
    | none => none
  | none => none

/-- The operations up to the pick that looks at slot d. -/
def segOf (d : Nat) : List Oper → Option (List Oper × Nat × List Oper)
  | [] => none
  | o :: l => match o.op, o.dst with
    | .pick (.tmp t) _ _, some dd => bif Nat.beq t d then some ([o], dd, l) else (match segOf d l with | some (s, x, r) => some (o :: s, x, r) | none => none)
    | _, _ => match segOf d l with | some (s, x, r) => some (o :: s, x, r) | none => none

/-- Quiet operations with guards, in the text's order. kn: slots of which the guard is decided. -/
def execQ (ops : List Oper) (bx : Bxs S) : Nat → List (Nat × Bool) → List Oper → Env S → (R : Type) → (Env S → Option R) → Option R
  | _, _, [], e, _, K => K e
  | 0, _, _ :: _, _, _, _ => none
  | n + 1, kn, o :: l, e, R, K =>
    match o.guard with
    | none => popQ un tb orc inl o e bx fun p => execQ ops bx n (dropK o.dst kn) l (push o.dst p e) R K
    | some _ => match gslot ops o with
      | none => none
      | some (d, want) => match lookK kn d with
        | some v => bif bbeq v want then popQ un tb orc inl o e bx fun p => execQ ops bx n (dropK o.dst kn) l (push o.dst p e) R K
          else execQ ops bx n (dropK o.dst kn) l (push o.dst undefV e) R K
        | none => match look e d with
          | some (.tup []) => execQ ops bx n (dropK o.dst kn) l (push o.dst undefV e) R K
          | some (.bool b) => match segOf d (o :: l) with
            | some (sg, dd, r) =>
              ob (br b (execQ ops bx n ((d, true) :: kn) sg ((d, .bool true) :: e) Bool (asB dd)) (execQ ops bx n ((d, false) :: kn) sg ((d, .bool false) :: e) Bool (asB dd)))
                fun v => execQ ops bx n (dropL (dsts sg) kn) r ((dd, .bool v) :: without (dsts sg) e) R K
            | none => none
          | _ => none

/-- Operations in the text's order. -/
def execR {R : Type} (ops : List Oper) (KX : Exit → Env S → Bxs S → Option R) : Nat → List Oper → Env S → Bxs S → (Env S → Bxs S → Option R) → Option R
  | _, [], e, bx, K => K e bx
  | 0, _ :: _, _, _, _ => none
  | n + 1, o :: l, e, bx, K =>
    match o.guard with
    | none => popK un tb orc inl o e bx (fun p e' bx' => execR ops KX n l (push o.dst p e') bx' K) KX
    | some _ => match gslot ops o with
      | none => none
      | some (d, _) => match look e d, segOf d (o :: l) with
          | some (.bool b), some (sg, dd, r) =>
            ob (br b (execQ un tb orc inl ops bx (2 * sg.length) [(d, true)] sg ((d, .bool true) :: e) Bool (asB dd)) (execQ un tb orc inl ops bx (2 * sg.length) [(d, false)] sg ((d, .bool false) :: e) Bool (asB dd)))
              fun v => execR ops KX n r ((dd, .bool v) :: without (dsts sg) e) bx K
          | _, _ => none

/-- Operations in the text's order; the ways part at a guard. -/
def execG {R : Type} (ops : List Oper) (KX : Exit → Env S → Bxs S → Option R) : Nat → List (Nat × Bool) → List Oper → Env S → Bxs S → (Env S → Bxs S → Option R) → Option R
  | _, _, [], e, bx, K => K e bx
  | 0, _, _ :: _, _, _, _ => none
  | n + 1, kn, o :: l, e, bx, K =>
    match o.guard with
    | none => popK un tb orc inl o e bx (fun p e' bx' => execG ops KX n (dropK o.dst kn) l (push o.dst p e') bx' K) KX
    | some _ => match gslot ops o with
      | none => none
      | some (d, want) => match lookK kn d with
        | some v => bif bbeq v want then popK un tb orc inl o e bx (fun p e' bx' => execG ops KX n (dropK o.dst kn) l (push o.dst p e') bx' K) KX
          else execG ops KX n (dropK o.dst kn) l (push o.dst undefV e) bx K
        | none => match look e d with
          | some (.tup []) => execG ops KX n (dropK o.dst kn) l (push o.dst undefV e) bx K
          | some (.bool b) => br b (execG ops KX n ((d, true) :: kn) (o :: l) ((d, .bool true) :: e) bx K) (execG ops KX n ((d, false) :: kn) (o :: l) ((d, .bool false) :: e) bx K)
          | _ => none

open Classical in
/-- Two ways to one end. -/
noncomputable def same {R : Type} (x y : Option R) : Option R := if x = y then x else none
noncomputable def sameL {R : Type} : List (Option R) → Option R
  | [] => none
  | [x] => x
  | x :: y :: r => same x (sameL (y :: r))
/-- All orders of a region's operations. -/
noncomputable def execAny {R : Type} (ops : Array Oper) (KX : Exit → Env S → Bxs S → Option R) : Nat → Array Bool → Env S → Bxs S → (Env S → Bxs S → Option R) → Option R
  | 0, listed, e, bx, K => match Region.ready .any ops listed with
    | [] => K e bx
    | _ :: _ => none
  | n + 1, listed, e, bx, K => match Region.ready .any ops listed with
    | [] => K e bx
    | i :: l => sameL ((i :: l).map fun i => match ops[i]? with
      | some o => match o.guard with
        | none => popK un tb orc inl o e bx (fun p e' bx' => execAny ops KX n (listed.setIfInBounds i true) (push o.dst p e') bx' K) KX
        | some _ => none
      | none => none)

/-- Operations that look at no memory. -/
def silent (o : Oper) : Bool := (match o.guard with | none => true | some _ => false) && (match o.op with
  | .move _ => true
  | .assign _ => true
  | .fieldAddr _ _ _ => true
  | .nilCheck _ => true
  | _ => false)
def rowlessAt (e : Env S) : List Nat → Bool
  | [] => true
  | t :: r => (match look e t with | some p => p.rowless | none => false) && rowlessAt e r
def slotsIn (l : List Operand) : List Nat := l.filterMap fun | .tmp t => some t | _ => none
/-- Silent operations, ahead of all others. -/
def execS {R : Type} (ops : Array Oper) (bx : Bxs S) : List Nat → Env S → (Env S → Option R) → Option R
  | [], e, K => K e
  | i :: r, e, K => match ops[i]? with
    | some o => bif silent o && rowlessAt e (slotsIn o.op.operands.toList) then popQ un tb orc inl o e bx fun p => bif p.rowless then execS ops bx r (push o.dst p e) K else none
      else none
    | none => none
def edge (ops : Array Oper) (i j : Nat) : Bool := match ops[j]? with | some o => o.after.any fun e => Region.binds .any e && Nat.beq e.on i | none => false
/-- Who looks at what a silent operation writes stands behind it; what a silent operation looks at is written by none but silent ones ahead of it. -/
def okSil (ops : Array Oper) : List Nat → List Nat → Bool
  | _, [] => true
  | sn, i :: r => (match ops[i]? with
    | some o => (match o.dst with
      | some d => !sn.contains i && (List.range ops.size).all fun j => (match ops[j]? with
        | some oj => (Nat.beq i j || oj.dst != some d) && (!(oj.looksAt ops).contains d || edge ops i j) && (sn.contains j || (match oj.dst with | some dj => !(slotsIn o.op.operands.toList).contains dj | none => true))
        | none => false)
      | none => false)
    | none => false) && okSil ops (i :: sn) r
def mark (listed : Array Bool) : List Nat → Array Bool
  | [] => listed
  | i :: r => mark (listed.setIfInBounds i true) r
def lookA {α : Type} : List (Nat × α) → Nat → Option α
  | [], _ => none
  | (i, x) :: r, k => bif Nat.beq i k then some x else lookA r k

/-! ### places where a state is told by its codes -/
def Cut.tys (c : Cut) : List CTy := c.slots.map (·.2) ++ (c.boxes.map (·.2)).flatten
def Cut.codes (c : Cut) : List U := c.tys.map CTy.code

def varsOf (bx : Bxs S) : List (Nat × List CTy) → Option (List (PV S))
  | [] => some []
  | (i, l) :: r => match getB bx i, varsOf bx r with
    | some (.var _ cs), some ps => bif Nat.beq cs.length l.length then some (cs ++ ps) else none
    | _, _ => none
def slotsOf (e : Env S) : List (Nat × CTy) → Option (List (PV S))
  | [] => some []
  | (i, _) :: r => match look e i, slotsOf e r with
    | some p, some ps => some (p :: ps)
    | _, _ => none
/-- The rows among what is the call's own, each once. -/
def rowsOwn (bx : Bxs S) : List CTy → List (PV S) → List Nat → Bool
  | [], [], _ => true
  | .own _ T :: r, .row b :: ps, l => (match getB bx b with | some (.own _ T' _) => Nat.beq T T' | _ => false) && !l.contains b && rowsOwn bx r ps (b :: l)
  | .own _ _ :: r, .nils :: ps, l => rowsOwn bx r ps l
  | .fr _ :: r, _ :: ps, l => rowsOwn bx r ps l
  | _, _, _ => false
def castCut (c : Cut) (e : Env S) (bx : Bxs S) : Option (ElL S c.codes) :=
  match slotsOf e c.slots, varsOf bx c.boxes with
  | some ps, some qs => bif rowsOwn bx c.tys (ps ++ qs) [] then castL un bx c.codes (ps ++ qs) else none
  | _, _ => none

/-- The values of a told state; n: the number of boxes ahead. -/
def mkPs : (ts : List CTy) → ElL S (ts.map CTy.code) → Nat → List (PV S)
  | [], _, _ => []
  | .fr u :: r, t, n => inj u t.1 :: mkPs r t.2 n
  | .own _ _ :: r, t, n => .row n :: mkPs r t.2 (n + 1)
def mkOwn : (ts : List CTy) → ElL S (ts.map CTy.code) → Bxs S
  | [], _ => []
  | .fr _ :: r, t => mkOwn r t.2
  | .own u T :: r, t => .own u T t.1 :: mkOwn r t.2
def zipSlots : List (Nat × CTy) → List (PV S) → Env S
  | (i, _) :: r, p :: ps => (i, p) :: zipSlots r ps
  | _, _ => []
/-- Each slot's last entry, if the slot isn't among W and the value speaks of no row. -/
def maskG (W : List Nat) : List Nat → Env S → Env S
  | _, [] => []
  | sn, (i, p) :: r => bif sn.contains i then maskG W sn r else bif W.contains i || !p.rowless then maskG W (i :: sn) r else (i, p) :: maskG W (i :: sn) r
def mask (W : List Nat) (e : Env S) : Env S := maskG W [] e
def mkBoxes : List (Nat × List CTy) → List (PV S) → Bxs S → Bxs S
  | [], _, bx => bx
  | (i, l) :: r, ps, bx => mkBoxes r (ps.drop l.length) (match getB bx i with | some (.var T _) => setB bx i (.var T (ps.take l.length)) | _ => bx)
def calmP (p : PV S) : PV S := bif p.rowless then p else .junk
def Box.calm : Box S → Box S
  | .var T cs => .var T (cs.map calmP)
  | .lk b => .lk b.calm
  | .ro b => .ro b.calm
  | b => b
/-- Rows are told by the codes, or gone. -/
def noRows : Bxs S → Bxs S
  | [] => []
  | .own _ _ _ :: r => .gone :: noRows r
  | b :: r => b.calm :: noRows r
def lockFrom (c : List (Nat × List CTy)) : Nat → Bxs S → Bxs S
  | _, [] => []
  | i, .var T cs :: r => (bif (c.map (·.1)).contains i then .var T cs else .lk (.var T cs)) :: lockFrom c (i + 1) r
  | i, .lk b :: r => .lk (.lk b) :: lockFrom c (i + 1) r
  | i, b :: r => b :: lockFrom c (i + 1) r
/-- Of the first boxes, those that were locked are as they were. -/
def unlock : Nat → Bxs S → Bxs S → Bxs S
  | 0, _, bx => bx
  | n + 1, .lk _ :: r', .lk b :: r => b :: unlock n r' r
  | n + 1, _ :: r', b :: r => b :: unlock n r' r
  | _ + 1, [], bx => bx
  | _ + 1, _, [] => []
def mkEnv (c : Cut) (W : List Nat) (e : Env S) (n : Nat) (t : ElL S c.codes) : Env S :=
  zipSlots c.slots (mkPs c.tys t n) ++ mask W e
/-- Boxes that are about to be told anew. -/
def blank (ks : List Nat) : Nat → Bxs S → Bxs S
  | _, [] => []
  | k, .var T cs :: r => (bif ks.contains k then .var T (cs.map fun _ => .junk) else .var T cs) :: blank ks (k + 1) r
  | k, b :: r => b :: blank ks (k + 1) r
def mkBx (c : Cut) (bx : Bxs S) (t : ElL S c.codes) : Bxs S :=
  mkBoxes c.boxes ((mkPs c.tys t bx.length).drop c.slots.length) (blank (c.boxes.map (·.1)) 0 (noRows bx)) ++ mkOwn c.tys t

def firstR : Code → Option Nat
  | .region id _ _ => some id
  | .seq a b => match firstR a with | some i => some i | none => firstR b
  | .cond _ a b => match firstR a with | some i => some i | none => firstR b
  | .block _ a => firstR a
  | .loop a => firstR a
  | .scope a => firstR a
  | _ => none
def writes : Code → List Nat
  | .region _ ops _ => ops.toList.filterMap (·.dst)
  | .seq a b => writes a ++ writes b
  | .cond _ a b => writes a ++ writes b
  | .block _ a => writes a
  | .loop a => writes a
  | .scope a => writes a
  | _ => []

/-- The slots that a piece writes, or tells anew. -/
def touch (an : Ann) : Code → List Nat
  | .region _ ops _ => dsts ops.toList
  | .seq a b => touch an a ++ touch an b ++ (match (firstR b).bind an.cut.get with | some c => c.slots.map (·.1) | none => [])
  | .cond _ a b => touch an a ++ touch an b
  | .block _ a => touch an a
  | .loop a => touch an a ++ (match (firstR a).bind an.loop.get with | some c => c.slots.map (·.1) | none => [])
  | .scope a => touch an a
  | _ => []

/-- May the operations of a region come in any order? Each slot is written once; who looks at a slot that another one writes stands in order with it. -/
def okOrder (ops : List Oper) : Bool :=
  let after (i j : Nat) : Bool := match ops[j]? with | some o => o.after.any fun e => Region.binds .any e && Nat.beq e.on i | none => false
  let idx := ops.zipIdx
  (idx.all fun (oi, i) => oi.after.all fun e => !Region.binds .any e || Nat.blt e.on i) && idx.all fun (oi, i) => idx.all fun (oj, j) =>
    Nat.beq i j || (match oi.dst with
      | none => true
      | some d => (oj.dst != some d) && (!(oj.looksAt ops.toArray).contains d || (bif Nat.blt i j then after i j else after j i)))

variable (an : Ann)

noncomputable def exec : Code → (R : Type) → Env S → Bxs S → (Exit → Env S → Bxs S → Option R) → Option R
  | .skip, _, e, bx, K => K .normal e bx
  | .ret, _, e, bx, K => K .ret e bx
  | .exit i, _, e, bx, K => K (.exit i) e bx
  | .region id ops false, _, e, bx, K => bif an.dup.any (Nat.beq id) then execG un tb orc inl ops.toList K (2 * ops.size) [] ops.toList e bx (fun e' bx' => K .normal e' bx') else execR un tb orc inl ops.toList K ops.size ops.toList e bx fun e' bx' => K .normal e' bx'
  | .region id ops true, R, e, bx, K => match lookA an.any id with
    | some sil => bif okOrder ops.toList && okSil ops [] sil then execS un tb orc inl ops bx sil e fun e => execAny un tb orc inl ops (fun x e bx => K x (without (dsts ops.toList) e) bx) ops.size (mark (Array.replicate ops.size false) sil) e bx fun e' bx' => K .normal e' bx' else none
    | none => bif okOrder ops.toList then execQ un tb orc inl ops.toList bx (2 * ops.size) [] ops.toList e R fun e' => K .normal e' bx else none
  | .seq a b, R, e, bx, K => match (firstR b).bind an.cut.get with
    | none => exec a R e bx fun x e' bx' => match x with
      | .normal => exec b R e' bx' K
      | x => K x e' bx'
    | some c =>
      cutM (exec a (ElL S c.codes ⊕ R) e (lockFrom c.boxes 0 bx) fun x e' bx' => match x with
        | .normal => (castCut un c e' bx').map .inl
        | x => (K x e' (unlock bx.length (lockFrom c.boxes 0 bx) bx')).map .inr) fun t =>
        exec b R (mkEnv c (touch an a) e bx.length t) (mkBx c bx t) K
  | .cond c x y, R, e, bx, K => match ev e c with
    | some (.bool b) => br b (exec x R e bx K) (exec y R e bx K)
    | _ => none
  | .block i c, R, e, bx, K => exec c R e bx fun x e' bx' => match x with
    | .exit j => bif Nat.beq i j then K .normal e' bx' else K (.exit j) e' bx'
    | x => K x e' bx'
  | .loop c, R, e, bx, K => match (firstR c).bind an.loop.get with
    | none => none
    | some ct =>
      match castCut un ct e (lockFrom ct.boxes 0 bx) with
      | none => none
      | some t0 => loopM (fun t => exec c (ElL S ct.codes ⊕ R) (mkEnv ct (touch an c) e bx.length t) (lockFrom ct.boxes 0 (mkBx ct bx t)) fun x e' bx' => match x with
          | .normal => (castCut un ct e' bx').map .inl
          | x => (K x e' (unlock (mkBx ct bx t).length (lockFrom ct.boxes 0 (mkBx ct bx t)) bx')).map .inr) t0
  | _, _, _, _, _ => none

def resPs (e : Env S) (bx : Bxs S) : List ResultVar → Option (List (PV S))
  | [] => some []
  | .tmp t :: r => match look e t, resPs e bx r with
    | some p, some l => some (p :: l)
    | _, _ => none
  | .cell a T :: r => match look e a, resPs e bx r with
    | some q, some l => match load un tb T q bx with
      | some p => some (p :: l)
      | none => none
    | _, _ => none

def argEnv : Nat → List (PV S) → Env S
  | _, [] => []
  | k, v :: r => (k, v) :: argEnv (k + 1) r

/-- A function's text, read over these boxes. -/
noncomputable def fnI (fn : Func) (args : List (PV S)) (bx : Bxs S) (rs : List U) : Option (ElL S rs) :=
  match fn.body with
  | none => none
  | some c => bif (writes c).all (Nat.blt · fn.ntmps) && Nat.ble args.length fn.ntmps then exec un tb orc inl an c (ElL S rs) (argEnv 0 args) bx fun x e bx => match x with
    | .ret => (match resPs un tb e bx fn.results.toList with
      | some l => castL un bx rs l
      | none => none)
    | .normal => (match resPs un tb e bx fn.results.toList with
      | some l => castL un bx rs l
      | none => none)
    | _ => none
    else none
def finE (fn : Func) (e : Env S) (bx : Bxs S) (ts : List TypeId) (lc rs ps : List U) : Option (Out S lc rs ps) :=
  match resPs un tb e bx fn.results.toList with
  | some l => match castL un bx rs l, lend un bx ts lc (List.range ts.length) with
    | some t, some c => some (.inl (c, t))
    | _, _ => none
  | none => none
/-- A function to which boxes are lent. -/
noncomputable def fnE (fn : Func) (args : List (PV S)) (ts : List TypeId) (lc : List U) (c : ElL S lc) (rs ps : List U) (pan : TypeId) : Option (Out S lc rs ps) :=
  match fn.body with
  | none => none
  | some b => bif (writes b).all (Nat.blt · fn.ntmps) && Nat.ble args.length fn.ntmps && Nat.beq ts.length lc.length then exec un tb orc inl an b (Out S lc rs ps) (argEnv 0 args) (mkLent un ts lc c) fun x e bx => match x with
    | .ret => finE un tb fn e bx ts lc rs ps
    | .normal => finE un tb fn e bx ts lc rs ps
    | .panic ch => match unpan pan ps ch with
      | some p => some (.inr p)
      | none => none
    | _ => none
    else none
end
/-- Calls that are read by their text, n deep. -/
noncomputable def inlN (un : Uni S) (tb : Tb S) (orc : Orc S) : Nat → Inl S
  | 0 => ⟨fun _ _ _ _ _ => none, fun _ _ _ _ _ _ _ _ _ => none⟩
  | n + 1 => ⟨fun fn an args bx rs => fnI un tb orc (inlN un tb orc n) an fn args bx rs, fun fn an args ts lc c rs ps pan => fnE un tb orc (inlN un tb orc n) an fn args ts lc c rs ps pan⟩
/-- A function of data. -/
noncomputable def fnM (un : Uni S) (tb : Tb S) (orc : Orc S) (an : Ann) (fn : Func) (args : List (PV S)) (rs : List U) : Option (ElL S rs) :=
  fnI un tb orc (inlN un tb orc 6) an fn args [] rs
/-- A function to which boxes are lent. -/
noncomputable def fnF (un : Uni S) (tb : Tb S) (orc : Orc S) (an : Ann) (fn : Func) (args : List (PV S)) (ts : List TypeId) (lc : List U) (c : ElL S lc) (rs ps : List U) (pan : TypeId) : Option (Out S lc rs ps) :=
  fnE un tb orc (inlN un tb orc 6) an fn args ts lc c rs ps pan
end Pe
