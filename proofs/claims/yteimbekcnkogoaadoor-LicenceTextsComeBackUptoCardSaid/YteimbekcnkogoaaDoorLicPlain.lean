/- The plain law of reading licence expressions: the token reader with one token ahead and the reference's reader give one answer. No program in sight. -/
namespace LicSpec

abbrev Str := List UInt8

/-- An expression of licences. -/
structure Ex where
  kind : Int
  name : Str
  later : Bool
  wth : Str
  kids : List Ex

def Ex.zero : Ex := .mk 0 [] false [] []

def isRun (c : UInt8) : Bool := (97 ≤ c && c ≤ 122) || (65 ≤ c && c ≤ 90) || (48 ≤ c && c ≤ 57) || c == 46 || c == 45
def isBlank (c : UInt8) : Bool := c == 32 || c == 9 || c == 10

def sAND : Str := [65, 78, 68]
def sOR : Str := [79, 82]
def sWITH : Str := [87, 73, 84, 72]
def sand : Str := [97, 110, 100]
def sor : Str := [111, 114]
def swith : Str := [119, 105, 116, 104]

/-- The word in capitals; nothing for a text that is no word. -/
def wordR (l : Str) : Str :=
  if l = sAND ∨ l = sand then sAND else if l = sOR ∨ l = sor then sOR else if l = sWITH ∨ l = swith then sWITH else []

def isWord (l : Str) : Bool := l == sAND || l == sOR || l == sWITH || l == sand || l == sor || l == swith

def isName (l : Str) : Bool :=
  !(l.isEmpty || decide (60 < l.length) || l.head? == some 46 || l.head? == some 45 || isWord l) && l.all isRun

def skipB : Str → Nat
  | [] => 0
  | c :: r => if isBlank c then skipB r + 1 else 0

def runL : Str → Nat
  | [] => 0
  | c :: r => if isRun c then runL r + 1 else 0

/-- The token at a place where no blank stands: kind, text, length; none: it is a fault. -/
def tokAt (r : Str) : Option (Int × Str × Nat) :=
  match r with
  | [] => some (0, [], 0)
  | c :: _ =>
    let n := runL r
    if n = 0 then
      if c = 43 then some (3, [], 1) else if c = 40 then some (4, [], 1) else if c = 41 then some (5, [], 1) else none
    else
      let t := r.take n
      if isWord t then some (2, wordR t, n) else if isName t then some (1, t, n) else none

/-- The state of the reader with a token ahead. -/
structure PS where
  fin : Nat
  kind : Int
  text : Str
  at_ : Nat
  tight : Bool
  opn : Nat

inductive Res (α : Type) where
  | ok (a : α) (s : PS)
  | err (at_ : Nat) (code : Int)

def pNext (S : Str) (s : PS) : Res Unit :=
  let a := s.fin + skipB (S.drop s.fin)
  match tokAt (S.drop a) with
  | none => .err a 6
  | some (k, t, n) => .ok () { s with fin := if k = 0 then s.fin else a + n, kind := k, text := t, at_ := a, tight := decide (a = s.fin) && decide (0 < a) }

def pName (S : Str) (s : PS) : Res Str :=
  if s.kind ≠ 1 then .err s.at_ 6 else
  match pNext S s with
  | .err a c => .err a c
  | .ok _ s' => .ok s.text s'

/-- 'is': true: the word was there, and the reader has gone on. -/
def pIs (S : Str) (w : Str) (s : PS) : Res Bool :=
  if s.kind = 2 ∧ s.text = w then
    match pNext S s with
    | .err a c => .err a c
    | .ok _ s' => .ok true s'
  else .ok false s

def pRowLoop (S : Str) (w : Str) (one : PS → Res Ex) : Nat → List Ex → PS → Res (List Ex)
  | 0, acc, s => .ok acc s
  | f + 1, acc, s =>
    match pIs S w s with
    | .err a c => .err a c
    | .ok false s' => .ok acc s'
    | .ok true s' =>
      match one s' with
      | .err a c => .err a c
      | .ok e s'' => pRowLoop S w one f (acc ++ [e]) s''

def pRow (S : Str) (kind : Int) (w : Str) (one : PS → Res Ex) (s : PS) : Res Ex :=
  match one s with
  | .err a c => .err a c
  | .ok e s' =>
    if s'.kind = 2 ∧ s'.text = w then
      match pRowLoop S w one (S.length + 1) [e] s' with
      | .err a c => .err a c
      | .ok l s'' => .ok (.mk kind [] false [] l) s''
    else .ok e s'

/-- The end of a single name: a plus, and an exception. -/
def pTail (S : Str) (name : Str) (s : PS) : Res Ex :=
  match (if s.kind = 3 ∧ s.tight = true then (match pNext S s with | .err a c => .err a c | .ok _ s' => .ok true s') else .ok false s : Res Bool) with
  | .err a c => .err a c
  | .ok later s1 =>
    match pIs S sWITH s1 with
    | .err a c => .err a c
    | .ok false s2 => .ok (.mk 1 name later [] []) s2
    | .ok true s2 =>
      match pName S s2 with
      | .err a c => .err a c
      | .ok x s3 => .ok (.mk 1 name later x []) s3

def pSingle (S : Str) : Nat → PS → Res Ex
  | d, s =>
    if s.kind = 4 then
      match d with
      | 0 => .err s.at_ 3
      | d + 1 =>
        match pNext S { s with opn := s.opn + 1 } with
        | .err a c => .err a c
        | .ok _ s1 =>
          match pRow S 3 sOR (pRow S 2 sAND (pSingle S d)) s1 with
          | .err a c => .err a c
          | .ok e s2 =>
            if s2.kind ≠ 5 then .err s2.at_ 6 else
            match pNext S { s2 with opn := s2.opn - 1 } with
            | .err a c => .err a c
            | .ok _ s3 => .ok e s3
    else
      match pName S s with
      | .err a c => .err a c
      | .ok name s1 => pTail S name s1

def pEither (S : Str) (d : Nat) (s : PS) : Res Ex := pRow S 3 sOR (pRow S 2 sAND (pSingle S d)) s

def pStart : PS := ⟨0, 0, [], 0, false, 0⟩

def pParse (S : Str) : Res Ex :=
  match pNext S pStart with
  | .err a c => .err a c
  | .ok _ s =>
    match pEither S 30 s with
    | .err a c => .err a c
    | .ok e s' => if s'.kind ≠ 0 then .err s'.at_ 6 else .ok e s'

/-! ### the reference's reader -/

structure RS where
  at_ : Nat
  pos : Nat
  no : Int

def rFail (s : RS) (a : Nat) (c : Int) : RS := if s.no = 0 then { s with pos := a, no := c } else s
def rBlanks (S : Str) (s : RS) : RS := { s with at_ := s.at_ + skipB (S.drop s.at_) }
def rRun (S : Str) (s : RS) : Str := (S.drop s.at_).take (runL (S.drop s.at_))

def rTakeWord (S : Str) (w : Str) (s : RS) : Bool × RS :=
  let s1 := rBlanks S s
  let t := rRun S s1
  if wordR t = w then (true, { s1 with at_ := s1.at_ + t.length }) else (false, s1)

def rTakeByte (S : Str) (b : UInt8) (s : RS) : Bool × RS :=
  let s1 := rBlanks S s
  if S[s1.at_]? = some b then (true, { s1 with at_ := s1.at_ + 1 }) else (false, s1)

def rName (S : Str) (s : RS) : Str × RS :=
  let s1 := rBlanks S s
  let t := rRun S s1
  if isName t then (t, { s1 with at_ := s1.at_ + t.length }) else ([], rFail s1 s1.at_ 6)

/-- Behind an expression of the list: as long as the word is there, one expression more. -/
def rListLoop (S : Str) (w : Str) (one : RS → Ex × RS) : Nat → List Ex → RS → List Ex × RS
  | 0, acc, s => (acc, s)
  | f + 1, acc, s =>
    if s.no ≠ 0 then (acc, s) else
    match rTakeWord S w s with
    | (false, s1) => (acc, s1)
    | (true, s1) =>
      match one s1 with
      | (e, s2) => rListLoop S w one f (acc ++ [e]) s2

def rList (S : Str) (kind : Int) (w : Str) (one : RS → Ex × RS) (s : RS) : Ex × RS :=
  match one s with
  | (e0, s0) =>
    match rListLoop S w one (S.length + 1) [e0] s0 with
    | ([e], s1) => (e, s1)
    | (l, s1) => (.mk kind [] false [] l, s1)

def rTail (S : Str) (name : Str) (s : RS) : Ex × RS :=
  let (later, s1) := if s.no = 0 ∧ S[s.at_]? = some 43 then (true, { s with at_ := s.at_ + 1 }) else (false, s)
  if s1.no = 0 then
    let (t, s2) := rTakeWord S sWITH s1
    if t then
      let (x, s3) := rName S s2
      (.mk 1 name later x [], s3)
    else (.mk 1 name later [] [], s2)
  else (.mk 1 name later [] [], s1)

def rSingle (S : Str) : Nat → RS → Ex × RS
  | d, s =>
    let s0 := rBlanks S s
    let a := s0.at_
    let (t, s1) := rTakeByte S 40 s0
    if t then
      match d with
      | 0 => (.zero, rFail s1 a 3)
      | d + 1 =>
        let (e, s2) := rList S 3 sOR (rList S 2 sAND (rSingle S d)) s1
        if s2.no = 0 then
          let (t, s3) := rTakeByte S 41 s2
          if t then (e, s3) else (e, rFail s3 s3.at_ 6)
        else (e, s2)
    else
      let (name, s2) := rName S s1
      rTail S name s2

def rParse (S : Str) : Ex × RS :=
  let (e, s) := rList S 3 sOR (rList S 2 sAND (rSingle S 30)) ⟨0, 0, 0⟩
  let s1 := rBlanks S s
  if s1.no = 0 ∧ s1.at_ < S.length then (e, rFail s1 s1.at_ 6) else (e, s1)

end LicSpec
