/- PROVED HERE: a part of the seat's proofs; see the text that holds the claim's theorem. -/
import Derived.Test.YteimbekcnkogoaaDoorLicPlain2
/- The program's structs as Lean structures: written by petab.py. -/
namespace Gt
structure A2_string where
  e0 : (List UInt8)
  e1 : (List UInt8)
structure A3_int32 where
  e0 : Int
  e1 : Int
  e2 : Int
structure Exception where
  name : (List UInt8)
  for_ : (List (List UInt8))
  lifts : (List (List UInt8))
structure LicenceRule where
  name : (List UInt8)
  family : (List UInt8)
  order : Int
  obligations : (List (List UInt8))
structure Catalog where
  licences : (List LicenceRule)
  exceptions : (List Exception)
  clashes : (List A2_string)
structure Use where
  name : (List UInt8)
  with_ : (List UInt8)
structure Licence_fault where
  at_ : Int
  code : Int
structure Licence_rank where
  family : (List UInt8)
  order : Int
structure Licence_token where
  kind : Int
  text : (List UInt8)
  at_ : Int
  tight : Bool
structure Licence_reader where
  s : (List UInt8)
  end_ : Int
  now : Licence_token
  open_ : Int
structure Provenderref3_reader where
  s : (List UInt8)
  at_ : Int
  pos : Int
  no : Int
end Gt
