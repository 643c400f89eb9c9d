/- The number of draws never falls: in no run of a program, in no step of the machine. -/
import Derived.Test.YtojfjgjdheiffaaGreatDoorNm
import Derived.Below
namespace Pe.Dr
open Go
variable{P:Program}{α:Type}
end Pe.Dr
