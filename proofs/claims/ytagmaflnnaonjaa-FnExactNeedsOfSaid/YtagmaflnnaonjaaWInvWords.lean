import Derived.Test.YtagmaflnnaonjaaWInv
import Derived.Test.YtagmaflnnaonjaaWFootNe
namespace Go.Proofs.YtagmaflnnaonjaaW.PrintWords
open Go.RowKit
end Go.Proofs.YtagmaflnnaonjaaW.PrintWords
namespace Go.Proofs.YtagmaflnnaonjaaW.PrintLast
section
variable {ops : Array Oper} {a : Act} {o og : Oper} {g : Nat} {t : Tmp} {u : Bool}
end
end Go.Proofs.YtagmaflnnaonjaaW.PrintLast

