import Derived.Test.YtfcadpkhmkjibaaDoorWInv
import Derived.Test.YtfcadpkhmkjibaaDoorWFootNe
namespace Go.Proofs.YtfcadpkhmkjibaaDoorW.PrintWords
open Go.RowKit
end Go.Proofs.YtfcadpkhmkjibaaDoorW.PrintWords
namespace Go.Proofs.YtfcadpkhmkjibaaDoorW.PrintLast
section
variable {ops : Array Oper} {a : Act} {o og : Oper} {g : Nat} {t : Tmp} {u : Bool}
end
end Go.Proofs.YtfcadpkhmkjibaaDoorW.PrintLast

