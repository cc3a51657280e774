import Derived.Test.YtfcadpkhmkjibaaWInv
import Derived.Test.YtfcadpkhmkjibaaWFootNe
namespace Go.Proofs.YtfcadpkhmkjibaaW.PrintWords
open Go.RowKit
end Go.Proofs.YtfcadpkhmkjibaaW.PrintWords
namespace Go.Proofs.YtfcadpkhmkjibaaW.PrintLast
section
variable {ops : Array Oper} {a : Act} {o og : Oper} {g : Nat} {t : Tmp} {u : Bool}
end
end Go.Proofs.YtfcadpkhmkjibaaW.PrintLast

