import Derived.Test.YtgfpbiaocokdeaaWInv
import Derived.Test.YtgfpbiaocokdeaaWFootNe
namespace Go.Proofs.YtgfpbiaocokdeaaW.PrintWords
open Go.RowKit
end Go.Proofs.YtgfpbiaocokdeaaW.PrintWords
namespace Go.Proofs.YtgfpbiaocokdeaaW.PrintLast
section
variable {ops : Array Oper} {a : Act} {o og : Oper} {g : Nat} {t : Tmp} {u : Bool}
end
end Go.Proofs.YtgfpbiaocokdeaaW.PrintLast

