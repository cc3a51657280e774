import Derived.Test.YtgfpbiaocokdeaaDoorWInv
import Derived.Test.YtgfpbiaocokdeaaDoorWFootNe
namespace Go.Proofs.YtgfpbiaocokdeaaDoorW.PrintWords
open Go.RowKit
end Go.Proofs.YtgfpbiaocokdeaaDoorW.PrintWords
namespace Go.Proofs.YtgfpbiaocokdeaaDoorW.PrintLast
section
variable {ops : Array Oper} {a : Act} {o og : Oper} {g : Nat} {t : Tmp} {u : Bool}
end
end Go.Proofs.YtgfpbiaocokdeaaDoorW.PrintLast

