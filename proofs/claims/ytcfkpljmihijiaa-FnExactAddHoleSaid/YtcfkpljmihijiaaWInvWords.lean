import Derived.Test.YtcfkpljmihijiaaWInv
import Derived.Test.YtcfkpljmihijiaaWFootNe
namespace Go.Proofs.YtcfkpljmihijiaaW.PrintWords
open Go.RowKit
end Go.Proofs.YtcfkpljmihijiaaW.PrintWords
namespace Go.Proofs.YtcfkpljmihijiaaW.PrintLast
section
variable {ops : Array Oper} {a : Act} {o og : Oper} {g : Nat} {t : Tmp} {u : Bool}
end
end Go.Proofs.YtcfkpljmihijiaaW.PrintLast

