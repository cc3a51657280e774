import Derived.Test.YtajndapolblhmabWInv
import Derived.Test.YtajndapolblhmabWFootNe
namespace Go.Proofs.YtajndapolblhmabW.PrintWords
open Go.RowKit
end Go.Proofs.YtajndapolblhmabW.PrintWords
namespace Go.Proofs.YtajndapolblhmabW.PrintLast
section
variable {ops : Array Oper} {a : Act} {o og : Oper} {g : Nat} {t : Tmp} {u : Bool}
end
end Go.Proofs.YtajndapolblhmabW.PrintLast

