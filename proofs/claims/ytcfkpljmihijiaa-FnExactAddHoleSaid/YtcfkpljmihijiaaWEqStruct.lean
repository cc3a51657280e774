import Derived.Test.YtcfkpljmihijiaaWWords
import Derived.Laws.StructEq
namespace Go.Proofs.YtcfkpljmihijiaaW.PrintWords
open Go.RowKit
section
variable {P : Program} {d : Nat} {xs ys : Array Value} {f : Field} {fs : List Field} {a b : Value} {r s : Bool} {w : World}
end
end Go.Proofs.YtcfkpljmihijiaaW.PrintWords

