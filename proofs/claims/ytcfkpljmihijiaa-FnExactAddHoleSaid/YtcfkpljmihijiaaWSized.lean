import Derived.SizedLaws
import Derived.ChangeSlices
namespace Go.Proofs.YtcfkpljmihijiaaW.PrintWords
open Go.ChangeShapes Go.WideShapes
end Go.Proofs.YtcfkpljmihijiaaW.PrintWords

