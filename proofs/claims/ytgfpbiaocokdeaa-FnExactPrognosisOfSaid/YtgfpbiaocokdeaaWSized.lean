import Derived.SizedLaws
import Derived.ChangeSlices
namespace Go.Proofs.YtgfpbiaocokdeaaW.PrintWords
open Go.ChangeShapes Go.WideShapes
end Go.Proofs.YtgfpbiaocokdeaaW.PrintWords

