import Derived.SizedLaws
import Derived.ChangeSlices
namespace Go.Proofs.YtgfpbiaocokdeaaDoorW.PrintWords
open Go.ChangeShapes Go.WideShapes
end Go.Proofs.YtgfpbiaocokdeaaDoorW.PrintWords

