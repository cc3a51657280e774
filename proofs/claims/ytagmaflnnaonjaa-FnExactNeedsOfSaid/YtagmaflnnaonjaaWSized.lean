import Derived.SizedLaws
import Derived.ChangeSlices
namespace Go.Proofs.YtagmaflnnaonjaaW.PrintWords
open Go.ChangeShapes Go.WideShapes
end Go.Proofs.YtagmaflnnaonjaaW.PrintWords

