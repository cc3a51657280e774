import Derived.SizedLaws
import Derived.ChangeSlices
namespace Go.Proofs.YtfcadpkhmkjibaaDoorW.PrintWords
open Go.ChangeShapes Go.WideShapes
end Go.Proofs.YtfcadpkhmkjibaaDoorW.PrintWords

