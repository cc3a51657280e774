import Derived.SizedLaws
import Derived.ChangeSlices
namespace Go.Proofs.YtfcadpkhmkjibaaW.PrintWords
open Go.ChangeShapes Go.WideShapes
end Go.Proofs.YtfcadpkhmkjibaaW.PrintWords

