import Derived.SizedLaws
import Derived.ChangeSlices
namespace Go.Proofs.YtajndapolblhmabW.PrintWords
open Go.ChangeShapes Go.WideShapes
end Go.Proofs.YtajndapolblhmabW.PrintWords

