/- What has set beyond the voids, as both sides sum it. -/
import Derived.Test.YtajndapolblhmaaLemGroutMore
import Derived.Test.YtajndapolblhmaaLemGrouts
import Derived.Test.YtajndapolblhmaaPx0
namespace Go.Proofs.Ytajndapolblhmaa.P
open Go.RowKit Go.Proofs.Ytajndapolblhmaa.P Go.Proofs.YtajndapolblhmaaW.PrintWords Go.Proofs.YtajndapolblhmaaW.PrintLast Go.Proofs.YtajndapolblhmaaW.PrintMore
set_option linter.unusedVariables false
set_option linter.unusedSimpArgs false
def spareGo : Int → List S40 → Int
  | s, [] => s
  | s, g :: t => spareGo (wrap64 (s + (if wrap64 (grSet g - g.f1) < 0 then 0 else wrap64 (grSet g - g.f1)))) t
def spareOf (l : List S40) : Int × Bool := if grValid l = true then (spareGo 0 l, true) else (0, false)

end Go.Proofs.Ytajndapolblhmaa.P
