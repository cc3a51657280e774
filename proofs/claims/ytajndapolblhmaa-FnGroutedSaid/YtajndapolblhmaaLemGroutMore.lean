/- What has set, and what is lost behind a ring, as both sides reckon it. -/
import Derived.Test.YtajndapolblhmaaPx0
namespace Go.Proofs.Ytajndapolblhmaa.P
open Go.RowKit Go.Proofs.Ytajndapolblhmaa.P Go.Proofs.YtajndapolblhmaaW.PrintWords Go.Proofs.YtajndapolblhmaaW.PrintLast Go.Proofs.YtajndapolblhmaaW.PrintMore
set_option linter.unusedVariables false
set_option linter.unusedSimpArgs false
def grSet (g : S40) : Int := wrap64 (Int.tdiv (wrap64 (g.f2 * (wrap64 (100 - g.f3)))) 100)
def grLoss (g : S40) : Int := if wrap64 (g.f1 - grSet g) < 0 then 0 else wrap64 (g.f1 - grSet g)

end Go.Proofs.Ytajndapolblhmaa.P
