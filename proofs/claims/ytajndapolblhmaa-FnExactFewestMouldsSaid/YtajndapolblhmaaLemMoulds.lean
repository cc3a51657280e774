/- The fewest moulds, plainly. -/
import Derived.Test.YtajndapolblhmaaLemOrders
import Derived.Test.YtajndapolblhmaaLemWorks
import Derived.Test.YtajndapolblhmaaPx0
namespace Go.Proofs.Ytajndapolblhmaa.P
open Go.RowKit Go.Proofs.Ytajndapolblhmaa.P Go.Proofs.YtajndapolblhmaaW.PrintWords Go.Proofs.YtajndapolblhmaaW.PrintLast Go.Proofs.YtajndapolblhmaaW.PrintMore
set_option linter.unusedVariables false
set_option linter.unusedSimpArgs false
def fmNeed (w n : Int) : Int := (w + n - 1) / n
def fmGo (b c : Int) : Int → Int → Int → List S119 → Int × Int × Bool
  | m, d, _, [] => if m > 200 then (0, 0, false) else (m, d, true)
  | m, d, w, o :: t => if castOf b c o.f0 = 0 then (0, 0, false) else if fmNeed (w + o.f1) (castOf b c o.f0) > m then fmGo b c (fmNeed (w + o.f1) (castOf b c o.f0)) o.f0 (w + o.f1) t else fmGo b c m d (w + o.f1) t
def fmOf (b c : Int) (l : List S119) : Int × Int × Bool := if rhOk b c = true ∧ orValid l = true ∧ ¬ l.length = 0 then fmGo b c 0 0 0 l else (0, 0, false)
theorem fmNeed_in (w n : Int) (hw : 0 ≤ w ∧ w ≤ 100000) (hn : 1 ≤ n ∧ n ≤ 1000) : 0 ≤ fmNeed w n ∧ fmNeed w n ≤ 200000 := by
  unfold fmNeed
  constructor
  · exact Int.ediv_nonneg (by omega) (by omega)
  · have : (w + n - 1) / n ≤ w + n - 1 := Int.ediv_le_self _ (by omega)
    omega

end Go.Proofs.Ytajndapolblhmaa.P
