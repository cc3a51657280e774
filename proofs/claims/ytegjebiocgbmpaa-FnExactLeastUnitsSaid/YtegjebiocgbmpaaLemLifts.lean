/- By how much the points of a plan are lifted, plainly. -/
import Derived.Test.YtegjebiocgbmpaaPx0
namespace Go.Proofs.Ytegjebiocgbmpaa.P
open Go.RowKit Go.Proofs.Ytegjebiocgbmpaa.P Go.Proofs.YtegjebiocgbmpaaW.PrintWords Go.Proofs.YtegjebiocgbmpaaW.PrintLast Go.Proofs.YtegjebiocgbmpaaW.PrintMore
set_option linter.unusedVariables false
set_option linter.unusedSimpArgs false
def liftAt (l : List Int) (i : Nat) : Int :=
  let a := if 0 < i then wrap64 (wrap64 (2 * rd l i) + rd l ((i - 1 : Nat) : Int)) else wrap64 (2 * rd l i)
  if i + 1 < l.length then wrap64 (a + rd l ((i + 1 : Nat) : Int)) else a
def liftsGo (l : List Int) : Nat → Nat → List Int
  | 0, _ => []
  | d + 1, i => liftAt l i :: liftsGo l d (i + 1)
def liftsOf (l : List Int) : List Int := liftsGo l l.length 0
theorem liftsGo_len (l : List Int) : ∀ (d i : Nat), (liftsGo l d i).length = d
  | 0, _ => rfl
  | d + 1, i => by simp [liftsGo, liftsGo_len l d]
theorem liftsOf_len (l : List Int) : (liftsOf l).length = l.length := liftsGo_len l _ _

end Go.Proofs.Ytegjebiocgbmpaa.P
