/- The needs of points, plainly. -/
import Derived.Test.YtajndapolblhmaaLemSettled
import Derived.Test.YtajndapolblhmaaPx0
namespace Go.Proofs.Ytajndapolblhmaa.P
open Go.RowKit Go.Proofs.Ytajndapolblhmaa.P Go.Proofs.YtajndapolblhmaaW.PrintWords Go.Proofs.YtajndapolblhmaaW.PrintLast Go.Proofs.YtajndapolblhmaaW.PrintMore
set_option linter.unusedVariables false
set_option linter.unusedSimpArgs false
def needOf (a u n : Int) : Int := wrap64 (Int.tdiv (wrap64 (wrap64 ((if wrap64 (n - a) < 0 then 0 else wrap64 (n - a)) + u) - 1)) u)
def needsGo (a u : Int) : List Int → List Int → List Int × Bool
  | acc, [] => (acc, true)
  | acc, n :: t => if needOf a u n > 12 then ([], false) else needsGo a u (acc ++ [needOf a u n]) t
def needsP (l : List Int) (a u f : Int) : List Int × Bool :=
  if stOk l = true ∧ (0 ≤ a ∧ a ≤ 2000000) ∧ (1 ≤ u ∧ u ≤ 2000000) ∧ (0 ≤ f ∧ f ≤ 12) then needsGo a u [] ((l.take (f.toNat + 12)).drop f.toNat) else ([], false)
theorem needsGo_len (a u : Int) : ∀ (l acc : List Int), (needsGo a u acc l).1.length ≤ acc.length + l.length
  | [], acc => by simp [needsGo]
  | n :: t, acc => by
    simp only [needsGo]
    split
    · simp
    · have := needsGo_len a u t (acc ++ [needOf a u n])
      simp only [List.length_append, List.length_cons, List.length_nil] at this ⊢
      omega
theorem needsP_len (l : List Int) (a u f : Int) : (needsP l a u f).1.length ≤ 12 := by
  unfold needsP
  split
  · rename_i h
    have := needsGo_len a u ((l.take (f.toNat + 12)).drop f.toNat) []
    simp only [List.length_drop, List.length_take, List.length_nil] at this
    omega
  · simp

end Go.Proofs.Ytajndapolblhmaa.P
