/- The program's number with a text. -/
import Derived.Test.YtegjebiocgbmpaaDoorLemCore
import Derived.Test.YtegjebiocgbmpaaDoorLemDec
import Derived.Test.YtegjebiocgbmpaaDoorLemValue
import Derived.Test.YtegjebiocgbmpaaDoorPx3
namespace Go.Proofs.YtegjebiocgbmpaaDoor.P
open Go.RowKit Go.Proofs.YtegjebiocgbmpaaDoor.P Go.Proofs.YtegjebiocgbmpaaDoorW.PrintWords Go.Proofs.YtegjebiocgbmpaaDoorW.PrintLast Go.Proofs.YtegjebiocgbmpaaDoorW.PrintMore
set_option linter.unusedVariables false
set_option linter.unusedSimpArgs false
theorem implReadIn_is (s : List UInt8) (lo hi : Int) (hs : s.length ≤ 281474976710656) : impl_readIn.f (tx s) lo hi = some (valIn lo hi s) := by
  unfold impl_readIn.f valIn decOf
  rw [tx_size, if_pos hs, tx_data, tx_toList]
  congr 1
  cases Lib.parseIntB 64 s with
  | ok v =>
    dsimp only
    rw [show (⟨(Lib.itoa v).toArray⟩ : ByteArray) = tx (Lib.itoa v) from rfl, tx_toList]
    by_cases h : Lib.itoa v = s
    · rw [if_pos h]
      dsimp only
      by_cases h2 : lo ≤ v ∧ v ≤ hi
      · rw [if_pos ⟨h, h2⟩, if_pos h2]
      · rw [if_neg (fun z => h2 z.2), if_neg h2]
    · rw [if_neg (fun z => h z.1), if_neg h]
  | range => rfl
  | _ => rfl
theorem implReadDecimal_is (s : List UInt8) (hs : s.length ≤ 281474976710656) : impl_ReadDecimal.f (tx s) = some (valIn (-1000000000) 1000000000 s) := by
  unfold impl_ReadDecimal.f
  rw [implReadIn_is s _ _ hs, bind_some_]

end Go.Proofs.YtegjebiocgbmpaaDoor.P
