/- The text of a loss, as both sides write it. -/
import Derived.Test.YtegjebiocgbmpaaDoorLemCore
import Derived.Test.YtegjebiocgbmpaaDoorLemDec
import Derived.Test.YtegjebiocgbmpaaDoorLemImplLosses
import Derived.Test.YtegjebiocgbmpaaDoorLemLosses
import Derived.Test.YtegjebiocgbmpaaDoorPx1
import Derived.Test.YtegjebiocgbmpaaDoorPx2
namespace Go.Proofs.YtegjebiocgbmpaaDoor.P
open Go.RowKit Go.Proofs.YtegjebiocgbmpaaDoor.P Go.Proofs.YtegjebiocgbmpaaDoorW.PrintWords Go.Proofs.YtegjebiocgbmpaaDoorW.PrintLast Go.Proofs.YtegjebiocgbmpaaDoorW.PrintMore
set_option linter.unusedVariables false
set_option linter.unusedSimpArgs false
def lossT (a b c : Int) : ByteArray := (((((⟨#[64]⟩ : ByteArray) ++ dd a) ++ (⟨#[32]⟩ : ByteArray)) ++ dd b) ++ (⟨#[108, 47]⟩ : ByteArray)) ++ dd c
def i64R (n : Int) : Prop := -9223372036854775808 ≤ n ∧ n ≤ 9223372036854775807
theorem sz1 (x : UInt8) : (⟨#[x]⟩ : ByteArray).size = 1 := rfl
theorem sz2 (x y : UInt8) : (⟨#[x, y]⟩ : ByteArray).size = 2 := rfl
theorem specLossT_is (k : Nat) (a b c : Int) (ha : i64R a) (hb : i64R b) (hc : i64R c) (hk : 30 < k) : spec_l07Text.f k a b c = some (lossT a b c) := by
  have h1 := dd_size a ha
  have h2 := dd_size b hb
  have h3 := dd_size c hc
  unfold spec_l07Text.f
  rw [specDec_is k a ha hk, bind_some_, if_pos (by omega), if_pos (by simp only [ByteArray.size_append, sz1]; omega), specDec_is k b hb hk, bind_some_, if_pos (by simp only [ByteArray.size_append, sz1]; omega), if_pos (by simp only [ByteArray.size_append, sz1]; omega), specDec_is k c hc hk, bind_some_, if_pos (by simp only [ByteArray.size_append, sz1, sz2]; omega)]
  rfl
theorem implLossT_is (k : Nat) (a b c : Int) (ha : i64R a) (hb : i64R b) (hc : i64R c) (hk : 10 < k) : impl_LossText.f k a b c = some (if lsValid [⟨a, b, c⟩] = true then (lossT a b c, true) else (⟨#[]⟩, false)) := by
  have h1 := dd_size a ha
  have h2 := dd_size b hb
  have h3 := dd_size c hc
  unfold impl_LossText.f
  rw [implLosses_is k _ (by simp) (by simp; omega), bind_some_]
  by_cases hv : lsValid [⟨a, b, c⟩] = true
  · rw [if_pos hv, if_pos hv, implDec_is a ha, bind_some_, if_pos (by omega), if_pos (by simp only [ByteArray.size_append, sz1]; omega), implDec_is b hb, bind_some_, if_pos (by simp only [ByteArray.size_append, sz1]; omega), if_pos (by simp only [ByteArray.size_append, sz1]; omega), implDec_is c hc, bind_some_, if_pos (by simp only [ByteArray.size_append, sz1, sz2]; omega)]
    rfl
  · rw [if_neg hv, if_neg hv]

end Go.Proofs.YtegjebiocgbmpaaDoor.P
