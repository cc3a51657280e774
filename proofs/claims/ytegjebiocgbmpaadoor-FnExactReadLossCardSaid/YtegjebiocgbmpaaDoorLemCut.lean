/- A text cut at the first place of another one. -/
import Derived.Test.YtegjebiocgbmpaaDoorLemDec
import Derived.Test.YtegjebiocgbmpaaDoorPx0
namespace Go.Proofs.YtegjebiocgbmpaaDoor.P
open Go.RowKit Go.Proofs.YtegjebiocgbmpaaDoor.P Go.Proofs.YtegjebiocgbmpaaDoorW.PrintWords Go.Proofs.YtegjebiocgbmpaaDoorW.PrintLast Go.Proofs.YtegjebiocgbmpaaDoorW.PrintMore
set_option linter.unusedVariables false
set_option linter.unusedSimpArgs false
theorem idx_app (c : UInt8) (t r : List UInt8) : ∀ p : List UInt8, c ∉ p → Lib.index (p ++ ((c :: t) ++ r)) (c :: t) = (p.length : Int)
  | [], _ => by
    have h : (c :: t).isPrefixOf ((c :: t) ++ r) = true := List.isPrefixOf_iff_prefix.mpr (List.prefix_append _ _)
    rw [List.cons_append] at h
    rw [List.nil_append]
    show Lib.index (c :: (t ++ r)) (c :: t) = 0
    unfold Lib.index
    rw [if_pos h]
  | b :: p, hc => by
    have hb : ¬ c = b := fun e => hc (by simp [e])
    have h : (c :: t).isPrefixOf (b :: (p ++ ((c :: t) ++ r))) = false := by
      simp only [List.isPrefixOf]
      rw [beq_eq_false_iff_ne.mpr hb, Bool.false_and]
    have ih := idx_app c t r p (fun e => hc (by simp [e]))
    rw [List.cons_append]
    unfold Lib.index
    rw [h, ih, if_neg (by simp), if_neg (by simp), List.length_cons]
    omega
theorem cut_app (c : UInt8) (t r p : List UInt8) (h : c ∉ p) : Lib.cut (p ++ ((c :: t) ++ r)) (c :: t) = (p, r, true) := by
  unfold Lib.cut
  rw [idx_app c t r p h, if_pos (by omega), Int.toNat_natCast, List.take_left', List.drop_append, List.drop_of_length_le (by omega)]
  · congr 1
    rw [List.nil_append, show p.length + (c :: t).length - p.length = (c :: t).length by omega, List.drop_left]
  · rfl
theorem cut_len (s p : List UInt8) : (Lib.cut s p).1.length ≤ s.length ∧ (Lib.cut s p).2.1.length ≤ s.length := by
  unfold Lib.cut
  split
  · simp only [List.length_take, List.length_drop]
    omega
  · simp
theorem trim_len (s p : List UInt8) : (Lib.trimPrefix s p).length ≤ s.length := by
  unfold Lib.trimPrefix
  split
  · simp
  · exact Nat.le_refl _
theorem trim_hit (c : UInt8) (r : List UInt8) : Lib.trimPrefix (c :: r) [c] = r := by
  unfold Lib.trimPrefix Lib.hasPrefix
  rw [if_pos (by simp [List.isPrefixOf])]
  rfl
theorem ext_tx (s : List UInt8) (f i : Nat) : (tx s).extract f i = tx ((s.drop f).take (i - f)) := by
  apply ByteArray.ext
  rw [ByteArray.data_extract]
  simp [tx]

end Go.Proofs.YtegjebiocgbmpaaDoor.P
