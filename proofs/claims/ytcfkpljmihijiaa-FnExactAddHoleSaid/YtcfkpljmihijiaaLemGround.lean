/- What is asked of a ground, and the tops of its classes, plainly. -/
import Derived.Test.YtcfkpljmihijiaaLemCore
import Derived.Test.YtcfkpljmihijiaaLemUpTo
import Derived.Test.YtcfkpljmihijiaaPx0
import Derived.Test.YtcfkpljmihijiaaPx5
namespace Go.Proofs.Ytcfkpljmihijiaa.P
open Go.RowKit Go.Proofs.Ytcfkpljmihijiaa.P Go.Proofs.YtcfkpljmihijiaaW.PrintWords Go.Proofs.YtcfkpljmihijiaaW.PrintLast Go.Proofs.YtcfkpljmihijiaaW.PrintMore
set_option linter.unusedVariables false
set_option linter.unusedSimpArgs false
def dnOk (l : List Int) (i : Nat) : Bool := decide (i = 0) || decide (rd l (i : Int) ≤ rd l ((i - 1 : Nat) : Int))
def topsOk (n : Int) (l : List Int) : Bool := decide ((l.length : Int) = n) && (impl_areWithin.all (-100000) 100000 l && upTo (dnOk l) l.length 0)
def holeOk (n : Int) (hs : List S36) (i : Nat) : Bool := decide (0 ≤ (rd_T36 hs (i : Int)).f0 ∧ (rd_T36 hs (i : Int)).f0 ≤ 60) && (topsOk n (rd_T36 hs (i : Int)).f1 && (decide (i = 0) || decide ((rd_T36 hs ((i - 1 : Nat) : Int)).f0 < (rd_T36 hs (i : Int)).f0)))
def grOk (ds : List Int) (hs : List S36) : Bool := decide (1 ≤ (ds.length : Int) ∧ (ds.length : Int) ≤ 4) && (impl_areWithin.all 1 3000 ds && (decide (1 ≤ (hs.length : Int) ∧ (hs.length : Int) ≤ 6) && upTo (holeOk ds.length hs) hs.length 0))
theorem upTo_and (p q : Nat → Bool) : ∀ d i : Nat, upTo (fun j => p j && q j) d i = (upTo p d i && upTo q d i)
  | 0, _ => rfl
  | d + 1, i => by
    simp only [upTo, upTo_and p q d (i + 1)]
    cases p i <;> cases q i <;> cases upTo p d (i + 1) <;> cases upTo q d (i + 1) <;> rfl
theorem all_upTo (lo hi : Int) (l : List Int) : impl_areWithin.all lo hi l = upTo (fun i => decide (lo ≤ rd l (i : Int) ∧ rd l (i : Int) ≤ hi)) l.length 0 := by
  rw [Bool.eq_iff_iff, upTo_iff]
  unfold impl_areWithin.all
  rw [List.all_eq_true]
  constructor
  · intro h j _ hj
    have hj2 : j < l.length := by omega
    have := h _ (List.getElem_mem hj2)
    rw [rd_at l j hj2]
    exact this
  · intro h x hx
    obtain ⟨j, hj, rfl⟩ := List.getElem_of_mem hx
    have := h j (by omega) (by omega)
    rw [rd_at l j hj] at this
    exact this
theorem grOk_in {ds : List Int} {hs : List S36} (h : grOk ds hs = true) : (1 ≤ ds.length ∧ ds.length ≤ 4) ∧ (1 ≤ hs.length ∧ hs.length ≤ 6) ∧ (∀ i : Nat, i < ds.length → 1 ≤ rd ds (i : Int) ∧ rd ds (i : Int) ≤ 3000) ∧ ∀ i : Nat, i < hs.length → holeOk ds.length hs i = true := by
  unfold grOk at h
  rw [all_upTo] at h
  simp only [Bool.and_eq_true, decide_eq_true_eq] at h
  obtain ⟨h1, h2, h3, h4⟩ := h
  refine ⟨by omega, by omega, ?_, ?_⟩
  · intro i hi
    have := (upTo_iff _ _ _).mp h2 i (by omega) (by omega)
    simpa using this
  · intro i hi
    exact (upTo_iff _ _ _).mp h4 i (by omega) (by omega)
end Go.Proofs.Ytcfkpljmihijiaa.P

