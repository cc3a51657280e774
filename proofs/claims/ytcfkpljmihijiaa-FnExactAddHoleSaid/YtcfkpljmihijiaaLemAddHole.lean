/- A hole laid into a ground at its place, plainly; the program's and the reference's are this. -/
import Derived.Test.YtcfkpljmihijiaaLemCore
import Derived.Test.YtcfkpljmihijiaaLemGround
import Derived.Test.YtcfkpljmihijiaaLemImplGround
import Derived.Test.YtcfkpljmihijiaaLemSpecGround
import Derived.Test.YtcfkpljmihijiaaLemToHole
import Derived.Test.YtcfkpljmihijiaaPx0
import Derived.Test.YtcfkpljmihijiaaPx2
import Derived.Test.YtcfkpljmihijiaaPx3
import Derived.Test.YtcfkpljmihijiaaPx4
import Derived.Test.YtcfkpljmihijiaaPx7
import Derived.Test.YtcfkpljmihijiaaPx8
namespace Go.Proofs.Ytcfkpljmihijiaa.P
open Go.RowKit Go.Proofs.Ytcfkpljmihijiaa.P Go.Proofs.YtcfkpljmihijiaaW.PrintWords Go.Proofs.YtcfkpljmihijiaaW.PrintLast Go.Proofs.YtcfkpljmihijiaaW.PrintMore
set_option linter.unusedVariables false
set_option linter.unusedSimpArgs false
def insFrom (a : Int) (t : List Int) : List S36 → List S36
  | [] => [(⟨a, t⟩ : S36)]
  | h :: l => if a ≤ h.f0 then (⟨a, t⟩ : S36) :: h :: l else h :: insFrom a t l
theorem holeAt_cons (a : Int) (h : S36) (l : List S36) (i : Int) : holeAt a (h :: l) i = if h.f0 ≥ a then i else holeAt a l (i + 1) := rfl
theorem holeAt_succ (a : Int) : ∀ (l : List S36) (i : Int), 0 ≤ i → holeAt a l (i + 1) = if holeAt a l i < 0 then -1 else holeAt a l i + 1
  | [], i, _ => rfl
  | h :: l, i, hi => by
    rw [holeAt_cons a h l (i + 1), holeAt_cons a h l i]
    by_cases c : h.f0 ≥ a
    · rw [if_pos c, if_pos c, if_neg (by omega)]
    · rw [if_neg c, if_neg c]
      exact holeAt_succ a l (i + 1) (by omega)
theorem insAt_cons (a : Int) (h : S36) (l : List S36) : insAt a (h :: l) = if h.f0 ≥ a then 0 else insAt a l + 1 := by
  unfold insAt
  rw [holeAt_cons a h l 0]
  by_cases c : h.f0 ≥ a
  · rw [if_pos c, if_pos c, if_neg (by omega)]
    rfl
  · rw [if_neg c, if_neg c, holeAt_succ a l 0 (by omega)]
    have hr := holeAt_in a l 0 (by omega)
    by_cases d : holeAt a l 0 < 0
    · rw [if_pos d, if_pos (by omega), if_pos d]
      rfl
    · rw [if_neg d, if_neg (by omega), if_neg d]
      omega
theorem insHole_is (a : Int) (t : List Int) : ∀ l : List S36, insHole a t l = insFrom a t l
  | [] => rfl
  | h :: l => by
    have ih := insHole_is a t l
    unfold insHole at ih ⊢
    rw [insAt_cons]
    simp only [insFrom]
    by_cases c : h.f0 ≥ a
    · rw [if_pos c, if_pos c]
      rfl
    · rw [if_neg c, if_neg c, List.take_succ_cons, List.drop_succ_cons, List.cons_append, ih]
theorem insFrom_len (a : Int) (t : List Int) : ∀ l : List S36, (insFrom a t l).length = l.length + 1
  | [] => rfl
  | h :: l => by
    simp only [insFrom]
    by_cases c : a ≤ h.f0
    · rw [if_pos c]
      rfl
    · rw [if_neg c, List.length_cons, insFrom_len a t l, List.length_cons]
theorem insFrom_mem (a : Int) (t : List Int) (s : S36) : ∀ l : List S36, s ∈ insFrom a t l → s = ⟨a, t⟩ ∨ s ∈ l
  | [], h => by simpa [insFrom] using h
  | x :: l, h => by
    simp only [insFrom] at h
    by_cases c : a ≤ x.f0
    · rw [if_pos c] at h
      rcases List.mem_cons.mp h with e | e
      · exact Or.inl e
      · exact Or.inr e
    · rw [if_neg c] at h
      rcases List.mem_cons.mp h with e | e
      · exact Or.inr (by rw [e]; exact List.mem_cons_self)
      · rcases insFrom_mem a t s l e with e2 | e2
        · exact Or.inl e2
        · exact Or.inr (List.mem_cons_of_mem _ e2)
theorem insFrom_short (a : Int) (t : List Int) (hs : List S36) (hp : shortH hs) (h6 : hs.length ≤ 6) (ht : t.length ≤ 1048576) : shortH (insFrom a t hs) := by
  refine ⟨by rw [insFrom_len]; omega, fun s h => ?_⟩
  rcases insFrom_mem a t s hs h with e | e
  · rw [e]; exact ht
  · exact hp.2 s e
def finH (ds : List Int) (L : List S36) : List Int × List S36 × Bool := if grOk ds L = true then (ds, L, true) else ([], [], false)
def addP (ds : List Int) (hs : List S36) (a : Int) (t : List Int) : List Int × List S36 × Bool := if grOk ds hs = true then finH ds (insFrom a t hs) else ([], [], false)
theorem addP_short (ds : List Int) (hs : List S36) (a : Int) (t : List Int) (hd : ds.length ≤ 1048576) (hp : shortH hs) (ht : t.length ≤ 1048576) : (addP ds hs a t).1.length ≤ 1048576 ∧ shortH (addP ds hs a t).2.1 := by
  have z : shortH ([] : List S36) := ⟨Nat.zero_le _, fun s h => by simp at h⟩
  unfold addP
  by_cases c : grOk ds hs = true
  · rw [if_pos c]
    unfold finH
    by_cases d : grOk ds (insFrom a t hs) = true
    · rw [if_pos d]
      exact ⟨hd, insFrom_short a t hs hp (grOk_in c).2.1.2 ht⟩
    · rw [if_neg d]
      exact ⟨Nat.zero_le _, z⟩
  · rw [if_neg c]
    exact ⟨Nat.zero_le _, z⟩
theorem withHoles_l0 (ds : List Int) (L : List S36) (hp : shortH L) : ∀ (d k i : Nat), i + d = L.length → d < k → impl_Ground_withHoles.l0 k L L.length i ds (L.take i) = some (ds, L)
  | 0, k, i, hi, hk => by
    obtain ⟨k, rfl⟩ : ∃ m, k = m + 1 := ⟨k - 1, by omega⟩
    simp only [impl_Ground_withHoles.l0]
    rw [if_neg (by omega), List.take_of_length_le (by omega)]
  | d + 1, k, i, hi, hk => by
    obtain ⟨k, rfl⟩ : ∃ m, k = m + 1 := ⟨k - 1, by omega⟩
    have hlt : i < L.length := by omega
    have hl := hp.1
    have hs := shortH_at hp i hlt
    have ih := withHoles_l0 ds L hp d k (i + 1) (by omega) (by omega)
    have ht : (L.take i).length = i := by rw [List.length_take]; omega
    simp only [impl_Ground_withHoles.l0]
    unfold slices_Clone_int64_int64.f
    rw [if_pos (by omega), if_pos (by omega), if_pos (by omega), if_pos (by omega), bind_some_, if_pos (by omega), w64s i (by omega)]
    have e : L.take i ++ [(⟨(rd_T36 L (i : Int)).f0, (rd_T36 L (i : Int)).f1⟩ : S36)] = L.take (i + 1) := by
      rw [rdHole_at L i hlt, List.take_succ_eq_append_getElem hlt]
    rw [e]
    exact ih
theorem withHoles_is (k : Nat) (ds : List Int) (hs L : List S36) (hd : ds.length ≤ 1048576) (hp : shortH L) (hk : 1048577 < k) : impl_Ground_withHoles.f k ds hs L = some (ds, L) := by
  unfold impl_Ground_withHoles.f slices_Clone_int64_int64.f
  have := hp.1
  rw [if_pos (by omega), bind_some_]
  exact withHoles_l0 ds L hp L.length k 0 (by omega) (by omega)
theorem implAddHole_is (k : Nat) (ds : List Int) (hs : List S36) (a : Int) (t : List Int) (hd : ds.length ≤ 1048576) (hp : shortH hs) (ht : t.length ≤ 1048576) (hk : 5000000 < k) : impl_AddHole.f k ds hs a t = some (addP ds hs a t) := by
  unfold impl_AddHole.f addP
  rw [implGround_is k ds hs hp (by omega), bind_some_]
  by_cases c : grOk ds hs = true
  · have h6 := (grOk_in c).2.1
    have hq := insFrom_short a t hs hp h6.2 ht
    rw [if_pos c, if_pos c, if_pos (by omega), insHole_is, withHoles_is k ds hs _ hd hq (by omega), bind_some_]
    dsimp only
    rw [implGround_is k ds _ hq (by omega), bind_some_]
    unfold finH
    split <;> rfl
  · rw [if_neg c, if_neg c]
theorem ownHole_is (a : Int) (l : List Int) (h : l.length ≤ 1048576) : spec_l06Own.f a l = some (a, l) := by
  unfold spec_l06Own.f spec_l00Own.f
  rw [bind_some_, if_pos (by rw [List.length_nil]; omega), bind_some_, List.nil_append]
theorem specAdd_end (k : Nat) (ds : List Int) (L : List S36) (hd : ds.length ≤ 1048576) (hp : shortH L) (hk : 5000000 < k) : ((spec_l06Is.f k ds L).bind fun t => (if t = true then (some (ds, L, true)) else (some (([] : List Int), ([] : List S36), false)))) = some (finH ds L) := by
  rw [specGround_is k ds L hd hp hk, bind_some_]
  unfold finH
  split <;> rfl
theorem specAdd_done (ds : List Int) (hs : List S36) (a : Int) (t : List Int) (hd : ds.length ≤ 1048576) (hp : shortH hs) (h6 : hs.length ≤ 6) : ∀ (d k i : Nat) (out : List S36), i + d = hs.length → 5000000 + 2 * d + 2 < k → out.length ≤ i + 1 → shortH (out ++ hs.drop i) → spec_AddHole.l0 k true i ds hs a t ds out = some (finH ds (out ++ hs.drop i))
  | 0, k, i, out, hi, hk, ho, hq => by
    obtain ⟨k, rfl⟩ : ∃ m, k = m + 1 := ⟨k - 1, by omega⟩
    rw [List.drop_of_length_le (by omega), List.append_nil] at hq ⊢
    simp only [spec_AddHole.l0]
    rw [if_neg (by omega), if_pos trivial]
    exact specAdd_end k ds out hd hq (by omega)
  | d + 1, k, i, out, hi, hk, ho, hq => by
    obtain ⟨k, rfl⟩ : ∃ m, k = m + 2 := ⟨k - 2, by omega⟩
    have hlt : i < hs.length := by omega
    have hs1 := shortH_at hp i hlt
    have e : hs.drop i = rd_T36 hs (i : Int) :: hs.drop (i + 1) := by rw [rdHole_at hs i hlt, List.drop_eq_getElem_cons hlt]
    have e2 : out ++ hs.drop i = (out ++ [rd_T36 hs (i : Int)]) ++ hs.drop (i + 1) := by rw [e]; simp
    have ih := specAdd_done ds hs a t hd hp h6 d k (i + 1) (out ++ [rd_T36 hs (i : Int)]) (by omega) (by omega) (by rw [List.length_append, List.length_singleton]; omega) (by rw [← e2]; exact hq)
    rw [e2]
    simp only [spec_AddHole.l0, spec_AddHole.j1]
    rw [if_pos (by omega), if_pos trivial, if_neg (by decide), if_pos (by omega), if_pos (by omega), ownHole_is _ _ hs1, bind_some_, if_pos (by omega), w64s i (by omega)]
    exact ih
theorem specAdd_loop (ds : List Int) (hs : List S36) (a : Int) (t : List Int) (hd : ds.length ≤ 1048576) (hp : shortH hs) (h6 : hs.length ≤ 6) (ht : t.length ≤ 1048576) : ∀ (d k i : Nat), i + d = hs.length → 5000000 + 2 * d + 4 < k → shortH (hs.take i ++ insFrom a t (hs.drop i)) → spec_AddHole.l0 k false i ds hs a t ds (hs.take i) = some (finH ds (hs.take i ++ insFrom a t (hs.drop i)))
  | 0, k, i, hi, hk, hq => by
    obtain ⟨k, rfl⟩ : ∃ m, k = m + 1 := ⟨k - 1, by omega⟩
    have htl : (hs.take i).length = i := by rw [List.length_take]; omega
    rw [List.drop_of_length_le (by omega)] at hq ⊢
    simp only [spec_AddHole.l0]
    rw [if_neg (by omega), if_neg (by decide), ownHole_is a t ht, bind_some_, if_pos (by omega), bind_some_]
    exact specAdd_end k ds _ hd hq (by omega)
  | d + 1, k, i, hi, hk, hq => by
    obtain ⟨k, rfl⟩ : ∃ m, k = m + 2 := ⟨k - 2, by omega⟩
    have hlt : i < hs.length := by omega
    have htl : (hs.take i).length = i := by rw [List.length_take]; omega
    have hs1 := shortH_at hp i hlt
    have e : hs.drop i = rd_T36 hs (i : Int) :: hs.drop (i + 1) := by rw [rdHole_at hs i hlt, List.drop_eq_getElem_cons hlt]
    have e3 : hs.take i ++ [(⟨(rd_T36 hs (i : Int)).f0, (rd_T36 hs (i : Int)).f1⟩ : S36)] = hs.take (i + 1) := by rw [rdHole_at hs i hlt, List.take_succ_eq_append_getElem hlt]
    rw [e] at hq ⊢
    simp only [insFrom] at hq ⊢
    simp only [spec_AddHole.l0, spec_AddHole.j1]
    rw [if_pos (by omega), if_neg (by decide), if_pos (by omega)]
    by_cases c : a ≤ (rd_T36 hs (i : Int)).f0
    · rw [if_pos c] at hq ⊢
      have e2 : hs.take i ++ (⟨a, t⟩ : S36) :: rd_T36 hs (i : Int) :: hs.drop (i + 1) = (hs.take i ++ [(⟨a, t⟩ : S36)] ++ [rd_T36 hs (i : Int)]) ++ hs.drop (i + 1) := by simp
      rw [e2] at hq ⊢
      have hd1 := specAdd_done ds hs a t hd hp h6 d k (i + 1) (hs.take i ++ [(⟨a, t⟩ : S36)] ++ [rd_T36 hs (i : Int)]) (by omega) (by omega) (by rw [List.length_append, List.length_append, List.length_singleton, List.length_singleton]; omega) hq
      rw [decide_eq_true c, if_pos rfl, ownHole_is a t ht, bind_some_, if_pos (by omega), bind_some_, if_pos (by omega), if_pos (by omega), ownHole_is _ _ hs1, bind_some_, if_pos (by rw [List.length_append, List.length_singleton]; omega), w64s i (by omega)]
      exact hd1
    · rw [if_neg c] at hq ⊢
      have e2 : hs.take i ++ rd_T36 hs (i : Int) :: insFrom a t (hs.drop (i + 1)) = hs.take (i + 1) ++ insFrom a t (hs.drop (i + 1)) := by
        rw [← e3]
        simp
      rw [e2] at hq ⊢
      have ih := specAdd_loop ds hs a t hd hp h6 ht d k (i + 1) (by omega) (by omega) hq
      rw [decide_eq_false c, if_neg (by decide), if_pos (by omega), if_pos (by omega), ownHole_is _ _ hs1, bind_some_, if_pos (by omega), e3, w64s i (by omega)]
      exact ih
theorem specAddHole_is (k : Nat) (ds : List Int) (hs : List S36) (a : Int) (t : List Int) (hd : ds.length ≤ 1048576) (hp : shortH hs) (ht : t.length ≤ 1048576) (hk : 6000000 < k) : spec_AddHole.f k ds hs a t = some (addP ds hs a t) := by
  unfold spec_AddHole.f addP
  rw [specGround_is k ds hs hd hp (by omega), bind_some_]
  by_cases c : grOk ds hs = true
  · have h6 := (grOk_in c).2.1
    have hq := insFrom_short a t hs hp h6.2 ht
    rw [if_pos c, if_pos c]
    unfold spec_l00Own.f
    rw [bind_some_, if_pos (by rw [List.length_nil]; omega), bind_some_, List.nil_append]
    exact specAdd_loop ds hs a t hd hp h6.2 ht hs.length k 0 (by omega) (by omega) (by simpa using hq)
  · rw [if_neg c, if_neg c]

end Go.Proofs.Ytcfkpljmihijiaa.P

