-- Walks of this claim's functions, laid by a program of this session.
import Derived.Test.YtegjebiocgbmpaaDoorPx0
import Derived.Test.YtegjebiocgbmpaaDoorPx1
namespace Go.Proofs.YtegjebiocgbmpaaDoor.P
open Go.RowKit Go.Proofs.YtegjebiocgbmpaaDoorW.PrintWords Go.Proofs.YtegjebiocgbmpaaDoorW.PrintLast Go.Proofs.YtegjebiocgbmpaaDoorW.PrintMore
attribute [local go_sem] max2_int min2_int max_two min_two max_three min_three max_four min_four   -- for this text's walks alone
set_option linter.unusedVariables false
set_option linter.unusedSimpArgs false

/-! ### strings_Cut: function 25 -/
def strings_Cut.f (a0 a1 : ByteArray) : Option (ByteArray × ByteArray × Bool) := if a0.size < 4294967281 then some (⟨(Lib.cut a0.data.toList a1.data.toList).1.toArray⟩, ⟨(Lib.cut a0.data.toList a1.data.toList).2.1.toArray⟩, (Lib.cut a0.data.toList a1.data.toList).2.2) else none
theorem strings_Cut.calls (a0 a1 : ByteArray) (r1 r2 : ByteArray) (r3 : Bool) (w : World) (hT_ : Tab2 w) (h : strings_Cut.f a0 a1 = some (r1, r2, r3)) :
    Calls Tryd.prog 25 #[.string a0, .string a1] w fun e w' => e = .returned (.tuple #[.string r1, .string r2, .bool r3]) ∧ Below w.heap.size w w' := by
  unfold strings_Cut.f at h
  split at h
  · rename_i hb
    simp only [Option.some.injEq, Prod.mk.injEq] at h
    obtain ⟨rfl, rfl, rfl⟩ := h
    obtain ⟨m, hm⟩ := hT_.ml
    refine (Tryd.strings_Cut a0 a1 m w hb hm).mono fun e w' ⟨he, n, hw⟩ => ⟨he, ?_⟩
    rw [hw]
    exact pw_below_drewN (Below.refl _ _) _
  · cases h

/-! ### strings_TrimPrefix: function 26 -/
def strings_TrimPrefix.f (a0 a1 : ByteArray) : Option ByteArray := some ⟨(Lib.trimPrefix a0.data.toList a1.data.toList).toArray⟩
theorem strings_TrimPrefix.calls (a0 a1 : ByteArray) (r : ByteArray) (w : World) (h : strings_TrimPrefix.f a0 a1 = some r) :
    Calls Tryd.prog 26 #[.string a0, .string a1] w fun e w' => e = .returned (.string r) ∧ Below w.heap.size w w' := by
  obtain rfl := Option.some.inj h
  refine (Tryd.strings_TrimPrefix a0 a1 w).mono fun e w' ⟨he, hw⟩ => ⟨he, ?_⟩
  rw [hw]
  exact Below.refl _ _

/-! ### impl_readIn: function 38 -/
def impl_readIn.f (a0 : ByteArray) (a1 a2 : Int) : Option (Int × Bool) := if a0.size ≤ 281474976710656 then some (match Lib.parseIntB 64 a0.data.toList with
  | .ok v => if (⟨(Lib.itoa v).toArray⟩ : ByteArray).toList = a0.toList ∧ a1 ≤ v ∧ v ≤ a2 then (v, true) else (0, false)
  | _ => (0, false)) else none
set_option maxHeartbeats 1000000 in
theorem impl_readIn.calls (a0 : ByteArray) (a1 a2 : Int) (r1 : Int) (r2 : Bool) (w : World) (hT_ : Tab2 w) (h : impl_readIn.f a0 a1 a2 = some (r1, r2)) :
    Calls Tryd.prog 38 #[.string a0, .int .i64 a1, .int .i64 a2] w fun e w' => e = .returned (.tuple #[.int .i64 r1, .bool r2]) ∧ Below w.heap.size w w' := by
  unfold impl_readIn.f at h
  by_cases hb : a0.size ≤ 281474976710656
  · rw [if_pos hb] at h
    replace h := Option.some.inj h
    obtain ⟨ht1, ⟨tp, p, hsy⟩, ⟨tq, q, hra⟩, _⟩ := id hT_
    cases hp : Lib.parseIntB 64 a0.data.toList with
    | ok v =>
      rw [hp] at h
      dsimp only at h
      have hv := Lib.parseIntB_bounds (B := 64) hp
      rw [show ((2 ^ (64 - 1) : Nat) : Int) = 9223372036854775808 from rfl] at hv
      obtain ⟨d, hd⟩ : ∃ d : ByteArray, d = ⟨(Lib.itoa v).toArray⟩ := ⟨_, rfl⟩
      rw [← hd] at h
      have HC := Aside0.mk (Tryd.strconv_ParseInt_10_at64_ok a0 (by omega) v hp w)
      have HD := Aside0.mk (fun W (hw : Tab1 W) => impl_Decimal.calls v d W hw (by unfold impl_Decimal.f; rw [if_pos (by omega), hd]))
      have HT := Aside0.mk ht1
      clear hp hb hT_ ht1 hsy hra hv hd
      have hpost : ∀ W : World, Below w.heap.size w W → Calls Tryd.prog 20 #[.int .i64 v] W fun e w' => e = .returned (.string d) ∧ Below w.heap.size w w' := fun W hW => (HD.out W (HT.out.on hW)).mono fun e w' ⟨he, hb⟩ => ⟨he, below_step hW hb⟩
      have HP := Aside0.mk hpost
      clear hpost
      by_cases c1 : d.toList = a0.toList
      · by_cases c2 : a1 ≤ v
        · have c2b : decide (a1 ≤ v) = true := decide_eq_true c2
          by_cases c3 : v ≤ a2
          · have c3b : decide (v ≤ a2) = true := decide_eq_true c3
            rw [if_pos ⟨c1, c2, c3⟩] at h
            simp only [Prod.mk.injEq] at h
            obtain ⟨rfl, rfl⟩ := h
            go_enter Tryd.func38, Tryd.ntmps38
            go_wp2_with (first | (go_at_call 45; (refine HC.out.mono ?_); rintro e w1 ⟨rfl, hw1⟩; have HB := Aside0.mk (show Below w.heap.size w w1 from by rcases hw1 with rfl | ⟨t, rfl⟩ <;> first | exact Below.refl _ _ | exact Lib.bytesWorld_below _ _ _); clear hw1) | (go_at_call 20; (refine (HP.out _ HB.out).mono ?_); rintro e w2 ⟨rfl, hb⟩; have HB2 := Aside0.mk hb; clear hb) | go_in)
            go_ret2
            exact ⟨by first | rfl | (simp [*]; done), HB2.out⟩
          · have c3b : decide (v ≤ a2) = false := decide_eq_false c3
            rw [if_neg (fun z => c3 z.2.2)] at h
            simp only [Prod.mk.injEq] at h
            obtain ⟨rfl, rfl⟩ := h
            go_enter Tryd.func38, Tryd.ntmps38
            go_wp2_with (first | (go_at_call 45; (refine HC.out.mono ?_); rintro e w1 ⟨rfl, hw1⟩; have HB := Aside0.mk (show Below w.heap.size w w1 from by rcases hw1 with rfl | ⟨t, rfl⟩ <;> first | exact Below.refl _ _ | exact Lib.bytesWorld_below _ _ _); clear hw1) | (go_at_call 20; (refine (HP.out _ HB.out).mono ?_); rintro e w2 ⟨rfl, hb⟩; have HB2 := Aside0.mk hb; clear hb) | go_in)
            go_ret2
            exact ⟨by first | rfl | (simp [*]; done), HB2.out⟩
        · have c2b : decide (a1 ≤ v) = false := decide_eq_false c2
          rw [if_neg (fun z => c2 z.2.1)] at h
          simp only [Prod.mk.injEq] at h
          obtain ⟨rfl, rfl⟩ := h
          go_enter Tryd.func38, Tryd.ntmps38
          go_wp2_with (first | (go_at_call 45; (refine HC.out.mono ?_); rintro e w1 ⟨rfl, hw1⟩; have HB := Aside0.mk (show Below w.heap.size w w1 from by rcases hw1 with rfl | ⟨t, rfl⟩ <;> first | exact Below.refl _ _ | exact Lib.bytesWorld_below _ _ _); clear hw1) | (go_at_call 20; (refine (HP.out _ HB.out).mono ?_); rintro e w2 ⟨rfl, hb⟩; have HB2 := Aside0.mk hb; clear hb) | go_in)
          go_ret2
          exact ⟨by first | rfl | (simp [*]; done), HB2.out⟩
      · have c1b : decide (d.toList = a0.toList) = false := decide_eq_false c1
        rw [if_neg (fun z => c1 z.1)] at h
        simp only [Prod.mk.injEq] at h
        obtain ⟨rfl, rfl⟩ := h
        go_enter Tryd.func38, Tryd.ntmps38
        go_wp2_with (first | (go_at_call 45; (refine HC.out.mono ?_); rintro e w1 ⟨rfl, hw1⟩; have HB := Aside0.mk (show Below w.heap.size w w1 from by rcases hw1 with rfl | ⟨t, rfl⟩ <;> first | exact Below.refl _ _ | exact Lib.bytesWorld_below _ _ _); clear hw1) | (go_at_call 20; (refine (HP.out _ HB.out).mono ?_); rintro e w2 ⟨rfl, hb⟩; have HB2 := Aside0.mk hb; clear hb) | go_in)
        go_ret2
        exact ⟨by first | rfl | (simp [*]; done), HB2.out⟩
    | range =>
      rw [hp] at h
      simp only [Prod.mk.injEq] at h
      obtain ⟨rfl, rfl⟩ := h
      have HC := Aside0.mk (Tryd.strconv_ParseInt_10_at64_range_var a0 hb hp tq q w hra)
      clear hp hb hT_ ht1 hsy hra
      go_enter Tryd.func38, Tryd.ntmps38
      go_wp2_with (first | (go_at_call 45; (refine HC.out.mono ?_); rintro e w1 ⟨N, rfl, hN, hcc, hw1⟩; have HB := Aside0.mk hw1; clear hw1 hN hcc) | go_in)
      go_ret2
      exact ⟨by first | rfl | (simp [*]; done), HB.out⟩
    | _ =>
      rw [hp] at h
      simp only [Prod.mk.injEq] at h
      obtain ⟨rfl, rfl⟩ := h
      have HC := Aside0.mk (Tryd.strconv_ParseInt_10_at64_syntax_var a0 hb hp tp p w hsy)
      clear hp hb hT_ ht1 hsy hra
      go_enter Tryd.func38, Tryd.ntmps38
      go_wp2_with (first | (go_at_call 45; (refine HC.out.mono ?_); rintro e w1 ⟨N, rfl, hN, hcc, hw1⟩; have HB := Aside0.mk hw1; clear hw1 hN hcc) | go_in)
      go_ret2
      exact ⟨by first | rfl | (simp [*]; done), HB.out⟩
  · rw [if_neg hb] at h
    cases h

/-! ### impl_ReadDecimal: function 27 -/
def impl_ReadDecimal.f (a0 : ByteArray) : Option (Int × Bool) := (impl_readIn.f a0 (-1000000000) 1000000000).bind fun bt202 => (some (bt202.1, bt202.2))
set_option maxHeartbeats 8000000 in
set_option maxRecDepth 100000 in
theorem impl_ReadDecimal.calls (a0 : ByteArray) (r1 : Int) (r2 : Bool) (w : World) (hT_ : Tab2 w) (h : impl_ReadDecimal.f a0 = some (r1, r2)) :
    Calls Tryd.prog 27 #[.string a0] w fun e w' => e = .returned (.tuple #[.int .i64 r1, .bool r2]) ∧ Below w.heap.size w w' := by
  have HLT_ := Aside0.mk hT_
  clear hT_
  have HB := Aside0.mk (Below.refl w.heap.size w)
  have H : ((impl_readIn.f a0 (-1000000000) 1000000000).bind fun bt202 => (some (bt202.1, bt202.2))) = some (r1, r2) := h
  clear h
  replace H := Option.bind_eq_some_iff.mp H
  obtain ⟨⟨t202, t203⟩, A20, H⟩ := H
  replace H : (some (t202, t203)) = some (r1, r2) := H
  have A2 := Aside0.mk A20
  clear A20
  simp only [Option.some.injEq, Prod.mk.injEq] at H
  obtain ⟨rfl, rfl⟩ := H
  go_enter Tryd.func27, Tryd.ntmps27
  go_wp2_with (first | ((with_reducible refine gate_callee (f := 38) rfl ?_); refine goesL_ (some 5) rfl rfl Tryd.func38 (by kernel_rfl) rfl #[.string a0, .int .i64 (-1000000000), .int .i64 1000000000] rfl (by (try simp only [List.map_toArray, List.map_cons, List.map_nil]); first | done | rfl | (simp only [List.length_drop, List.length_take]; rfl)) ?_; (with_reducible refine (impl_readIn.calls a0 (-1000000000) 1000000000 t202 t203 _ ?side1 A2.out).mono ?_); (case side1 => exact Tab2.on HLT_.out (by repeat (first | (with_reducible first | exact HB.out | apply below_alloc | apply pw_below_drewN | apply below_drew1) | exact HB.out))); rintro e w3 ⟨rfl, hb⟩; refine ⟨_, rfl, ?_⟩; have n0_ := Aside0.mk (below_step (by repeat (first | (with_reducible first | exact HB.out | apply below_alloc | apply pw_below_drewN | apply below_drew1) | exact HB.out)) hb); clear HB; have HB := n0_; clear n0_; (try clear hb); (try clear hb2); (try clear hk); (try clear hi)))
  go_ret2
  exact ⟨by first | rfl | (simp [errW_none, errW_some] <;> rfl) | (simp [*, errW_none, errW_some] <;> rfl) | (simp [Int.tdiv_eq_ediv_of_nonneg, *]; done), by repeat (first | (with_reducible first | exact HB.out | apply below_alloc | apply pw_below_drewN | apply below_drew1) | exact HB.out)⟩

end Go.Proofs.YtegjebiocgbmpaaDoor.P
