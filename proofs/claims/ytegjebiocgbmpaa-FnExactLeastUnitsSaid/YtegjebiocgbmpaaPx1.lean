-- Walks of this claim's functions, laid by a program of this session.
import Derived.Test.YtegjebiocgbmpaaPx0
namespace Go.Proofs.Ytegjebiocgbmpaa.P
open Go.RowKit Go.Proofs.YtegjebiocgbmpaaW.PrintWords Go.Proofs.YtegjebiocgbmpaaW.PrintLast Go.Proofs.YtegjebiocgbmpaaW.PrintMore
attribute [local go_sem] max2_int min2_int max_two min_two max_three min_three max_four min_four   -- for this text's walks alone
set_option linter.unusedVariables false
set_option linter.unusedSimpArgs false

/-! ### impl_within: function 28 -/
def impl_within.f (a0 : Int) (a1 : Int) (a2 : Int) : Option (Bool) := if a1 ≤ a0 then (some (decide (a0 ≤ a2))) else (some false)
set_option maxHeartbeats 8000000 in
set_option maxRecDepth 100000 in
theorem impl_within.calls (a0 : Int) (a1 : Int) (a2 : Int) (r : Bool) (w : World) (h : impl_within.f a0 a1 a2 = some r) :
    Calls Try.prog 28 #[.int .i64 a0, .int .i64 a1, .int .i64 a2] w fun e w' => e = .returned (.bool r) ∧ Drawn0 w w' := by
  have H : (if a1 ≤ a0 then (some (decide (a0 ≤ a2))) else (some false)) = some r := h
  clear h
  by_cases c4 : a1 ≤ a0
  · rw [if_pos c4] at H
    have c4b0 : decide (a1 ≤ a0) = true := decide_eq_true c4
    clear c4
    obtain rfl := Option.some.inj H
    go_enter Try.func28, Try.ntmps28
    go_wp2
    go_ret
    exact ⟨by first | rfl | (simp; done) | (simp [*]; done) | (simp [Int.tdiv_eq_ediv_of_nonneg, *]; done), by repeat (first | exact Drawn0.refl _ | apply Drawn0.step)⟩
  · rw [if_neg c4] at H
    have c4b0 : decide (a1 ≤ a0) = false := decide_eq_false c4
    clear c4
    obtain rfl := Option.some.inj H
    go_enter Try.func28, Try.ntmps28
    go_wp2
    go_ret
    exact ⟨by first | rfl | (simp; done) | (simp [*]; done) | (simp [Int.tdiv_eq_ediv_of_nonneg, *]; done), by repeat (first | exact Drawn0.refl _ | apply Drawn0.step)⟩

/-! ### impl_areWithin: function 29 -/
def impl_areWithin.all (lo hi : Int) (l : List Int) : Bool := l.all fun n => decide (lo ≤ n ∧ n ≤ hi)
def impl_areWithin.f (l0 : List Int) (a1 : Int) (a2 : Int) : Option (Bool) := some (impl_areWithin.all a1 a2 l0)
theorem impl_areWithin.within_is (a b c : Int) : impl_within.f a b c = some (decide (b ≤ a ∧ a ≤ c)) := by
  unfold impl_within.f
  by_cases h : b ≤ a <;> simp [h]
theorem impl_areWithin.clo (b1 b2 : Nat) (n lo hi : Int) (w : World) (h1 : w.cell? ⟨b1, 0, none⟩ = some (.int .i64 lo)) (h2 : w.cell? ⟨b2, 0, none⟩ = some (.int .i64 hi)) :
    Calls Try.prog 33 #[.int .i64 n, .pointer (some ⟨b1, 0, none⟩), .pointer (some ⟨b2, 0, none⟩)] w fun e w' => e = .returned (.bool (!decide (lo ≤ n ∧ n ≤ hi))) ∧ Drawn0 w w' := by
  obtain ⟨t, ht⟩ : ∃ t, impl_within.f n lo hi = some t := ⟨_, impl_areWithin.within_is n lo hi⟩
  have e : decide (lo ≤ n ∧ n ≤ hi) = t := by rw [impl_areWithin.within_is] at ht; exact Option.some.inj ht
  rw [e]
  clear e
  have HT := Aside0.mk ht
  clear ht
  go_enter Try.func33, Try.ntmps33
  go_wp2_with (first | (go_at_call 28; (with_reducible refine (impl_within.calls n lo hi t _ HT.out).mono ?_); rintro e w' ⟨rfl, ⟨nd, rfl⟩⟩))
  go_ret
  exact ⟨by first | rfl | (simp; done) | (simp [*]; done) | (simp [Int.tdiv_eq_ediv_of_nonneg, *]; done), by repeat (first | exact Drawn0.refl _ | apply Drawn0.step)⟩
set_option maxHeartbeats 1000000 in
set_option maxRecDepth 100000 in
theorem impl_areWithin.ix (A0 : Option Addr) (c0 : Nat) (l0 : List Int) (b1 b2 : Nat) (lo hi : Int) (w : World) (hr0 : Kd.C (Kd.int .i64) w A0 l0.length l0) (hc0 : l0.length ≤ c0)
    (h1 : w.cell? ⟨b1, 0, none⟩ = some (.int .i64 lo)) (h2 : w.cell? ⟨b2, 0, none⟩ = some (.int .i64 hi)) :
    Calls Try.prog 34 #[.slice A0 l0.length c0, .func (.func 33) #[] #[.pointer (some ⟨b1, 0, none⟩), .pointer (some ⟨b2, 0, none⟩)]] w fun e w' => ∃ v : Int, e = .returned (.int .i64 v) ∧ Aside0 (decide (0 ≤ v) = !impl_areWithin.all lo hi l0) ∧ Drawn0 w w' := by
  have HR0 := Aside0.mk hr0
  have HC0 := Aside0.mk hc0
  clear hr0 hc0
  have hlen : l0.length ≤ 9223372036854775807 := HR0.out.2.1
  go_enter Try.func34, Try.ntmps34
  go_wp2
  go_loopg [8] l0.length (fun kq v8 w' => ∃ x : Int, v8 = .int .i64 x ∧ Aside0 (0 ≤ x ∧ x ≤ l0.length) ∧ Aside0 (impl_areWithin.all lo hi (l0.take x.toNat) = true) ∧ Aside0 (x.toNat + kq = l0.length) ∧ Drawn0 w w')
  case atStart => exact ⟨0, (by first | rfl | (simp; done)), ⟨by omega⟩, ⟨by simp [impl_areWithin.all]⟩, ⟨by simp⟩, Drawn0.refl _⟩
  case round =>
    obtain ⟨x, rfl, HX, HA, HK, ⟨m1, rfl⟩⟩ := hrel
    by_cases c1 : x < (l0.length : Int)
    · have c1b0 : decide (x < (l0.length : Int)) = true := decide_eq_true c1
      have p1 : 0 ≤ x := HX.out.1
      have hlt : x.toNat < l0.length := by have := HX.out; omega
      obtain ⟨ad, e, hx⟩ := Kd.at_int HR0.out x p1 c1
      cases e
      have p2 : decide (0 ≤ x) = true := decide_eq_true p1
      have hq1 : (w.drewN m1).cell? ⟨b1, 0, none⟩ = some (.int .i64 lo) := h1
      have hq2 : (w.drewN m1).cell? ⟨b2, 0, none⟩ = some (.int .i64 hi) := h2
      obtain ⟨t, ht⟩ : ∃ t, (!decide (lo ≤ rd l0 x ∧ rd l0 x ≤ hi)) = t := ⟨_, rfl⟩
      have HT := Aside0.mk ht
      have HC := Aside0.mk (ht ▸ impl_areWithin.clo b1 b2 (rd l0 x) lo hi (w.drewN m1) hq1 hq2)
      have hget : l0[x.toNat]'hlt = rd l0 x := by unfold rd; rw [List.getD_eq_getElem?_getD, List.getElem?_eq_getElem hlt]; rfl
      have HG := Aside0.mk hget
      clear ht hq1 hq2 hget
      cases t with
      | true =>
        go_wp2_with (first | (go_at_call 33; (with_reducible refine HC.out.mono ?_); rintro e w' ⟨rfl, ⟨nd, rfl⟩⟩))
        go_ret
        refine ⟨x, rfl, ⟨?_⟩, by repeat (first | exact Drawn0.refl _ | apply Drawn0.step)⟩
        have hn : impl_areWithin.all lo hi l0 = false := by
          unfold impl_areWithin.all
          rw [List.all_eq_false]
          refine ⟨rd l0 x, ?_, ?_⟩
          · rw [← HG.out]
            exact List.getElem_mem hlt
          · have := HT.out
            intro h
            rw [h] at this
            exact absurd this (by decide)
        rw [hn]
        exact decide_eq_true p1
      | false =>
        have hx1 : x + 1 ≤ l0.length := by omega
        go_wp2_with (first | (go_at_call 33; (with_reducible refine HC.out.mono ?_); rintro e w' ⟨rfl, ⟨nd, rfl⟩⟩))
        cases gk with
        | zero => exact absurd HK.out (by have := HX.out; omega)
        | succ k1 =>
        go_roundg k1
        case measure => omega
        case rel =>
          refine ⟨x + 1, by first | rfl | (simp; done), ⟨by omega⟩, ⟨?_⟩, ⟨by have := HK.out; omega⟩, by repeat (first | exact Drawn0.refl _ | apply Drawn0.step)⟩
          have e1 : (x + 1).toNat = x.toNat + 1 := by omega
          rw [e1, List.take_succ_eq_append_getElem hlt, HG.out]
          have h3 := HA.out
          have h4 := HT.out
          unfold impl_areWithin.all at h3 ⊢
          rw [List.all_append, h3]
          simpa using h4
    · have hx2 : x.toNat = l0.length := by have := HX.out; omega
      have HX2 := Aside0.mk hx2
      clear hx2
      have c1b0 : decide (x < (l0.length : Int)) = false := decide_eq_false c1
      go_wp2
      go_ret
      refine ⟨-1, rfl, ⟨?_⟩, by repeat (first | exact Drawn0.refl _ | apply Drawn0.step)⟩
      have := HA.out
      rw [HX2.out, List.take_length] at this
      rw [this]
      rfl
theorem impl_areWithin.cf (A0 : Option Addr) (c0 : Nat) (l0 : List Int) (b1 b2 : Nat) (lo hi : Int) (w : World) (hr0 : Kd.C (Kd.int .i64) w A0 l0.length l0) (hc0 : l0.length ≤ c0)
    (h1 : w.cell? ⟨b1, 0, none⟩ = some (.int .i64 lo)) (h2 : w.cell? ⟨b2, 0, none⟩ = some (.int .i64 hi)) :
    Calls Try.prog 32 #[.slice A0 l0.length c0, .func (.func 33) #[] #[.pointer (some ⟨b1, 0, none⟩), .pointer (some ⟨b2, 0, none⟩)]] w fun e w' => e = .returned (.bool (!impl_areWithin.all lo hi l0)) ∧ Drawn0 w w' := by
  obtain ⟨t, ht⟩ : ∃ t, (!impl_areWithin.all lo hi l0) = t := ⟨_, rfl⟩
  have HIX := Aside0.mk (ht ▸ impl_areWithin.ix A0 c0 l0 b1 b2 lo hi w hr0 hc0 h1 h2)
  rw [ht]
  clear hr0 hc0 h1 h2 ht
  go_enter Try.func32, Try.ntmps32
  go_wp2_with (first | (go_at_call 34; (with_reducible refine HIX.out.mono ?_); rintro e w' ⟨v, rfl, HV, ⟨nd, rfl⟩⟩; have hv := HV.out))
  go_ret
  exact ⟨by first | rfl | (simp [*]; done), by repeat (first | exact Drawn0.refl _ | apply Drawn0.step)⟩
theorem impl_areWithin.calls (A0 : Option Addr) (c0 : Nat) (l0 : List Int) (a1 : Int) (a2 : Int) (r : Bool) (w : World) (hr0 : Kd.C (Kd.int .i64) w A0 l0.length l0) (hc0 : l0.length ≤ c0) (h : impl_areWithin.f l0 a1 a2 = some r) :
    Calls Try.prog 29 #[.slice A0 l0.length c0, .int .i64 a1, .int .i64 a2] w fun e w' => e = .returned (.bool r) ∧ Below w.heap.size w w' := by
  have e : impl_areWithin.all a1 a2 l0 = r := Option.some.inj h
  have hmf : ∀ (fn : Fn) (first cap : Array Value) (w : World), (Instr.makeFunc fn first cap).run Try.prog w = .ok (.func fn first cap) w := fun _ _ _ _ => rfl
  have hM : ((w.alloc (.cells #[.int .i64 a1] 2)).alloc (.cells #[.int .i64 a2] 2)).cell? ⟨w.heap.size, 0, none⟩ = some (.int .i64 a1) := by
    rw [World.cell?_alloc_past _ _ _ (by simp), World.cell?_alloc_at _ _ _ _ rfl]; rfl
  have hD : ((w.alloc (.cells #[.int .i64 a1] 2)).alloc (.cells #[.int .i64 a2] 2)).cell? ⟨w.heap.size + 1, 0, none⟩ = some (.int .i64 a2) := by
    rw [World.cell?_alloc_at _ _ _ _ (by simp)]; rfl
  have hb : Below w.heap.size w ((w.alloc (.cells #[.int .i64 a1] 2)).alloc (.cells #[.int .i64 a2] 2)) := ((Below.refl _ _).alloc (Nat.le_refl _) _).alloc (by simp) _
  have HC := Aside0.mk (e ▸ impl_areWithin.cf A0 c0 l0 w.heap.size (w.heap.size + 1) a1 a2 _ (Kd.C_below hr0 hb) hc0 hM hD)
  clear hr0 hc0 h e hM hD hb
  go_enter Try.func29, Try.ntmps29
  go_wp2_with (first | (go_at_call 32; (with_reducible refine HC.out.mono ?_); rintro e w' ⟨rfl, ⟨nd, rfl⟩⟩))
  go_ret
  exact ⟨by first | rfl | (simp [*]; done), by repeat (first | exact Below.refl _ _ | apply below_alloc | apply pw_below_drewN | apply below_drew1)⟩

/-! ### impl_areNeeds: function 19 -/
def impl_areNeeds.f (l0 : List Int) : Option (Bool) := (impl_within.f (l0.length : Int) 1 12).bind fun t128 => (if t128 = true then ((impl_areWithin.f l0 0 12).bind fun t129 => (some t129)) else (some false))
set_option maxHeartbeats 8000000 in
set_option maxRecDepth 100000 in
theorem impl_areNeeds.calls (A0 : Option Addr) (c0 : Nat) (l0 : List Int) (r : Bool) (w : World) (hr0 : Kd.C (Kd.int .i64) w A0 l0.length l0) (hc0 : l0.length ≤ c0) (h : impl_areNeeds.f l0 = some r) :
    Calls Try.prog 19 #[.slice A0 l0.length c0] w fun e w' => e = .returned (.bool r) ∧ Below w.heap.size w w' := by
  have HR0 := Aside0.mk hr0
  have HC0 := Aside0.mk hc0
  clear hr0 hc0
  have HB := Aside0.mk (Below.refl w.heap.size w)
  have H : ((impl_within.f (l0.length : Int) 1 12).bind fun t128 => (if t128 = true then ((impl_areWithin.f l0 0 12).bind fun t129 => (some t129)) else (some false))) = some r := h
  clear h
  replace H := Option.bind_eq_some_iff.mp H
  obtain ⟨t128, A20, H⟩ := H
  replace H : (if t128 = true then ((impl_areWithin.f l0 0 12).bind fun t129 => (some t129)) else (some false)) = some r := H
  have A2 := Aside0.mk A20
  clear A20
  by_cases c3 : t128 = true
  · subst c3
    have H1 : ((impl_areWithin.f l0 0 12).bind fun t129 => (some t129)) = some r := by rw [if_pos rfl] at H; exact H
    clear H
    have H := H1
    clear H1
    replace H := Option.bind_eq_some_iff.mp H
    obtain ⟨t129, A40, H⟩ := H
    replace H : (some t129) = some r := H
    have A4 := Aside0.mk A40
    clear A40
    obtain rfl := Option.some.inj H
    go_enter Try.func19, Try.ntmps19
    go_wp2_with (first | ((with_reducible refine gate_callee (f := 28) rfl ?_); refine goesL_ (some 5) rfl rfl Try.func28 (by kernel_rfl) rfl #[.int .i64 (l0.length : Int), .int .i64 1, .int .i64 12] rfl (by (try simp only [List.map_toArray, List.map_cons, List.map_nil]); first | done | rfl | (simp only [List.length_drop, List.length_take]; rfl)) ?_; (with_reducible refine (impl_within.calls (l0.length : Int) 1 12 true _ A2.out).mono ?_); rintro e w' ⟨rfl, ⟨nd, rfl⟩⟩; refine ⟨_, rfl, ?_⟩) | (go_at_call 29; (with_reducible refine (impl_areWithin.calls _ _ l0 0 12 t129 _ ?side1 ?side2 A4.out).mono ?_); (case side1 => repeat (first | exact HR0.out | (with_reducible refine Kd.C_alloc ?_ _) | (with_reducible refine Kd.C_drewN ?_ _) | (with_reducible refine Kd.C_drew ?_))); (case side2 => exact HC0.out); rintro e w5 ⟨rfl, hb⟩; have n0_ := Aside0.mk (below_step (by repeat (first | (with_reducible first | exact HB.out | apply below_alloc | apply pw_below_drewN | apply below_drew1) | exact HB.out)) hb); clear HB; have HB := n0_; clear n0_; (try clear hb); (try clear hb2); (try clear hk); (try clear hi)))
    go_ret
    exact ⟨by first | rfl | (simp [errW_none, errW_some] <;> rfl) | (simp [*, errW_none, errW_some] <;> rfl) | (simp [Int.tdiv_eq_ediv_of_nonneg, *]; done), by repeat (first | (with_reducible first | exact HB.out | apply below_alloc | apply pw_below_drewN | apply below_drew1) | exact HB.out)⟩
  · replace c3 := Bool.eq_false_iff.mpr c3
    subst c3
    have H1 : (some false) = some r := by rw [if_neg (show ¬ (false = true) by decide)] at H; exact H
    clear H
    have H := H1
    clear H1
    obtain rfl := Option.some.inj H
    go_enter Try.func19, Try.ntmps19
    go_wp2_with (first | ((with_reducible refine gate_callee (f := 28) rfl ?_); refine goesL_ (some 5) rfl rfl Try.func28 (by kernel_rfl) rfl #[.int .i64 (l0.length : Int), .int .i64 1, .int .i64 12] rfl (by (try simp only [List.map_toArray, List.map_cons, List.map_nil]); first | done | rfl | (simp only [List.length_drop, List.length_take]; rfl)) ?_; (with_reducible refine (impl_within.calls (l0.length : Int) 1 12 false _ A2.out).mono ?_); rintro e w' ⟨rfl, ⟨nd, rfl⟩⟩; refine ⟨_, rfl, ?_⟩))
    go_ret
    exact ⟨by first | rfl | (simp [errW_none, errW_some] <;> rfl) | (simp [*, errW_none, errW_some] <;> rfl) | (simp [Int.tdiv_eq_ediv_of_nonneg, *]; done), by repeat (first | (with_reducible first | exact HB.out | apply below_alloc | apply pw_below_drewN | apply below_drew1) | exact HB.out)⟩

/-! ### impl_LeastUnits: function 7 -/
theorem wz64 (x : Int) (h1 : -9223372036854775808 ≤ x) (h2 : x ≤ 9223372036854775807) : wrap64 x = x := by unfold wrap64; omega
theorem lf_law : Maps.Keyed Try.prog 54 := Maps.Keyed.of_law (deep_law_laid (by kernel_rfl) (m := 2) (by omega) (of_decide_eq_true (by kernel_rfl)) (by kernel_rfl) (by kernel_rfl))
theorem lf_zero (w : World) : (zeroValue 2).run Try.prog w = .ok (.int .i64 0) w := by kernel_rfl
theorem lf_cells : Try.prog.cellsOf 54 = 3 := by kernel_rfl
theorem lf_cells2 : Try.prog.cellsOf 2 = 1 := by kernel_rfl
theorem lf_key : Try.prog.keyType 54 = true := by kernel_rfl
theorem lf_types : ∃ m, Try.prog.types.size = m + 1 := ⟨Try.prog.types.size - 1, by
  have : 0 < Try.prog.types.size := of_decide_eq_true (by kernel_rfl)
  omega⟩
def kl3 (i a b : Int) : Lit := .string (keyBytes [.int .i64 i, .int .i64 a, .int .i64 b])
theorem kl3_key {i a b : Int} (h1 : (Lit.int .i64 i).wf = true) (h2 : (Lit.int .i64 a).wf = true) (h3 : (Lit.int .i64 b).wf = true) : keyOf Try.prog 54 (.agg #[.int .i64 i, .int .i64 a, .int .i64 b]) = some (kl3 i a b) := by
  obtain ⟨m, hm⟩ := lf_types
  have hf : (Value.agg #[.int .i64 i, .int .i64 a, .int .i64 b]).formed Try.prog 54 = true := by simp [Value.formed, Try.underlying54, lf_cells]
  unfold keyOf
  simp only [Try.underlying54, lf_key, hf, Bool.and_self, if_true]
  rw [hm]
  unfold Program.keyLits
  simp [Try.underlying54, lf_cells, lf_cells2, Value.cells, List.range_succ, Program.keyLits, Try.underlying2, h1, h2, h3, kl3]
def mayC (ns : List Int) (i : Nat) (a b c : Int) : Prop := i = 0 ∨ a + 2 * b + c ≥ rd ns ((i - 1 : Nat) : Int)
instance (ns : List Int) (i : Nat) (a b c : Int) : Decidable (mayC ns i a b c) := by unfold mayC; infer_instance
def bestC (ns : List Int) (i : Nat) (a b : Int) (R : Int → Int) : Nat → Int → Int → Int
  | 0, _, best => best
  | d + 1, c, best => bestC ns i a b R d (c + 1) (if mayC ns i a b c then min best (c + R c) else best)
def restU (ns : List Int) : Nat → Int → Int → Int
  | 0, a, b => if 0 < ns.length ∧ a + 2 * b < rd ns ((ns.length - 1 : Nat) : Int) then 1000 else 0
  | d + 1, a, b => bestC ns (ns.length - (d + 1)) a b (fun c => restU ns d b c) 7 0 1000
theorem kl3_inj {i a b i' a' b' : Int} (h1 : (Lit.int .i64 i).wf = true) (h2 : (Lit.int .i64 a).wf = true) (h3 : (Lit.int .i64 b).wf = true) (h1' : (Lit.int .i64 i').wf = true) (h2' : (Lit.int .i64 a').wf = true) (h3' : (Lit.int .i64 b').wf = true) (e : kl3 i a b = kl3 i' a' b') : i = i' ∧ a = a' ∧ b = b' := by
  have k1 := kl3_key h1 h2 h3
  have k2 := kl3_key h1' h2' h3'
  rw [← e] at k2
  have := lf_law.inj k1 k2
  simp only [Value.agg.injEq, Array.mk.injEq, List.cons.injEq, Value.int.injEq, true_and, and_true] at this
  exact ⟨this.1, this.2.1, this.2.2⟩
def memoU (ns : List Int) (D : DataW Unit) : Prop := ∀ (d i : Nat) (a b : Int), i + d = ns.length → (0 ≤ a ∧ a ≤ 6) → (0 ≤ b ∧ b ≤ 6) → Maps.has D (kl3 i a b) = true → D.atKey (kl3 i a b) (.lit (.int .i64 0)) = .lit (.int .i64 (restU ns d a b))
theorem wfS {x : Int} (h : 0 ≤ x ∧ x ≤ 1000000) : (Lit.int .i64 x).wf = true := WalkArith.wf_i64 (by omega)
theorem memo_put {ns : List Int} (hn : ns.length ≤ 12) {D : DataW Unit} (hD : Maps.IsMap D) (h : memoU ns D) (d i : Nat) (a b : Int) (hi : i + d = ns.length) (ha : 0 ≤ a ∧ a ≤ 6) (hb : 0 ≤ b ∧ b ≤ 6) : memoU ns (D.put (kl3 i a b) (.lit (.int .i64 (restU ns d a b)))) := by
  intro d' i' a' b' hi' ha' hb' hh
  by_cases e : kl3 i' a' b' = kl3 i a b
  · obtain ⟨e1, e2, e3⟩ := kl3_inj (wfS (by omega)) (wfS (by omega)) (wfS (by omega)) (wfS (by omega)) (wfS (by omega)) (wfS (by omega)) e
    have ei : i' = i := by omega
    have ed : d' = d := by omega
    subst e2 e3 ei ed
    exact Maps.atKey_put_same hD (lf_law.key (kl3_key (wfS (by omega)) (wfS (by omega)) (wfS (by omega)))) _ _
  · rw [Maps.has_put_other e] at hh
    rw [Maps.atKey_put_other e]
    exact h d' i' a' b' hi' ha' hb' hh
theorem memo_nil (ns : List Int) : memoU ns (.map []) := fun _ _ _ _ _ _ _ h => by simp [Maps.has_eq] at h
def costU : Nat → Nat
  | 0 => 0
  | d + 1 => 7 * costU d + 1
theorem rest_zero (ns : List Int) (hl : 1 ≤ ns.length ∧ ns.length ≤ 12) (A0 : Option Addr) (c0 : Nat) (B n : Nat) (D : DataW Unit) (a b : Int) (ha : 0 ≤ a ∧ a ≤ 6) (hb : 0 ≤ b ∧ b ≤ 6) (w : World)
    (hc : ∀ W', KeepBut w W' B none → Kd.C (Kd.int .i64) W' A0 ns.length ns) :
    Calls Try.prog 20 #[.agg #[.slice A0 ns.length c0, .map (some B)], .int .i64 (ns.length : Int), .int .i64 a, .int .i64 b] w fun e w' => e = .returned (.int .i64 (restU ns 0 a b)) ∧ Below w.heap.size w w' := by
  have hu41 := Try.underlying41
  have e1 : ((ns.length : Int) == (ns.length : Int)) = true := by simp
  have e2 : decide ((ns.length : Int) > 0) = true := decide_eq_true (by omega)
  have e2b : decide ((0 : Int) < (ns.length : Int)) = true := decide_eq_true (by omega)
  obtain ⟨ad, ead, hx⟩ := Kd.at_int (hc w (KeepBut.refl _ _ _)) ((ns.length : Int) - 1) (by omega) (by omega)
  cases ead
  rw [show ((ns.length : Int) - 1).toNat = ns.length - 1 by omega] at hx
  obtain ⟨v, hv⟩ : ∃ v, v = rd ns ((ns.length : Int) - 1) := ⟨_, rfl⟩
  rw [← hv] at hx
  have hv2 : v = rd ns ((ns.length - 1 : Nat) : Int) := by rw [hv, show ((ns.length : Int) - 1) = ((ns.length - 1 : Nat) : Int) by omega]
  have er : restU ns 0 a b = if a + 2 * b < v then 1000 else 0 := by
    simp only [restU]
    rw [← hv2]
    by_cases c : a + 2 * b < v
    · rw [if_pos ⟨by omega, c⟩, if_pos c]
    · rw [if_neg (fun h => c h.2), if_neg c]
  rw [er]
  clear er hv2 hv
  have p1 : (0 ≤ (ns.length : Int) - 1) = True := eq_true (by omega)
  have q1 : ((ns.length : Int) - 1 < (ns.length : Int)) = True := eq_true (by omega)
  by_cases c : a + 2 * b < v
  · rw [if_pos c]
    have e3 : decide (a + 2 * b < v) = true := decide_eq_true c
    go_enter Try.func20, Try.ntmps20
    go_wp2_with (first | ((with_reducible refine gate_dst (N := 4) rfl ?_); refine box_event ?hg (N := 4) ?hd (cs := #[.slice (some ad) ns.length c0, .map (some B)]) (t := 41) ?hr ?_; (case hd => rfl); (case hg => rfl); (case hr => first | (go_simp; done) | (go_simp; rfl)); intro ga hga w1 hbox hbl; clear hga; have hx1 := (hbl.cell (World.block_lt_of_cell? w _ hx)).trans hx; have h0 : w1.cell? ⟨ga, 0, none⟩ = some (.slice (some ad) ns.length c0) := (blk_cell hbox 0).trans rfl; have h1 : w1.cell? ⟨ga, 1, none⟩ = some (.map (some B)) := (blk_cell hbox 1).trans rfl; clear hbox))
    go_ret
    exact ⟨rfl, hbl⟩
  · rw [if_neg c]
    have e3 : decide (a + 2 * b < v) = false := decide_eq_false c
    go_enter Try.func20, Try.ntmps20
    go_wp2_with (first | ((with_reducible refine gate_dst (N := 4) rfl ?_); refine box_event ?hg (N := 4) ?hd (cs := #[.slice (some ad) ns.length c0, .map (some B)]) (t := 41) ?hr ?_; (case hd => rfl); (case hg => rfl); (case hr => first | (go_simp; done) | (go_simp; rfl)); intro ga hga w1 hbox hbl; clear hga; have hx1 := (hbl.cell (World.block_lt_of_cell? w _ hx)).trans hx; have h0 : w1.cell? ⟨ga, 0, none⟩ = some (.slice (some ad) ns.length c0) := (blk_cell hbox 0).trans rfl; have h1 : w1.cell? ⟨ga, 1, none⟩ = some (.map (some B)) := (blk_cell hbox 1).trans rfl; clear hbox))
    go_ret
    exact ⟨rfl, hbl⟩
theorem bestC_le (ns : List Int) (i : Nat) (a b : Int) (R : Int → Int) : ∀ (d : Nat) (c best : Int), bestC ns i a b R d c best ≤ best ∧ ∀ z : Int, c ≤ z → z < c + d → mayC ns i a b z → bestC ns i a b R d c best ≤ z + R z
  | 0, c, best => ⟨Int.le_refl _, fun z h1 h2 => by omega⟩
  | d + 1, c, best => by
    simp only [bestC]
    by_cases h : mayC ns i a b c
    · rw [if_pos h]
      obtain ⟨h1, h2⟩ := bestC_le ns i a b R d (c + 1) (min best (c + R c))
      refine ⟨by omega, fun z z1 z2 z3 => ?_⟩
      by_cases e : z = c
      · rw [e]; omega
      · exact h2 z (by omega) (by omega) z3
    · rw [if_neg h]
      obtain ⟨h1, h2⟩ := bestC_le ns i a b R d (c + 1) best
      refine ⟨h1, fun z z1 z2 z3 => ?_⟩
      by_cases e : z = c
      · rw [e] at z3; exact absurd z3 h
      · exact h2 z (by omega) (by omega) z3
theorem bestC_is (ns : List Int) (i : Nat) (a b : Int) (R : Int → Int) : ∀ (d : Nat) (c best : Int), bestC ns i a b R d c best = best ∨ ∃ z : Int, c ≤ z ∧ z < c + d ∧ mayC ns i a b z ∧ bestC ns i a b R d c best = z + R z
  | 0, c, best => Or.inl rfl
  | d + 1, c, best => by
    simp only [bestC]
    by_cases h : mayC ns i a b c
    · rw [if_pos h]
      rcases bestC_is ns i a b R d (c + 1) (min best (c + R c)) with e | ⟨z, z1, z2, z3, e⟩
      · by_cases q : best ≤ c + R c
        · left; omega
        · right; exact ⟨c, by omega, by omega, h, by omega⟩
      · right; exact ⟨z, by omega, by omega, z3, e⟩
    · rw [if_neg h]
      rcases bestC_is ns i a b R d (c + 1) best with e | ⟨z, z1, z2, z3, e⟩
      · exact Or.inl e
      · right; exact ⟨z, by omega, by omega, z3, e⟩
theorem restU_in (ns : List Int) : ∀ (d : Nat) (a b : Int), 0 ≤ restU ns d a b ∧ restU ns d a b ≤ 1000
  | 0, a, b => by
    simp only [restU]
    split <;> omega
  | d + 1, a, b => by
    simp only [restU]
    have h1 := (bestC_le ns (ns.length - (d + 1)) a b (fun c => restU ns d b c) 7 0 1000).1
    rcases bestC_is ns (ns.length - (d + 1)) a b (fun c => restU ns d b c) 7 0 1000 with e | ⟨z, z1, z2, z3, e⟩
    · omega
    · have := (restU_in ns d b z).1
      omega
theorem owns_at {w w' : World} {B n : Nat} {D : DataW Unit} (h : w.ownsMap Try.prog 54 (plainElem Try.prog 2) B n D) (e : w'.heap[B]? = w.heap[B]?) : w'.ownsMap Try.prog 54 (plainElem Try.prog 2) B n D := by
  obtain ⟨es, cl, h1, h2, h3, h4⟩ := h
  exact ⟨es, cl, e.trans h1, h2, h3, h4⟩
theorem owns_below {w w' : World} {B n : Nat} {D : DataW Unit} (h : w.ownsMap Try.prog 54 (plainElem Try.prog 2) B n D) (e : Below w.heap.size w w') : w'.ownsMap Try.prog 54 (plainElem Try.prog 2) B n D := owns_at h (e.block B h.lt)
theorem below_set0 {w w' : World} {g j : Nat} (h : Below w.heap.size w w') (hg : w.heap.size ≤ g) (v : Value) : Below w.heap.size w (w'.setCell ⟨g, j, none⟩ v) := below_set h hg
set_option maxHeartbeats 2000000 in
set_option maxRecDepth 100000 in
theorem rest_calls (ns : List Int) (hl : 1 ≤ ns.length ∧ ns.length ≤ 12) (A0 : Option Addr) (c0 : Nat) (B : Nat) (w0 : World) (hB0 : w0.heap.size ≤ B) : ∀ (d i : Nat) (a b : Int) (n : Nat) (D : DataW Unit) (w : World), i + d = ns.length → (0 ≤ a ∧ a ≤ 6) → (0 ≤ b ∧ b ≤ 6) →
    (∀ W', KeepBut w W' B none → Kd.C (Kd.int .i64) W' A0 ns.length ns) → w.ownsMap Try.prog 54 (plainElem Try.prog 2) B n D → memoU ns D → n + costU d < maxLen → Below w0.heap.size w0 w →
    Calls Try.prog 20 #[.agg #[.slice A0 ns.length c0, .map (some B)], .int .i64 (i : Int), .int .i64 a, .int .i64 b] w fun e w' => e = .returned (.int .i64 (restU ns d a b)) ∧ Below w0.heap.size w0 w' ∧ KeepBut w w' B none ∧ ∃ n' D', w'.ownsMap Try.prog 54 (plainElem Try.prog 2) B n' D' ∧ memoU ns D' ∧ n' ≤ n + costU d := by
  intro d
  induction d with
  | zero =>
    intro i a b n D w hi ha hb hc hown hm _ hbel
    have : i = ns.length := by omega
    subst this
    exact (rest_zero ns hl A0 c0 B n D a b ha hb w hc).mono (fun e w' h => ⟨h.1, below_step hbel h.2, KeepBut.of_below h.2 _ _, n, D, owns_below hown h.2, hm, by omega⟩)
  | succ d ih =>
    intro i a b n D w hi ha hb hc hown hm hcost hbel
    have HBW := Aside0.mk hbel
    have HWS := Aside0.mk hbel.size
    clear hbel
    have hu41 := Try.underlying41
    have hu54 := Try.underlying54
    have hkey := kl3_key (wfS (x := (i : Int)) (by omega)) (wfS (x := a) (by omega)) (wfS (x := b) (by omega))
    have e1 : ((i : Int) == (ns.length : Int)) = false := by rw [beq_eq_false_iff_ne]; omega
    have hBlt := hown.lt
    have IH := Aside0.mk ih
    have HC := Aside0.mk hc
    have HO := Aside0.mk hown
    have HM := Aside0.mk hm
    have HK := Aside0.mk hkey
    have HCO := Aside0.mk hcost
    have HBL := Aside0.mk hBlt
    clear ih hc hown hm hkey hcost hBlt
    by_cases hh : Maps.has D (kl3 i a b) = true
    · have HH := Aside0.mk hh
      clear hh
      go_enter Try.func20, Try.ntmps20
      go_wp2_with (first | ((with_reducible refine gate_dst (N := 4) rfl ?_); refine box_event ?hg (N := 4) ?hd (cs := #[.slice A0 ns.length c0, .map (some B)]) (t := 41) ?hr ?_; (case hd => rfl); (case hg => rfl); (case hr => first | (go_simp; done) | (go_simp; rfl)); intro ga hga w1 hbox hbl; have GA := Aside0.mk ((by rw [hga]; exact Nat.le_refl _) : w.heap.size ≤ ga); clear hga; have BA := Aside0.mk hbox; have hcA0 : w1.cell? ⟨ga, 0, none⟩ = some (.slice A0 ns.length c0) := (blk_cell BA.out 0).trans rfl; have hcA1 : w1.cell? ⟨ga, 1, none⟩ = some (.map (some B)) := (blk_cell BA.out 1).trans rfl; have hfA0 := blk_frozen BA.out 0; have hfA1 := blk_frozen BA.out 1; have HB := Aside0.mk hbl; clear hbox hbl) | ((with_reducible refine gate_dst (N := 9) rfl ?_); refine box_event ?hg (N := 9) ?hd (cs := #[.int .i64 0, .int .i64 0, .int .i64 0]) (t := 54) ?hr ?_; (case hd => rfl); (case hg => rfl); (case hr => first | (go_simp; done) | (go_simp; rfl)); intro gx hgx w2 hbox hbl; have NX := Aside0.mk ((by rw [hgx]; exact Nat.ne_of_lt (blk_lt BA.out)) : ga ≠ gx); have GX := Aside0.mk ((by rw [hgx]; exact below_size HB.out) : w.heap.size ≤ gx); clear hgx; have BX := Aside0.mk hbox; have BA_ := Aside0.mk (blk_below (g := ga) (o := .cells #[.slice A0 ns.length c0, .map (some B)] 41 (0, 0)) BA.out hbl); have HB_ := Aside0.mk (below_step HB.out hbl); clear hbox hbl hcA0 hcA1 hfA0 hfA1 BA HB; have BA := BA_; have HB := HB_; clear BA_ HB_; have hcA0 : w2.cell? ⟨ga, 0, none⟩ = some (.slice A0 ns.length c0) := (blk_cell BA.out 0).trans rfl; have hcA1 : w2.cell? ⟨ga, 1, none⟩ = some (.map (some B)) := (blk_cell BA.out 1).trans rfl; have hfA0 := blk_frozen BA.out 0; have hfA1 := blk_frozen BA.out 1; have hcX0 : w2.cell? ⟨gx, 0, none⟩ = some (.int .i64 0) := (blk_cell BX.out 0).trans rfl; have hcX1 : w2.cell? ⟨gx, 1, none⟩ = some (.int .i64 0) := (blk_cell BX.out 1).trans rfl; have hcX2 : w2.cell? ⟨gx, 2, none⟩ = some (.int .i64 0) := (blk_cell BX.out 2).trans rfl; have hfX0 := blk_frozen BX.out 0; have hfX1 := blk_frozen BX.out 1; have hfX2 := blk_frozen BX.out 2; have hn1 := NX.out; have hn2 := NX.out.symm) | (at_lookup; refine wpList_lookup_own_ok_int _ rfl _ _ 39 rfl 54 2 .i64 lf_law Try.underlying39 Try.underlying2 (lf_zero _) B n D ?hm1 ?ho1 _ _ ?hx1 HK.out ?_; (case hm1 => rfl); (case ho1 => exact (((owns_below HO.out HB.out).setCell (a := ⟨gx, 0, none⟩) (Nat.ne_of_lt (Nat.lt_of_lt_of_le HBL.out GX.out)) _).setCell (a := ⟨gx, 1, none⟩) (Nat.ne_of_lt (Nat.lt_of_lt_of_le HBL.out GX.out)) _).setCell (a := ⟨gx, 2, none⟩) (Nat.ne_of_lt (Nat.lt_of_lt_of_le HBL.out GX.out)) _); (case hx1 => rfl); intro c hat hwc; rw [HH.out]))
      go_ret
      have hr := (HM.out (d + 1) i a b hi ha hb HH.out).symm.trans hat
      simp only [DataW.lit.injEq, Lit.int.injEq, true_and] at hr
      refine ⟨by rw [hr]; rfl, (below_set0 (g := gx) (j := 2) (below_set0 (g := gx) (j := 1) (below_set0 (g := gx) (j := 0) (below_step HBW.out HB.out) (Nat.le_trans HWS.out GX.out) (.int .i64 (i : Int))) (Nat.le_trans HWS.out GX.out) (.int .i64 a)) (Nat.le_trans HWS.out GX.out) (.int .i64 b)), keep_far (p := ⟨gx, 2, none⟩) (keep_far (p := ⟨gx, 1, none⟩) (keep_far (p := ⟨gx, 0, none⟩) (KeepBut.of_below HB.out _ _) GX.out _) GX.out _) GX.out _, n, D, ?_, HM.out, by omega⟩
      exact (((owns_below HO.out HB.out).setCell (a := ⟨gx, 0, none⟩) (Nat.ne_of_lt (Nat.lt_of_lt_of_le HBL.out GX.out)) _).setCell (a := ⟨gx, 1, none⟩) (Nat.ne_of_lt (Nat.lt_of_lt_of_le HBL.out GX.out)) _).setCell (a := ⟨gx, 2, none⟩) (Nat.ne_of_lt (Nat.lt_of_lt_of_le HBL.out GX.out)) _
    · have HH := Aside0.mk (eq_false_of_ne_true hh)
      clear hh
      go_enter Try.func20, Try.ntmps20
      go_wp2_with (first | ((with_reducible refine gate_dst (N := 4) rfl ?_); refine box_event ?hg (N := 4) ?hd (cs := #[.slice A0 ns.length c0, .map (some B)]) (t := 41) ?hr ?_; (case hd => rfl); (case hg => rfl); (case hr => first | (go_simp; done) | (go_simp; rfl)); intro ga hga w1 hbox hbl; have GA := Aside0.mk ((by rw [hga]; exact Nat.le_refl _) : w.heap.size ≤ ga); clear hga; have BA := Aside0.mk hbox; have hcA0 : w1.cell? ⟨ga, 0, none⟩ = some (.slice A0 ns.length c0) := (blk_cell BA.out 0).trans rfl; have hcA1 : w1.cell? ⟨ga, 1, none⟩ = some (.map (some B)) := (blk_cell BA.out 1).trans rfl; have hfA0 := blk_frozen BA.out 0; have hfA1 := blk_frozen BA.out 1; have HB := Aside0.mk hbl; clear hbox hbl) | ((with_reducible refine gate_dst (N := 9) rfl ?_); refine box_event ?hg (N := 9) ?hd (cs := #[.int .i64 0, .int .i64 0, .int .i64 0]) (t := 54) ?hr ?_; (case hd => rfl); (case hg => rfl); (case hr => first | (go_simp; done) | (go_simp; rfl)); intro gx hgx w2 hbox hbl; have NX := Aside0.mk ((by rw [hgx]; exact Nat.ne_of_lt (blk_lt BA.out)) : ga ≠ gx); have GX := Aside0.mk ((by rw [hgx]; exact below_size HB.out) : w.heap.size ≤ gx); clear hgx; have BX := Aside0.mk hbox; have BA_ := Aside0.mk (blk_below (g := ga) (o := .cells #[.slice A0 ns.length c0, .map (some B)] 41 (0, 0)) BA.out hbl); have HB_ := Aside0.mk (below_step HB.out hbl); clear hbox hbl hcA0 hcA1 hfA0 hfA1 BA HB; have BA := BA_; have HB := HB_; clear BA_ HB_; have hcA0 : w2.cell? ⟨ga, 0, none⟩ = some (.slice A0 ns.length c0) := (blk_cell BA.out 0).trans rfl; have hcA1 : w2.cell? ⟨ga, 1, none⟩ = some (.map (some B)) := (blk_cell BA.out 1).trans rfl; have hfA0 := blk_frozen BA.out 0; have hfA1 := blk_frozen BA.out 1; have hcX0 : w2.cell? ⟨gx, 0, none⟩ = some (.int .i64 0) := (blk_cell BX.out 0).trans rfl; have hcX1 : w2.cell? ⟨gx, 1, none⟩ = some (.int .i64 0) := (blk_cell BX.out 1).trans rfl; have hcX2 : w2.cell? ⟨gx, 2, none⟩ = some (.int .i64 0) := (blk_cell BX.out 2).trans rfl; have hfX0 := blk_frozen BX.out 0; have hfX1 := blk_frozen BX.out 1; have hfX2 := blk_frozen BX.out 2; have hn1 := NX.out; have hn2 := NX.out.symm) | (at_lookup; refine wpList_lookup_own_ok_int _ rfl _ _ 39 rfl 54 2 .i64 lf_law Try.underlying39 Try.underlying2 (lf_zero _) B n D ?hm1 ?ho1 _ _ ?hx1 HK.out ?_; (case hm1 => rfl); (case ho1 => exact (((owns_below HO.out HB.out).setCell (a := ⟨gx, 0, none⟩) (Nat.ne_of_lt (Nat.lt_of_lt_of_le HBL.out GX.out)) _).setCell (a := ⟨gx, 1, none⟩) (Nat.ne_of_lt (Nat.lt_of_lt_of_le HBL.out GX.out)) _).setCell (a := ⟨gx, 2, none⟩) (Nat.ne_of_lt (Nat.lt_of_lt_of_le HBL.out GX.out)) _); (case hx1 => rfl); intro c hat hwc; rw [HH.out]))
      clear hcA0 hcA1 hfA0 hfA1 hcX0 hcX1 hcX2 hfX0 hfX1 hfX2 hn1 hn2
      have BX_ := Aside0.mk (blk_put (g := gx) (cs := #[.int .i64 (i : Int), .int .i64 a, .int .i64 0]) (blk_put (g := gx) (cs := #[.int .i64 (i : Int), .int .i64 0, .int .i64 0]) (blk_put (g := gx) (cs := #[.int .i64 0, .int .i64 0, .int .i64 0]) BX.out 0 (.int .i64 (i : Int)) rfl) 1 (.int .i64 a) rfl) 2 (.int .i64 b) rfl)
      have BA_ := Aside0.mk (blk_far (p := ⟨gx, 2, none⟩) (blk_far (p := ⟨gx, 1, none⟩) (blk_far (p := ⟨gx, 0, none⟩) BA.out NX.out (.int .i64 (i : Int))) NX.out (.int .i64 a)) NX.out (.int .i64 b))
      have KB := Aside0.mk (keep_far (keep_far (keep_far (KeepBut.of_below HB.out B none) GX.out (p := ⟨gx, 0, none⟩) (.int .i64 (i : Int))) GX.out (p := ⟨gx, 1, none⟩) (.int .i64 a)) GX.out (p := ⟨gx, 2, none⟩) (.int .i64 b))
      have HW_ := Aside0.mk (below_set0 (g := gx) (j := 2) (below_set0 (g := gx) (j := 1) (below_set0 (g := gx) (j := 0) (below_step HBW.out HB.out) (Nat.le_trans HWS.out GX.out) (.int .i64 (i : Int))) (Nat.le_trans HWS.out GX.out) (.int .i64 a)) (Nat.le_trans HWS.out GX.out) (.int .i64 b))
      have HO_ := Aside0.mk ((((owns_below HO.out HB.out).setCell (a := ⟨gx, 0, none⟩) (Nat.ne_of_lt (Nat.lt_of_lt_of_le HBL.out GX.out)) (.int .i64 (i : Int))).setCell (a := ⟨gx, 1, none⟩) (Nat.ne_of_lt (Nat.lt_of_lt_of_le HBL.out GX.out)) (.int .i64 a)).setCell (a := ⟨gx, 2, none⟩) (Nat.ne_of_lt (Nat.lt_of_lt_of_le HBL.out GX.out)) (.int .i64 b))
      clear BX BA HB HO
      go_loopg [12, 47] 7 (fun kq v12 v47 w' => ∃ (best c : Int) (n' : Nat) (D' : DataW Unit), v12 = .int .i64 best ∧ v47 = .int .i64 c ∧ Aside0 (c + kq = 7 ∧ 0 ≤ c) ∧ Aside0 (0 ≤ best ∧ best ≤ 1000) ∧ Aside0 (bestC ns i a b (fun c => restU ns d b c) kq c best = restU ns (d + 1) a b) ∧ Aside0 (Below w0.heap.size w0 w') ∧ Aside0 (KeepBut w w' B none) ∧ Aside0 (w'.ownsMap Try.prog 54 (plainElem Try.prog 2) B n' D') ∧ Aside0 (memoU ns D') ∧ Aside0 (n' + kq * costU d ≤ n + 7 * costU d) ∧ Aside0 (w'.heap[ga]? = some (.cells #[.slice A0 ns.length c0, .map (some B)] 41 (0, 0))) ∧ Aside0 (w'.heap[gx]? = some (.cells #[.int .i64 (i : Int), .int .i64 a, .int .i64 b] 54 (0, 0))))
      case atStart =>
        refine ⟨1000, 0, n, D, rfl, rfl, ⟨by omega⟩, ⟨by omega⟩, ⟨?_⟩, HW_, KB, HO_, HM, ⟨by omega⟩, BA_, BX_⟩
        simp only [restU]
        rw [show ns.length - (d + 1) = i by omega]
      case round =>
        clear HW_ KB HO_ HM BA_ BX_
        obtain ⟨best, c, n', D', rfl, rfl, HC7, HBB, HBE, HW, KB, HO, HM, HN, BA, BX⟩ := hrel
        have hcA0 : wr.cell? ⟨ga, 0, none⟩ = some (.slice A0 ns.length c0) := (blk_cell BA.out 0).trans rfl
        have hcA1 : wr.cell? ⟨ga, 1, none⟩ = some (.map (some B)) := (blk_cell BA.out 1).trans rfl
        have hfA0 := blk_frozen BA.out 0
        have hfA1 := blk_frozen BA.out 1
        have hc0 : 0 ≤ c := HC7.out.2
        have hb1 := HBB.out
        cases gk with
        | zero =>
          have c7 : c = 7 := by have := HC7.out; omega
          subst c7
          have hcX0 : wr.cell? ⟨gx, 0, none⟩ = some (.int .i64 (i : Int)) := (blk_cell BX.out 0).trans rfl
          have hcX1 : wr.cell? ⟨gx, 1, none⟩ = some (.int .i64 a) := (blk_cell BX.out 1).trans rfl
          have hcX2 : wr.cell? ⟨gx, 2, none⟩ = some (.int .i64 b) := (blk_cell BX.out 2).trans rfl
          have hfX0 := blk_frozen BX.out 0
          have hfX1 := blk_frozen BX.out 1
          have hfX2 := blk_frozen BX.out 2
          have HLT := Aside0.mk ((by have h1 := HN.out; have h2 := HCO.out; simp only [costU] at h2; omega) : n' < maxLen)
          have HWF := Aside0.mk (wfS (x := best) (by omega))
          go_wp2_with (first | (at_mapUpdate; refine wpList_mapUpdate_own _ rfl _ _ _ 39 rfl 54 2 lf_law Try.underlying39 _ B n' D' ?hm1 HO.out HLT.out _ _ (kl3 i a b) ?hx1 ?hv1 HK.out (.lit (.int .i64 best)) [] (plainElem_int Try.underlying2 HWF.out) ?_; (case hm1 => rfl); (case hx1 => rfl); (case hv1 => rfl); intro w1 hown1 hgrow1))
          go_ret
          have hbe := HBE.out
          simp only [bestC] at hbe
          have hkb := KB.out
          refine ⟨by rw [hbe]; rfl, ⟨hgrow1.os.trans HW.out.os, hgrow1.tape.trans HW.out.tape, hgrow1.output.trans HW.out.output, Nat.le_trans HW.out.size hgrow1.size, fun q hq => (hgrow1.block q (Nat.lt_of_lt_of_le hq HW.out.size) (by simp; omega)).trans (HW.out.block q hq)⟩, ⟨Nat.le_trans hkb.1 hgrow1.size, fun q hq hg hr => (hgrow1.block q (Nat.lt_of_lt_of_le hq hkb.1) (by simpa using hg)).trans (hkb.2 q hq hg hr)⟩, n' + 1, _, hown1, ?_, by have := HN.out; simp only [costU]; omega⟩
          rw [hbe]
          exact memo_put hl.2 HO.out.isMap HM.out (d + 1) i a b hi ha hb
        | succ k1 =>
          have c7 : c < 7 := by have := HC7.out; omega
          have e7 : decide (c < 7) = true := decide_eq_true c7
          have hi0 : 0 ≤ (i : Int) := by omega
          have hi1 : (i : Int) + 1 ≤ 12 := by omega
          by_cases ci : i = 0
          · have e8 : ((i : Int) == 0) = true := by rw [beq_iff_eq]; omega
            have CI := Aside0.mk ci
            clear ci
            have HR_ := IH.out (i + 1) b c n' D' wr (by omega) hb ⟨hc0, by omega⟩ (fun W' hW => HC.out W' (KB.out.trans hW (.inl rfl))) HO.out HM.out (by have h1 := HN.out; have h2 := HCO.out; simp only [costU] at h2; rw [Nat.add_mul] at h1; omega) HW.out
            rw [show ((i + 1 : Nat) : Int) = (i : Int) + 1 by omega] at HR_
            obtain ⟨t, ht⟩ : ∃ t, t = restU ns d b c := ⟨_, rfl⟩
            have ht1 := restU_in ns d b c
            rw [← ht] at HR_ ht1
            have HT := Aside0.mk ht
            have HR := Aside0.mk HR_
            have HBG := Aside0.mk HBL.out
            clear ht HR_
            go_wp2_with (first | (go_at_call 20; (with_reducible refine HR.out.mono ?_); rintro e w3 ⟨rfl, hbw3, hkb, n3, D3, hown3, hm3, hn3⟩; have BA_ := Aside0.mk ((hkb.2 ga (blk_lt BA.out) (Nat.ne_of_gt (Nat.lt_of_lt_of_le HBL.out GA.out)) (by simp)).trans BA.out); have BX_ := Aside0.mk ((hkb.2 gx (blk_lt BX.out) (Nat.ne_of_gt (Nat.lt_of_lt_of_le HBL.out GX.out)) (by simp)).trans BX.out); have HW3 := Aside0.mk hbw3; have KB3 := Aside0.mk (KB.out.trans hkb (.inl rfl)); have HO3 := Aside0.mk hown3; have HM3 := Aside0.mk hm3; have HN3 := Aside0.mk hn3; clear hbw3 hkb hown3 hm3 hn3))
            all_goals
              go_roundg k1
              case measure => omega
              case rel =>
                have hbe := HBE.out
                simp only [bestC] at hbe
                rw [if_pos (show mayC ns i a b c from Or.inl CI.out), ← HT.out] at hbe
                refine ⟨min best (c + t), c + 1, n3, D3, by first | rfl | (simp; done) | exact congrArg (Value.int .i64) (by omega), by first | rfl | (simp; done) | (simp [*]; done) | (simp [Int.tdiv_eq_ediv_of_nonneg, *]; done), ⟨by have := HC7.out; omega⟩, ⟨by omega⟩, ⟨hbe⟩, HW3, KB3, HO3, HM3, ⟨by have h1 := HN.out; have h3 := HN3.out; rw [Nat.add_mul] at h1; omega⟩, BA_, BX_⟩
          · have e8 : ((i : Int) == 0) = false := by rw [beq_eq_false_iff_ne]; omega
            obtain ⟨ad, ead, hx⟩ := Kd.at_int (HC.out wr KB.out) ((i : Int) - 1) (by omega) (by omega)
            cases ead
            rw [show ((i : Int) - 1).toNat = i - 1 by omega] at hx
            obtain ⟨v, hv⟩ : ∃ v, v = rd ns ((i : Int) - 1) := ⟨_, rfl⟩
            rw [← hv] at hx
            have hv2 : rd ns ((i - 1 : Nat) : Int) = v := by rw [hv, show ((i : Int) - 1) = ((i - 1 : Nat) : Int) by omega]
            have HV := Aside0.mk hv2
            clear hv hv2
            have p1 : (0 ≤ (i : Int) - 1) = True := eq_true (by omega)
            have q1 : ((i : Int) - 1 < (ns.length : Int)) = True := eq_true (by omega)
            have hi2 : 1 ≤ (i : Int) := by omega
            by_cases m : a + 2 * b + c ≥ v
            · have e9 : decide (a + 2 * b + c ≥ v) = true := decide_eq_true m
              have e9b : decide (v ≤ a + 2 * b + c) = true := decide_eq_true m
              have HMY := Aside0.mk m
              clear m
              have HR_ := IH.out (i + 1) b c n' D' wr (by omega) hb ⟨hc0, by omega⟩ (fun W' hW => HC.out W' (KB.out.trans hW (.inl rfl))) HO.out HM.out (by have h1 := HN.out; have h2 := HCO.out; simp only [costU] at h2; rw [Nat.add_mul] at h1; omega) HW.out
              rw [show ((i + 1 : Nat) : Int) = (i : Int) + 1 by omega] at HR_
              obtain ⟨t, ht⟩ : ∃ t, t = restU ns d b c := ⟨_, rfl⟩
              have ht1 := restU_in ns d b c
              rw [← ht] at HR_ ht1
              have HT := Aside0.mk ht
              have HR := Aside0.mk HR_
              have HBG := Aside0.mk HBL.out
              clear ht HR_
              go_wp2_with (first | (go_at_call 20; (with_reducible refine HR.out.mono ?_); rintro e w3 ⟨rfl, hbw3, hkb, n3, D3, hown3, hm3, hn3⟩; have BA_ := Aside0.mk ((hkb.2 ga (blk_lt BA.out) (Nat.ne_of_gt (Nat.lt_of_lt_of_le HBL.out GA.out)) (by simp)).trans BA.out); have BX_ := Aside0.mk ((hkb.2 gx (blk_lt BX.out) (Nat.ne_of_gt (Nat.lt_of_lt_of_le HBL.out GX.out)) (by simp)).trans BX.out); have HW3 := Aside0.mk hbw3; have KB3 := Aside0.mk (KB.out.trans hkb (.inl rfl)); have HO3 := Aside0.mk hown3; have HM3 := Aside0.mk hm3; have HN3 := Aside0.mk hn3; clear hbw3 hkb hown3 hm3 hn3))
              all_goals
                go_roundg k1
                case measure => omega
                case rel =>
                  have hbe := HBE.out
                  simp only [bestC] at hbe
                  rw [if_pos (show mayC ns i a b c from Or.inr (by rw [HV.out]; exact HMY.out)), ← HT.out] at hbe
                  refine ⟨min best (c + t), c + 1, n3, D3, by first | rfl | (simp; done) | exact congrArg (Value.int .i64) (by omega), by first | rfl | (simp; done) | (simp [*]; done) | (simp [Int.tdiv_eq_ediv_of_nonneg, *]; done), ⟨by have := HC7.out; omega⟩, ⟨by omega⟩, ⟨hbe⟩, HW3, KB3, HO3, HM3, ⟨by have h1 := HN.out; have h3 := HN3.out; rw [Nat.add_mul] at h1; omega⟩, BA_, BX_⟩
            · have e9 : decide (a + 2 * b + c ≥ v) = false := decide_eq_false m
              have e9b : decide (v ≤ a + 2 * b + c) = false := decide_eq_false m
              have HMY := Aside0.mk m
              clear m
              go_wp2
              go_roundg k1
              case measure => omega
              case rel =>
                have hbe := HBE.out
                simp only [bestC] at hbe
                rw [if_neg (show ¬ mayC ns i a b c from fun h => h.elim ci (fun h => by have := HMY.out; rw [HV.out] at h; omega))] at hbe
                refine ⟨best, c + 1, n', D', by first | rfl | (simp; done) | exact congrArg (Value.int .i64) (by omega), by first | rfl | (simp; done) | (simp [*]; done) | (simp [Int.tdiv_eq_ediv_of_nonneg, *]; done), ⟨by have := HC7.out; omega⟩, ⟨by omega⟩, ⟨hbe⟩, HW, KB, HO, HM, ⟨by have h1 := HN.out; rw [Nat.add_mul] at h1; omega⟩, BA, BX⟩

def pickC (ns : List Int) (i : Nat) (a b : Int) (R : Int → Int) (left : Int) : Nat → Int → Option Int
  | 0, _ => none
  | d + 1, c => if mayC ns i a b c ∧ c + R c = left then some c else pickC ns i a b R left d (c + 1)
theorem pickC_some (ns : List Int) (i : Nat) (a b : Int) (R : Int → Int) (left : Int) : ∀ (d : Nat) (c : Int), (∃ z : Int, c ≤ z ∧ z < c + d ∧ mayC ns i a b z ∧ z + R z = left) → ∃ z : Int, pickC ns i a b R left d c = some z ∧ c ≤ z ∧ z < c + d ∧ mayC ns i a b z ∧ z + R z = left
  | 0, c, ⟨z, h1, h2, _⟩ => by omega
  | d + 1, c, ⟨z, h1, h2, h3, h4⟩ => by
    simp only [pickC]
    by_cases h : mayC ns i a b c ∧ c + R c = left
    · rw [if_pos h]
      exact ⟨c, rfl, by omega, by omega, h.1, h.2⟩
    · rw [if_neg h]
      have hz : z ≠ c := fun e => h (by rw [← e]; exact ⟨h3, h4⟩)
      obtain ⟨y, y1, y2, y3, y4, y5⟩ := pickC_some ns i a b R left d (c + 1) ⟨z, by omega, by omega, h3, h4⟩
      exact ⟨y, y1, by omega, by omega, y4, y5⟩
def goodU (ns : List Int) : Nat → Int → Int → List Int
  | 0, _, _ => []
  | d + 1, a, b => match pickC ns (ns.length - (d + 1)) a b (fun c => restU ns d b c) (restU ns (d + 1) a b) 7 0 with
    | some c => c :: goodU ns d b c
    | none => []
theorem goodU_step (ns : List Int) (d : Nat) (a b : Int) (h : restU ns (d + 1) a b < 1000) : ∃ z : Int, pickC ns (ns.length - (d + 1)) a b (fun c => restU ns d b c) (restU ns (d + 1) a b) 7 0 = some z ∧ 0 ≤ z ∧ z ≤ 6 ∧ restU ns d b z < 1000 ∧ z + restU ns d b z = restU ns (d + 1) a b ∧ goodU ns (d + 1) a b = z :: goodU ns d b z := by
  have hex : ∃ z : Int, 0 ≤ z ∧ z < 0 + ((7 : Nat) : Int) ∧ mayC ns (ns.length - (d + 1)) a b z ∧ z + restU ns d b z = restU ns (d + 1) a b := by
    rcases bestC_is ns (ns.length - (d + 1)) a b (fun c => restU ns d b c) 7 0 1000 with e | ⟨z, z1, z2, z3, e⟩
    · simp only [restU] at h
      omega
    · exact ⟨z, z1, z2, z3, by simp only [restU]; omega⟩
  obtain ⟨z, e, z1, z2, z3, z4⟩ := pickC_some ns (ns.length - (d + 1)) a b (fun c => restU ns d b c) (restU ns (d + 1) a b) 7 0 hex
  refine ⟨z, e, z1, by omega, by omega, z4, ?_⟩
  simp only [goodU]
  rw [e]
theorem areNeeds_is (l : List Int) (t : Bool) (h : impl_areNeeds.f l = some t) : t = decide ((1 ≤ l.length ∧ l.length ≤ 12) ∧ ∀ v ∈ l, 0 ≤ v ∧ v ≤ 12) := by
  unfold impl_areNeeds.f impl_areWithin.f impl_areWithin.all at h
  rw [impl_areWithin.within_is, Option.bind_some] at h
  by_cases c : 1 ≤ l.length ∧ l.length ≤ 12
  · rw [if_pos (by simpa using (show (1 : Int) ≤ (l.length : Int) ∧ (l.length : Int) ≤ 12 from ⟨by omega, by omega⟩)), Option.bind_some] at h
    rw [← Option.some.inj h, Bool.eq_iff_iff, List.all_eq_true]
    simp only [decide_eq_true_eq]
    exact ⟨fun h => ⟨c, h⟩, fun h => h.2⟩
  · rw [if_neg (by simp only [decide_eq_true_eq]; omega)] at h
    rw [← Option.some.inj h]
    exact (decide_eq_false (fun h => c h.1)).symm
theorem mayAll (ns : List Int) (v : Int) (h : ∀ x ∈ ns, x ≤ v) (hv : 0 ≤ v) : ∀ i : Int, rd ns i ≤ v := fun i => by
  unfold rd
  rw [List.getD_eq_getElem?_getD]
  cases e : ns[i.toNat]? with
  | none => exact hv
  | some x => exact h x (List.mem_of_getElem? e)
theorem restU_six (ns : List Int) (hv : ∀ x ∈ ns, x ≤ 12) : ∀ (d : Nat) (a : Int), 0 ≤ a → d < ns.length → restU ns d a 6 ≤ 6 * d
  | 0, a, ha, hd => by
    simp only [restU]
    have := mayAll ns 12 hv (by omega) ((ns.length - 1 : Nat) : Int)
    rw [if_neg (by omega)]
    omega
  | d + 1, a, ha, hd => by
    have ih := restU_six ns hv d 6 (by omega) (by omega)
    have := mayAll ns 12 hv (by omega) ((ns.length - (d + 1) - 1 : Nat) : Int)
    have h2 := (bestC_le ns (ns.length - (d + 1)) a 6 (fun c => restU ns d 6 c) 7 0 1000).2 6 (by omega) (by omega) (Or.inr (by omega))
    simp only [restU]
    omega
theorem restU_all (ns : List Int) (hl : 1 ≤ ns.length ∧ ns.length ≤ 12) (hv : ∀ x ∈ ns, x ≤ 12) : restU ns ns.length 0 0 < 1000 := by
  obtain ⟨d, hd⟩ : ∃ d, ns.length = d + 1 := ⟨ns.length - 1, by omega⟩
  have h6 := restU_six ns hv d 0 (by omega) (by omega)
  have h2 := (bestC_le ns (ns.length - (d + 1)) 0 0 (fun c => restU ns d 0 c) 7 0 1000).2 6 (by omega) (by omega) (Or.inl (by omega))
  rw [hd]
  simp only [restU]
  omega
def impl_LeastUnits.f (l0 : List Int) : Option (List Int × Int × Bool) := (impl_areNeeds.f l0).bind fun t => if t = true then some (goodU l0 l0.length 0 0, restU l0 l0.length 0 0, true) else some ([], 0, false)
theorem needs_at {w w3 : World} {A0 : Option Addr} {ns : List Int} {B : Nat} (hr0 : Kd.C (Kd.int .i64) w A0 ns.length ns) (hb : Below w.heap.size w w3) (hB : w.heap.size ≤ B) : ∀ W', KeepBut w3 W' B none → Kd.C (Kd.int .i64) W' A0 ns.length ns := fun W' hk => by
  refine Kd.C_keep (0 : Int) (Kd.C_below hr0 hb) hk (fun ad e hp => ?_)
  obtain ⟨ad', e', hx⟩ := Kd.at_int hr0 0 (by omega) (by omega)
  rw [e] at e'
  cases e'
  have := World.block_lt_of_cell? w _ hx
  have h2 : ad.block < w.heap.size := by simpa [Addr.add] using this
  omega
theorem costU_at : costU 12 < 17592186044416 := by decide
theorem costU_mono : ∀ d e : Nat, d ≤ e → costU d ≤ costU e
  | d, 0, h => by rw [Nat.le_zero.mp h]; exact Nat.le_refl _
  | d, e + 1, h => by
    by_cases c : d = e + 1
    · rw [c]; exact Nat.le_refl _
    · have := costU_mono d e (by omega)
      simp only [costU]
      omega
section
variable {P : Program} {ops : Array Oper} {rest : List Oper} {o : Oper} {a : Act} {Q : Exit → Act → World → Prop}
theorem map_event {W : World} (k : TypeId) (R : Value → Option (DataW Unit × List MemPlace)) (hgd : o.guard = none) {N : Tmp} (_hd : o.dst = some N)
    (hrun : (execOp a.eval o).run P W = .ok (.value (.map (some W.heap.size))) (W.alloc (.map #[] 0)))
    (h : ∀ g, g = W.heap.size → ∀ w1, w1.ownsMap P k R g 0 (.map []) → Below W.heap.size W w1 → wpList P ops Q rest (a.put o.dst (.map (some g))) w1) : wpList P ops Q (o :: rest) a W :=
  Kd.event_run hgd hrun (h _ rfl _ (World.ownsMap_made W P k R) (below_alloc (Below.refl _ _) _))
end
theorem rest_at (ns : List Int) (hl : 1 ≤ ns.length ∧ ns.length ≤ 12) (A0 : Option Addr) (c0 : Nat) (B : Nat) (w0 : World) (hB0 : w0.heap.size ≤ B) (d i : Nat) (ii a b : Int) (hii : ii = (i : Int)) (T : Int) (n : Nat) (D : DataW Unit) (w : World) (hi : i + d = ns.length) (ha : 0 ≤ a ∧ a ≤ 6) (hb : 0 ≤ b ∧ b ≤ 6)
    (hr0 : Kd.C (Kd.int .i64) w0 A0 ns.length ns) (hown : w.ownsMap Try.prog 54 (plainElem Try.prog 2) B n D) (hm : memoU ns D) (hn : n + costU d < maxLen) (hbel : Below w0.heap.size w0 w) (hT : T = restU ns d a b) :
    Calls Try.prog 20 #[.agg #[.slice A0 ns.length c0, .map (some B)], .int .i64 ii, .int .i64 a, .int .i64 b] w fun e w' => e = .returned (.int .i64 T) ∧ Below w0.heap.size w0 w' ∧ KeepBut w w' B none ∧ ∃ n' D', w'.ownsMap Try.prog 54 (plainElem Try.prog 2) B n' D' ∧ memoU ns D' ∧ n' ≤ n + costU d := by
  subst hii hT
  exact rest_calls ns hl A0 c0 B w0 hB0 d i a b n D w hi ha hb (needs_at hr0 hbel hB0) hown hm hn hbel
set_option maxHeartbeats 2000000 in
set_option maxRecDepth 100000 in
theorem impl_LeastUnits.calls (A0 : Option Addr) (c0 : Nat) (l0 : List Int) (r1 : List Int) (r2 : Int) (r3 : Bool) (w : World) (hr0 : Kd.C (Kd.int .i64) w A0 l0.length l0) (hc0 : l0.length ≤ c0) (h : impl_LeastUnits.f l0 = some (r1, r2, r3)) :
    Calls Try.prog 7 #[.slice A0 l0.length c0] w fun e w' => ∃ v0_ : Value, e = .returned (.tuple #[v0_, .int .i64 r2, .bool r3]) ∧ Kd.R (Kd.int .i64) 2 w' w.heap.size (fun _ => True) v0_ r1 ∧ Below w.heap.size w w' := by
  unfold impl_LeastUnits.f at h
  obtain ⟨t, ht, h⟩ := Option.bind_eq_some_iff.mp h
  have HR0 := Aside0.mk hr0
  have HC0 := Aside0.mk hc0
  have HTA := Aside0.mk ht
  have ht2 := areNeeds_is l0 t ht
  clear hr0 hc0 ht
  have hu41 := Try.underlying41
  cases t with
  | false =>
    rw [if_neg (by decide)] at h
    have h := Option.some.inj h
    cases h
    clear ht2
    go_enter Try.func7, Try.ntmps7
    go_wp2_with (first | (go_at_call 19; (with_reducible refine (impl_areNeeds.calls A0 c0 l0 false _ HR0.out HC0.out HTA.out).mono ?_); rintro e w1 ⟨rfl, hb⟩; have HB := Aside0.mk hb; clear hb))
    go_ret3
    exact ⟨_, rfl, Kd.R_nil _ _ _ _ _, HB.out⟩
  | true =>
    rw [if_pos rfl] at h
    have h := Option.some.inj h
    cases h
    have ht3 := of_decide_eq_true ht2.symm
    clear ht2
    obtain ⟨hl, hv⟩ := ht3
    have HSIX := Aside0.mk (restU_all l0 hl (fun x hx => (hv x hx).2))
    clear hv
    obtain ⟨T, hT⟩ : ∃ T, T = restU l0 l0.length 0 0 := ⟨_, rfl⟩
    have hT1 := restU_in l0 l0.length 0 0
    rw [← hT] at HSIX hT1 ⊢
    have HT := Aside0.mk hT
    clear hT
    obtain ⟨C, hC⟩ : ∃ C, C = costU 12 := ⟨_, rfl⟩
    have HCL := Aside0.mk ((by intro d hd; rw [hC]; exact ⟨costU_mono d 12 hd, by have := costU_at; unfold maxLen; omega⟩) : ∀ d : Nat, d ≤ 12 → costU d ≤ C ∧ 1000 * C < maxLen)
    clear hC
    obtain ⟨E, hE⟩ : ∃ E, E = 7 * C := ⟨_, rfl⟩
    have HE := Aside0.mk hE
    clear hE
    go_enter Try.func7, Try.ntmps7
    go_wp2_with (first | (go_at_call 19; (with_reducible refine (impl_areNeeds.calls A0 c0 l0 true _ HR0.out HC0.out HTA.out).mono ?_); rintro e w1 ⟨rfl, hb⟩; have HB := Aside0.mk hb; clear hb) | ((with_reducible refine gate_dst (N := 17) rfl ?_); refine map_event 54 (plainElem Try.prog 2) ?hg (N := 17) ?hd ?hr ?_; (case hd => rfl); (case hg => rfl); (case hr => first | (go_simp; done) | (go_simp; rfl)); intro B hB w2 hown hbl; have GB := Aside0.mk ((by rw [hB]; exact HB.out.size) : w.heap.size ≤ B); have HO := Aside0.mk hown; have HB_ := Aside0.mk (below_step HB.out hbl); clear HB hB hown hbl; have HB := HB_; clear HB_) | ((with_reducible refine gate_dst (N := 19) rfl ?_); refine Kd.R_lit (Kd.int .i64) w.heap.size 2 ?hg (N := 19) ?hd (xs := ([] : List Int)) (inner := []) (ok := fun k_ => k_ ≠ B) (okp := fun _ => False) ?hr ?hp (fun _ hk => hk.elim) (Nat.ne_of_gt HO.out.lt) HB.out HB.out.size (by simp) ?_; (case hd => rfl); (case hg => rfl); (case hr => first | (go_simp; done) | (go_simp; rfl)); (case hp => exact (Reps.none _ _)); intro vu w3 ho3 hb hg_ hnew_; have HO_ := Aside0.mk (owns_at HO.out (hg_.block B HO.out.lt (by simp))); have HU := Aside0.mk ho3; clear HB HO; have HB := Aside0.mk hb; have HO := HO_; clear HO_ hg_ hnew_ ho3 hb) | ((with_reducible refine gate_dst (N := 5) rfl ?_); refine box_event ?hg (N := 5) ?hd (cs := #[.slice none 0 0, .map none]) (t := 41) ?hr ?_; (case hd => rfl); (case hg => rfl); (case hr => first | (go_simp; done) | (go_simp; rfl)); intro ga hga w4 hbox hbl; have GA := Aside0.mk ((by rw [hga]; exact HB.out.size) : w.heap.size ≤ ga); have NB := Aside0.mk ((by rw [hga]; exact Nat.ne_of_lt HO.out.lt) : B ≠ ga); have HU_ := Aside0.mk (Kd.R_mono (ok' := fun k_ => k_ ≠ B ∧ k_ ≠ ga) (Kd.R_below (Kd.R_bound HU.out) hbl) (fun q hq => ⟨hq.1, by rw [hga]; have := hq.2; omega⟩)); have BX := Aside0.mk hbox; have HB_ := Aside0.mk (below_step HB.out hbl); have HO_ := Aside0.mk (owns_below HO.out hbl); clear HB HO HU hga hbox hbl; have HB := HB_; have HO := HO_; have HU := HU_; clear HB_ HO_ HU_; have hcX0 : w4.cell? ⟨ga, 0, none⟩ = some (.slice none 0 0) := (blk_cell BX.out 0).trans rfl; have hcX1 : w4.cell? ⟨ga, 1, none⟩ = some (.map none) := (blk_cell BX.out 1).trans rfl; have hfX0 := blk_frozen BX.out 0; have hfX1 := blk_frozen BX.out 1) | (go_at_call 20; have BA_ := Aside0.mk (blk_put (g := ga) (cs := #[.slice A0 l0.length c0, .map none]) (blk_put (g := ga) (cs := #[.slice none 0 0, .map none]) BX.out 0 (.slice A0 l0.length c0) rfl) 1 (.map (some B)) rfl); have HB_ := Aside0.mk (below_set0 (g := ga) (j := 1) (below_set0 (g := ga) (j := 0) HB.out GA.out (.slice A0 l0.length c0)) GA.out (.map (some B))); have HO_ := Aside0.mk ((HO.out.setCell (a := ⟨ga, 0, none⟩) NB.out (.slice A0 l0.length c0)).setCell (a := ⟨ga, 1, none⟩) NB.out (.map (some B))); have HU_ := Aside0.mk (Kd.R_far (p := ⟨ga, 1, none⟩) (Kd.R_far (p := ⟨ga, 0, none⟩) HU.out (fun q hq => hq.2) (.slice A0 l0.length c0)) (fun q hq => hq.2) (.map (some B))); clear HB HO HU BX hcX0 hcX1 hfX0 hfX1; (with_reducible refine (rest_at l0 hl A0 c0 B w GB.out l0.length 0 0 0 0 (by omega) T 0 (.map []) _ (by omega) (by omega) (by omega) HR0.out HO_.out (memo_nil l0) (by have := HCL.out l0.length hl.2; omega) HB_.out HT.out).mono ?_); rintro e w5 ⟨rfl, hb5, hkb, n5, D5, hown5, hm5, hn5⟩; have BA := Aside0.mk ((hkb.2 ga (blk_lt BA_.out) NB.out.symm (by simp)).trans BA_.out); have HU := Aside0.mk (Kd.R_keep HU_.out hkb (fun q hq => hq.1)); have HB := Aside0.mk hb5; have HO := Aside0.mk hown5; have HM := Aside0.mk hm5; have HN := Aside0.mk hn5; clear hb5 hkb hown5 hm5 hn5 BA_ HB_ HO_ HU_))
    go_loopg [6, 7, 8, 10, 11] l0.length (fun kq v6 v7 v8 v10 v11 w' => ∃ (us : List Int) (a b left i : Int) (n' : Nat) (D' : DataW Unit), v7 = .int .i64 a ∧ v8 = .int .i64 b ∧ v10 = .int .i64 left ∧ v11 = .int .i64 i ∧ Aside0 (i + kq = l0.length ∧ 0 ≤ i) ∧ Aside0 ((0 ≤ a ∧ a ≤ 6) ∧ (0 ≤ b ∧ b ≤ 6)) ∧ Aside0 (left = restU l0 kq a b ∧ left < 1000) ∧ Aside0 (us ++ goodU l0 kq a b = goodU l0 l0.length 0 0) ∧ Aside0 (Kd.R (Kd.int .i64) 2 w' w.heap.size (fun k_ => k_ ≠ B ∧ k_ ≠ ga) v6 us) ∧ Aside0 (us.length + kq ≤ 12) ∧ Aside0 (Below w.heap.size w w') ∧ Aside0 (w'.ownsMap Try.prog 54 (plainElem Try.prog 2) B n' D') ∧ Aside0 (memoU l0 D') ∧ Aside0 (n' + kq * E ≤ C + 12 * E) ∧ Aside0 (w'.heap[ga]? = some (.cells #[.slice A0 l0.length c0, .map (some B)] 41 (0, 0))))
    case atStart =>
      refine ⟨[], 0, 0, T, 0, n5, D5, rfl, rfl, rfl, rfl, ⟨by omega⟩, ⟨by omega⟩, ⟨⟨HT.out, HSIX.out⟩⟩, ⟨rfl⟩, HU, ⟨by simpa using hl.2⟩, HB, HO, HM, ⟨?_⟩, BA⟩
      have h1 := HN.out
      have h2 := (HCL.out l0.length hl.2).1
      have h3 := Nat.mul_le_mul_right E hl.2
      omega
    case round =>
      clear HU HB HO HM HN BA
      obtain ⟨us, a, b, left, i, n', D', rfl, rfl, rfl, rfl, HI, HAB, HLE, HGO, HU, HLN, HB, HO, HM, HN, BA⟩ := hrel
      have hi0 : 0 ≤ i := HI.out.2
      have hab := HAB.out
      have hlf : left ≤ 1000 := by have := HLE.out.2; omega
      have hlf0 : 0 ≤ left := by have := (restU_in l0 gk a b).1; have := HLE.out.1; omega
      cases gk with
      | zero =>
        have hi1 : decide (i < (l0.length : Int)) = false := decide_eq_false (by have := HI.out; omega)
        go_wp2
        go_ret3
        refine ⟨_, rfl, ?_, HB.out⟩
        have h := HGO.out
        simp only [goodU, List.append_nil] at h
        rw [← h]
        exact Kd.R_mono HU.out (fun _ _ => trivial)
      | succ d =>
        have hi1 : decide (i < (l0.length : Int)) = true := decide_eq_true (by have := HI.out; omega)
        have hi2 : i + 1 ≤ 12 := by have := HI.out; omega
        obtain ⟨z, hz, hz0, hz6, hzl, hzs, hzg⟩ := goodU_step l0 d a b (by rw [← HLE.out.1]; exact HLE.out.2)
        rw [← HLE.out.1] at hz hzs
        rw [hzg] at HGO
        have HZ := Aside0.mk hz
        have HZL := Aside0.mk hzl
        have HZS := Aside0.mk hzs
        have HZI := Aside0.mk (show l0.length - (d + 1) = i.toNat by have := HI.out; omega)
        clear hz hzl hzs hzg
        rw [HZI.out] at HZ
        go_wp2
        go_loopg [6, 7, 8, 10, 29] 7 (fun kq v6 v7 v8 v10 v29 w' => ∃ (c : Int) (n2 : Nat) (D2 : DataW Unit), v6 = u6 ∧ v7 = .int .i64 a ∧ v8 = .int .i64 b ∧ v10 = .int .i64 left ∧ v29 = .int .i64 c ∧ Aside0 (c + kq = 7 ∧ 0 ≤ c) ∧ Aside0 (pickC l0 i.toNat a b (fun c => restU l0 d b c) left kq c = some z) ∧ Aside0 (Kd.R (Kd.int .i64) 2 w' w.heap.size (fun k_ => k_ ≠ B ∧ k_ ≠ ga) u6 us) ∧ Aside0 (Below w.heap.size w w') ∧ Aside0 (w'.ownsMap Try.prog 54 (plainElem Try.prog 2) B n2 D2) ∧ Aside0 (memoU l0 D2) ∧ Aside0 (n2 + kq * C + d * E ≤ C + 12 * E) ∧ Aside0 (w'.heap[ga]? = some (.cells #[.slice A0 l0.length c0, .map (some B)] 41 (0, 0))))
        case atStart => exact ⟨0, n', D', rfl, rfl, rfl, rfl, rfl, ⟨by omega⟩, HZ, HU, HB, HO, HM, ⟨by have h1 := HN.out; have h2 := HE.out; rw [Nat.add_mul] at h1; omega⟩, BA⟩
        case round =>
          clear HZ HU HB HO HM HN BA
          obtain ⟨c, n2, D2, rfl, rfl, rfl, rfl, rfl, HC7, HZ2, HU, HB, HO, HM, HN, BA⟩ := hrel
          have hcA0 : wr.cell? ⟨ga, 0, none⟩ = some (.slice A0 l0.length c0) := (blk_cell BA.out 0).trans rfl
          have hcA1 : wr.cell? ⟨ga, 1, none⟩ = some (.map (some B)) := (blk_cell BA.out 1).trans rfl
          have hfA0 := blk_frozen BA.out 0
          have hfA1 := blk_frozen BA.out 1
          have hc0 : 0 ≤ c := HC7.out.2
          cases gk with
          | zero => exact absurd HZ2.out (by simp [pickC])
          | succ k2 =>
          have c7 : c < 7 := by have := HC7.out; omega
          have e7 : decide (c < 7) = true := decide_eq_true c7
          by_cases ci : i = 0
          · have e8 : (i == 0) = true := by rw [beq_iff_eq]; exact ci
            have CI := Aside0.mk ci
            clear ci
            obtain ⟨t, ht⟩ : ∃ t, t = restU l0 d b c := ⟨_, rfl⟩
            have ht1 := restU_in l0 d b c
            rw [← ht] at ht1
            have HTT := Aside0.mk ht
            clear ht
            have HCO := Aside0.mk (by have h1 := HCL.out d (by have := HI.out; omega); have h2 := HN.out; have h3 := HE.out; omega : n2 + costU d < maxLen)
            by_cases q : c + t = left
            · have e10 : (c + t == left) = true := by rw [beq_iff_eq]; exact q
              have HQ := Aside0.mk q
              clear q
              have hzc : z = c := by
                have h := HZ2.out
                simp only [pickC] at h
                rw [if_pos ⟨Or.inl (by rw [CI.out]; rfl), by rw [← HTT.out]; exact HQ.out⟩] at h
                exact (Option.some.inj h).symm
              have HZC := Aside0.mk hzc
              clear hzc
              go_wp2_with (first | (go_at_call 20; (with_reducible refine (rest_at l0 hl _ c0 B w GB.out d (i.toNat + 1) (i + 1) b c (by omega) t n2 D2 _ (by have := HI.out; omega) hab.2 ⟨hc0, by omega⟩ HR0.out HO.out HM.out HCO.out HB.out HTT.out).mono ?_); rintro e w5 ⟨rfl, hb5, hkb, n5, D5, hown5, hm5, hn5⟩; have BA_ := Aside0.mk ((hkb.2 ga (blk_lt BA.out) NB.out.symm (by simp)).trans BA.out); have HU_ := Aside0.mk (Kd.R_keep HU.out hkb (fun q hq => hq.1)); have HB_ := Aside0.mk hb5; have HO_ := Aside0.mk hown5; have HM_ := Aside0.mk hm5; have HN_ := Aside0.mk hn5; clear hb5 hkb hown5 hm5 hn5 BA HU HB HO HM hcA0 hcA1 hfA0 hfA1) | ((with_reducible refine gate_builtin (b := .append) (xs := #[.tmp 60, .tmp 62]) rfl ?_); at_builtin; refine Kd.R_append (Kd.int .i64) (w0 := w) w.heap.size rfl (.tmp 60) (.tmp 62) 24 2 (.int .i64 0) 8 rfl Try.underlying24 info2 rfl (by decide) (by omega) u6 us c [.int .i64 c] (fun k_ => k_ ≠ B ∧ k_ ≠ ga) (fun _ => False) rfl rfl ?aP (fun _ hk => hk.elim) ?aF ?aO ?aB ?aS ?aL ?_; (case aP => exact rfl); (case aB => exact HB_.out); (case aF => exact (fun k_ hk => ⟨Nat.ne_of_gt (Nat.lt_of_lt_of_le HO_.out.lt hk), Nat.ne_of_gt (Nat.lt_of_lt_of_le (blk_lt BA_.out) hk)⟩)); (case aO => exact HU_.out); (case aS => exact HB_.out.size); (case aL => have := HLN.out; omega); intro v6 w6 ho hb6 hg hat; have BA6 := Aside0.mk ((hg.block ga (blk_lt BA_.out) (Kd.R_away HU_.out (fun q hq => hq.2))).trans BA_.out); have HO6 := Aside0.mk (owns_at HO_.out (hg.block B HO_.out.lt (Kd.R_away HU_.out (fun q hq => hq.1)))); have HU6 := Aside0.mk ho; have HB6 := Aside0.mk hb6; clear ho hb6 hg hat))
              go_roundg d
              case measure => omega
              case rel =>
                have hzc := HZC.out
                subst hzc
                refine ⟨us ++ [z], b, z, left - z, i + 1, n5, D5, by first | rfl | (simp; done), by first | rfl | (simp; done), by first | rfl | (simp; done), by first | rfl | (simp; done), ⟨by have := HI.out; omega⟩, ⟨by omega⟩, ⟨by have h1 := HZS.out; have h2 := HZL.out; omega⟩, ⟨by rw [List.append_assoc]; exact HGO.out⟩, HU6, ⟨by have := HLN.out; rw [List.length_append, List.length_singleton]; omega⟩, HB6, HO6, HM_, ⟨by have h1 := HN.out; have h2 := HN_.out; have h3 := (HCL.out d (by have := HI.out; omega)).1; rw [Nat.add_mul] at h1; omega⟩, BA6⟩
            · have e10 : (c + t == left) = false := by rw [beq_eq_false_iff_ne]; exact q
              have HQ := Aside0.mk q
              clear q
              go_wp2_with (first | (go_at_call 20; (with_reducible refine (rest_at l0 hl _ c0 B w GB.out d (i.toNat + 1) (i + 1) b c (by omega) t n2 D2 _ (by have := HI.out; omega) hab.2 ⟨hc0, by omega⟩ HR0.out HO.out HM.out HCO.out HB.out HTT.out).mono ?_); rintro e w5 ⟨rfl, hb5, hkb, n5, D5, hown5, hm5, hn5⟩; have BA_ := Aside0.mk ((hkb.2 ga (blk_lt BA.out) NB.out.symm (by simp)).trans BA.out); have HU_ := Aside0.mk (Kd.R_keep HU.out hkb (fun q hq => hq.1)); have HB_ := Aside0.mk hb5; have HO_ := Aside0.mk hown5; have HM_ := Aside0.mk hm5; have HN_ := Aside0.mk hn5; clear hb5 hkb hown5 hm5 hn5 BA HU HB HO HM hcA0 hcA1 hfA0 hfA1))
              go_roundg k2
              case measure => omega
              case rel =>
                have h := HZ2.out
                simp only [pickC] at h
                rw [if_neg (fun h => HQ.out (by rw [HTT.out]; exact h.2))] at h
                refine ⟨c + 1, n5, D5, rfl, by first | rfl | (simp; done), by first | rfl | (simp; done), by first | rfl | (simp; done), by first | rfl | (simp; done), ⟨by have := HC7.out; omega⟩, ⟨h⟩, HU_, HB_, HO_, HM_, ⟨by have h1 := HN.out; have h2 := HN_.out; have h3 := (HCL.out d (by have := HI.out; omega)).1; rw [Nat.add_mul] at h1; omega⟩, BA_⟩
          · have e8 : (i == 0) = false := by rw [beq_eq_false_iff_ne]; exact ci
            have hix : i < (l0.length : Int) := of_decide_eq_true hi1
            obtain ⟨ad, ead, hx⟩ := Kd.at_int (Kd.C_below HR0.out HB.out) (i - 1) (by omega) (by omega)
            cases ead
            rw [show (i - 1).toNat = i.toNat - 1 by omega] at hx
            obtain ⟨v, hv⟩ : ∃ v, v = rd l0 (i - 1) := ⟨_, rfl⟩
            rw [← hv] at hx
            have HV := Aside0.mk (show rd l0 ((i.toNat - 1 : Nat) : Int) = v by rw [hv, show (i - 1) = ((i.toNat - 1 : Nat) : Int) by omega])
            clear hv
            have p1 : (0 ≤ i - 1) = True := eq_true (by omega)
            have q1 : (i - 1 < (l0.length : Int)) = True := eq_true (by omega)
            have p2 : (1 ≤ i) = True := eq_true (by omega)
            have p3 : (i < 1) = False := eq_false (by omega)
            have CI := Aside0.mk ci
            clear ci hix
            by_cases m : a + 2 * b + c ≥ v
            · have e9 : decide (a + 2 * b + c ≥ v) = true := decide_eq_true m
              have e9b : decide (v ≤ a + 2 * b + c) = true := decide_eq_true m
              have HMY := Aside0.mk m
              clear m
              obtain ⟨t, ht⟩ : ∃ t, t = restU l0 d b c := ⟨_, rfl⟩
              have ht1 := restU_in l0 d b c
              rw [← ht] at ht1
              have HTT := Aside0.mk ht
              clear ht
              have HCO := Aside0.mk (by have h1 := HCL.out d (by have := HI.out; omega); have h2 := HN.out; have h3 := HE.out; omega : n2 + costU d < maxLen)
              by_cases q : c + t = left
              · have e10 : (c + t == left) = true := by rw [beq_iff_eq]; exact q
                have HQ := Aside0.mk q
                clear q
                have hzc : z = c := by
                  have h := HZ2.out
                  simp only [pickC] at h
                  rw [if_pos ⟨Or.inr (by rw [HV.out]; exact HMY.out), by rw [← HTT.out]; exact HQ.out⟩] at h
                  exact (Option.some.inj h).symm
                have HZC := Aside0.mk hzc
                clear hzc
                go_wp2_with (first | (go_at_call 20; (with_reducible refine (rest_at l0 hl _ c0 B w GB.out d (i.toNat + 1) (i + 1) b c (by omega) t n2 D2 _ (by have := HI.out; omega) hab.2 ⟨hc0, by omega⟩ HR0.out HO.out HM.out HCO.out HB.out HTT.out).mono ?_); rintro e w5 ⟨rfl, hb5, hkb, n5, D5, hown5, hm5, hn5⟩; have BA_ := Aside0.mk ((hkb.2 ga (blk_lt BA.out) NB.out.symm (by simp)).trans BA.out); have HU_ := Aside0.mk (Kd.R_keep HU.out hkb (fun q hq => hq.1)); have HB_ := Aside0.mk hb5; have HO_ := Aside0.mk hown5; have HM_ := Aside0.mk hm5; have HN_ := Aside0.mk hn5; clear hb5 hkb hown5 hm5 hn5 BA HU HB HO HM hcA0 hcA1 hfA0 hfA1) | ((with_reducible refine gate_builtin (b := .append) (xs := #[.tmp 60, .tmp 62]) rfl ?_); at_builtin; refine Kd.R_append (Kd.int .i64) (w0 := w) w.heap.size rfl (.tmp 60) (.tmp 62) 24 2 (.int .i64 0) 8 rfl Try.underlying24 info2 rfl (by decide) (by omega) u6 us c [.int .i64 c] (fun k_ => k_ ≠ B ∧ k_ ≠ ga) (fun _ => False) rfl rfl ?aP (fun _ hk => hk.elim) ?aF ?aO ?aB ?aS ?aL ?_; (case aP => exact rfl); (case aB => exact HB_.out); (case aF => exact (fun k_ hk => ⟨Nat.ne_of_gt (Nat.lt_of_lt_of_le HO_.out.lt hk), Nat.ne_of_gt (Nat.lt_of_lt_of_le (blk_lt BA_.out) hk)⟩)); (case aO => exact HU_.out); (case aS => exact HB_.out.size); (case aL => have := HLN.out; omega); intro v6 w6 ho hb6 hg hat; have BA6 := Aside0.mk ((hg.block ga (blk_lt BA_.out) (Kd.R_away HU_.out (fun q hq => hq.2))).trans BA_.out); have HO6 := Aside0.mk (owns_at HO_.out (hg.block B HO_.out.lt (Kd.R_away HU_.out (fun q hq => hq.1)))); have HU6 := Aside0.mk ho; have HB6 := Aside0.mk hb6; clear ho hb6 hg hat))
                go_roundg d
                case measure => omega
                case rel =>
                  have hzc := HZC.out
                  subst hzc
                  refine ⟨us ++ [z], b, z, left - z, i + 1, n5, D5, by first | rfl | (simp; done), by first | rfl | (simp; done), by first | rfl | (simp; done), by first | rfl | (simp; done), ⟨by have := HI.out; omega⟩, ⟨by omega⟩, ⟨by have h1 := HZS.out; have h2 := HZL.out; omega⟩, ⟨by rw [List.append_assoc]; exact HGO.out⟩, HU6, ⟨by have := HLN.out; rw [List.length_append, List.length_singleton]; omega⟩, HB6, HO6, HM_, ⟨by have h1 := HN.out; have h2 := HN_.out; have h3 := (HCL.out d (by have := HI.out; omega)).1; rw [Nat.add_mul] at h1; omega⟩, BA6⟩
              · have e10 : (c + t == left) = false := by rw [beq_eq_false_iff_ne]; exact q
                have HQ := Aside0.mk q
                clear q
                go_wp2_with (first | (go_at_call 20; (with_reducible refine (rest_at l0 hl _ c0 B w GB.out d (i.toNat + 1) (i + 1) b c (by omega) t n2 D2 _ (by have := HI.out; omega) hab.2 ⟨hc0, by omega⟩ HR0.out HO.out HM.out HCO.out HB.out HTT.out).mono ?_); rintro e w5 ⟨rfl, hb5, hkb, n5, D5, hown5, hm5, hn5⟩; have BA_ := Aside0.mk ((hkb.2 ga (blk_lt BA.out) NB.out.symm (by simp)).trans BA.out); have HU_ := Aside0.mk (Kd.R_keep HU.out hkb (fun q hq => hq.1)); have HB_ := Aside0.mk hb5; have HO_ := Aside0.mk hown5; have HM_ := Aside0.mk hm5; have HN_ := Aside0.mk hn5; clear hb5 hkb hown5 hm5 hn5 BA HU HB HO HM hcA0 hcA1 hfA0 hfA1))
                go_roundg k2
                case measure => omega
                case rel =>
                  have h := HZ2.out
                  simp only [pickC] at h
                  rw [if_neg (fun h => HQ.out (by rw [HTT.out]; exact h.2))] at h
                  refine ⟨c + 1, n5, D5, rfl, by first | rfl | (simp; done), by first | rfl | (simp; done), by first | rfl | (simp; done), by first | rfl | (simp; done), ⟨by have := HC7.out; omega⟩, ⟨h⟩, HU_, HB_, HO_, HM_, ⟨by have h1 := HN.out; have h2 := HN_.out; have h3 := (HCL.out d (by have := HI.out; omega)).1; rw [Nat.add_mul] at h1; omega⟩, BA_⟩
            · have e9 : decide (a + 2 * b + c ≥ v) = false := decide_eq_false m
              have e9b : decide (v ≤ a + 2 * b + c) = false := decide_eq_false m
              have HMY := Aside0.mk m
              clear m
              go_wp2
              go_roundg k2
              case measure => omega
              case rel =>
                have h := HZ2.out
                simp only [pickC] at h
                rw [if_neg (fun h => h.1.elim (fun h => CI.out (by omega)) (fun h => by have := HMY.out; rw [HV.out] at h; omega))] at h
                refine ⟨c + 1, n2, D2, rfl, by first | rfl | (simp; done), by first | rfl | (simp; done), by first | rfl | (simp; done), by first | rfl | (simp; done), ⟨by have := HC7.out; omega⟩, ⟨h⟩, HU, HB, HO, HM, ⟨by have h1 := HN.out; rw [Nat.add_mul] at h1; omega⟩, BA⟩

end Go.Proofs.Ytegjebiocgbmpaa.P
