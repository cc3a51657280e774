/- What the claim of FnExactPrognosisOf bears, part 5: functions of the program as plain Lean functions, with proofs that the code comes to their answers, and lemmas on them. -/
import Derived.Test.YtgfpbiaocokdeaaCFnExactPrognosisOf0
import Derived.Test.YtgfpbiaocokdeaaCFnExactPrognosisOf1
import Derived.Test.YtgfpbiaocokdeaaCFnExactPrognosisOf3
import Derived.Test.YtgfpbiaocokdeaaCFnExactPrognosisOf4
import Derived.Test.YtgfpbiaocokdeaaCFnExactPrognosisOf2
set_option linter.unusedVariables false
set_option linter.unusedSimpArgs false
namespace Go.Proofs.Ytgfpbiaocokdeaa.P
open Go.RowKit Go.Proofs.YtgfpbiaocokdeaaW.PrintWords Go.Proofs.YtgfpbiaocokdeaaW.PrintLast Go.Proofs.YtgfpbiaocokdeaaW.PrintMore
attribute [local go_sem] max2_int min2_int max_two min_two max_three min_three max_four min_four   -- for this text's walks alone

def laws_FnExactPrognosisOf.f (k : Nat) (l0_0 : List Int) (l0_1 : List S55) (a1_0 : Int) (a1_1 : Int) (a1_2 : Int) (a1_3 : Int) (l1_4 : List S133) : Option (Bool) :=
 (laws_szGround.f k l0_0 l0_1 1048576).bind fun t0 => if t0 < 0 then some true else
 (laws_szAxis.f a1_0 a1_1 a1_2 a1_3 l1_4 t0).bind fun t1 => if t1 < 0 then some true else
 (laws_toGround.f k l0_0 l0_1).bind fun b0 =>
 (laws_toAxis.f k a1_0 a1_1 a1_2 a1_3 l1_4).bind fun b1 =>
 (spec_PrognosisOf.f k b0.1 b0.2 b1.1 b1.2.1 b1.2.2.1 b1.2.2.2.1 b1.2.2.2.2).bind fun bw => (impl_PrognosisOf.f k b0.1 b0.2 b1.1 b1.2.1 b1.2.2.1 b1.2.2.2.1 b1.2.2.2.2).bind fun bg =>
 (laws_eqInt64S.f k bg.1 bw.1).bind fun te => if te = true then (if bg.2 = bw.2 then (
 (laws_eqGround.f k b0.1 b0.2 b0.1 b0.2).bind fun tq0 => if tq0 = true then (
 (laws_eqAxis.f k b1.1 b1.2.1 b1.2.2.1 b1.2.2.2.1 b1.2.2.2.2 b1.1 b1.2.1 b1.2.2.1 b1.2.2.2.1 b1.2.2.2.2).bind fun tq1 => if tq1 = true then (
 (laws_markGround.f k b0.1 b0.2 1).bind fun bm0 =>
 (laws_markAxis.f k b1.1 b1.2.1 b1.2.2.1 b1.2.2.2.1 b1.2.2.2.2 bm0.1).bind fun bm1 =>
 if bm1.1 < 0 then none else (laws_markInt64S.f k bg.1 1).bind fun bk => (laws_heldInt64S.f k bk.2 1).bind fun th => if th < 0 then none else if th = bk.1 then some true else none
 ) else none) else none) else none) else none
abbrev p45_16000 : Array Bool := (fl_ 10 0).toArray
abbrev p45_16001 : Array Bool := (fl_ 10 1).toArray
abbrev p45_16002 : Array Bool := (fl_ 10 5).toArray
abbrev p45_16003 : Array Bool := (fl_ 10 7).toArray
abbrev p45_16004 : Array Bool := (fl_ 10 15).toArray
abbrev p45_16005 : Array Bool := (fl_ 10 31).toArray
abbrev p45_16006 : Array Bool := (fl_ 10 63).toArray
abbrev p45_16007 : Array Bool := (fl_ 10 127).toArray
abbrev p45_16008 : Array Bool := (fl_ 10 255).toArray
abbrev p45_16009 : Array Bool := (fl_ 10 511).toArray
abbrev p45_16010 : Array Bool := (fl_ 10 1023).toArray
set_option maxHeartbeats 8000000 in
set_option maxRecDepth 100000 in
theorem laws_FnExactPrognosisOf.calls (k : Nat) (A0_0 : Option Addr) (c0_0 : Nat) (l0_0 : List Int) (A0_1 : Option Addr) (c0_1 : Nat) (l0_1 : List S55) (a1_0 : Int) (a1_1 : Int) (a1_2 : Int) (a1_3 : Int) (A1_4 : Option Addr) (c1_4 : Nat) (l1_4 : List S133) (r : Bool) (w : World) (hr0_0 : Kd.C (Kd.int .i64) w A0_0 l0_0.length l0_0) (hc0_0 : l0_0.length ≤ c0_0) (hr0_1 : Kd.C k55 w A0_1 l0_1.length l0_1) (hc0_1 : l0_1.length ≤ c0_1) (hr1_4 : Kd.C k133 w A1_4 l1_4.length l1_4) (hc1_4 : l1_4.length ≤ c1_4) (h : laws_FnExactPrognosisOf.f k l0_0 l0_1 a1_0 a1_1 a1_2 a1_3 l1_4 = some r) :
  Calls Try.prog 9 #[.agg #[.slice A0_0 l0_0.length c0_0, .slice A0_1 l0_1.length c0_1], .agg #[.int .i64 a1_0, .int .i64 a1_1, .int .i64 a1_2, .int .i64 a1_3, .slice A1_4 l1_4.length c1_4]] w fun e w' => e = .returned (.bool r) ∧ Below w.heap.size w w' := by
 have db : ∀ {w w' : World}, Drawn0 w w' → Below w.heap.size w w' := by
  intro w w' h_; obtain ⟨n_, rfl⟩ := h_; exact pw_below_drewN (Below.refl _ _) _
 have hua0 := Try.underlying25; have hux0 := Try.underlying31; have hua1 := Try.underlying67; have hux1 := Try.underlying47; have HR0_0 := Aside0.mk hr0_0; have HC0_0 := Aside0.mk hc0_0; clear hr0_0 hc0_0; have HR0_1 := Aside0.mk hr0_1; have HC0_1 := Aside0.mk hc0_1; clear hr0_1 hc0_1; have HR1_4 := Aside0.mk hr1_4; have HC1_4 := Aside0.mk hc1_4; clear hr1_4 hc1_4; have HB := Aside0.mk (Below.refl w.heap.size w); unfold laws_FnExactPrognosisOf.f at h; replace h := Option.bind_eq_some_iff.mp h; obtain ⟨t0, A_0, h⟩ := h
 by_cases ce : t0 < 0
 ·rw [if_pos ce] at h; obtain rfl := Option.some.inj h; have ceb : decide (t0 < 0) = true := decide_eq_true ce; clear ce h; have Bt0 := Aside0.mk A_0; clear A_0
  go_enter Try.func9, Try.ntmps9
  go_wp2_with (first | ((with_reducible refine gate_dst (N := 2) rfl ?_); refine box_event (by rfl) (N := 2) (by rfl) (cs := #[.slice A0_0 l0_0.length c0_0, .slice A0_1 l0_1.length c0_1]) (t := 25) kg_ ?_; intro ga0 hga0 w1 hbox hb; have BA0 := Aside0.mk hbox; skip; have HB_ := Aside0.mk (below_step HB.out hb); clear hb hbox hga0; clear HB; have HB := HB_; clear HB_; obtain ⟨hcBA00, hcBA01, hfBA00, hfBA01⟩ := cl2_ BA0.out) | ((with_reducible refine gate_dst (N := 3) rfl ?_); refine box_event (by rfl) (N := 3) (by rfl) (cs := #[.int .i64 a1_0, .int .i64 a1_1, .int .i64 a1_2, .int .i64 a1_3, .slice A1_4 l1_4.length c1_4]) (t := 67) kg_ ?_; intro ga1 hga1 w2 hbox hb; have BA1 := Aside0.mk hbox; have NA1BA0 := Aside0.mk ((by rw [hga1]; exact Nat.ne_of_lt (blk_lt BA0.out)) : ga0 ≠ ga1); have HB_ := Aside0.mk (below_step HB.out hb); have BA0_ := Aside0.mk (blk_below BA0.out hb); clear hb hbox hga1; clear HB BA0; have HB := HB_; have BA0 := BA0_; clear HB_ BA0_; clear hcBA00 hfBA00 hcBA01 hfBA01; obtain ⟨hcBA00, hcBA01, hfBA00, hfBA01⟩ := cl2_ BA0.out; obtain ⟨hcBA10, hcBA11, hcBA12, hcBA13, hcBA14, hfBA10, hfBA11, hfBA12, hfBA13, hfBA14⟩ := cl5_ BA1.out) | (go_at_call 10; (with_reducible refine (laws_szGround.calls k A0_0 c0_0 l0_0 A0_1 c0_1 l0_1 1048576 t0 _ (Kd.C_below HR0_0.out HB.out) HC0_0.out (Kd.C_below HR0_1.out HB.out) HC0_1.out Bt0.out).mono ?_); rintro e w3 ⟨rfl, hb⟩; have HB_ := Aside0.mk (below_step HB.out hb); have BA0_ := Aside0.mk (blk_below BA0.out hb); have BA1_ := Aside0.mk (blk_below BA1.out hb); clear hb; clear HB BA0 BA1; have HB := HB_; have BA0 := BA0_; have BA1 := BA1_; clear HB_ BA0_ BA1_; clear hcBA00 hfBA00 hcBA01 hfBA01 hcBA10 hfBA10 hcBA11 hfBA11 hcBA12 hfBA12 hcBA13 hfBA13 hcBA14 hfBA14; obtain ⟨hcBA00, hcBA01, hfBA00, hfBA01⟩ := cl2_ BA0.out; obtain ⟨hcBA10, hcBA11, hcBA12, hcBA13, hcBA14, hfBA10, hfBA11, hfBA12, hfBA13, hfBA14⟩ := cl5_ BA1.out))
  go_ret
  exact ⟨by first | rfl | (simp; done) | (simp [*]; done) | (simp [tz_, *]; done), kh0_ HB.out⟩
 ·rw [if_neg ce] at h; have cebt0 : decide (t0 < 0) = false := decide_eq_false ce; clear ce; replace h := Option.bind_eq_some_iff.mp h; obtain ⟨t1, A_1, h⟩ := h
  by_cases ce : t1 < 0
  ·rw [if_pos ce] at h; obtain rfl := Option.some.inj h; have ceb : decide (t1 < 0) = true := decide_eq_true ce; clear ce h; have Bt0 := Aside0.mk A_0; clear A_0; have Bt1 := Aside0.mk A_1; clear A_1
   go_enter Try.func9, Try.ntmps9
   go_wp2_with (first | ((with_reducible refine gate_dst (N := 2) rfl ?_); refine box_event (by rfl) (N := 2) (by rfl) (cs := #[.slice A0_0 l0_0.length c0_0, .slice A0_1 l0_1.length c0_1]) (t := 25) kg_ ?_; intro ga0 hga0 w1 hbox hb; have BA0 := Aside0.mk hbox; skip; have HB_ := Aside0.mk (below_step HB.out hb); clear hb hbox hga0; clear HB; have HB := HB_; clear HB_; obtain ⟨hcBA00, hcBA01, hfBA00, hfBA01⟩ := cl2_ BA0.out) | ((with_reducible refine gate_dst (N := 3) rfl ?_); refine box_event (by rfl) (N := 3) (by rfl) (cs := #[.int .i64 a1_0, .int .i64 a1_1, .int .i64 a1_2, .int .i64 a1_3, .slice A1_4 l1_4.length c1_4]) (t := 67) kg_ ?_; intro ga1 hga1 w2 hbox hb; have BA1 := Aside0.mk hbox; have NA1BA0 := Aside0.mk ((by rw [hga1]; exact Nat.ne_of_lt (blk_lt BA0.out)) : ga0 ≠ ga1); have HB_ := Aside0.mk (below_step HB.out hb); have BA0_ := Aside0.mk (blk_below BA0.out hb); clear hb hbox hga1; clear HB BA0; have HB := HB_; have BA0 := BA0_; clear HB_ BA0_; clear hcBA00 hfBA00 hcBA01 hfBA01; obtain ⟨hcBA00, hcBA01, hfBA00, hfBA01⟩ := cl2_ BA0.out; obtain ⟨hcBA10, hcBA11, hcBA12, hcBA13, hcBA14, hfBA10, hfBA11, hfBA12, hfBA13, hfBA14⟩ := cl5_ BA1.out) | (go_at_call 10; (with_reducible refine (laws_szGround.calls k A0_0 c0_0 l0_0 A0_1 c0_1 l0_1 1048576 t0 _ (Kd.C_below HR0_0.out HB.out) HC0_0.out (Kd.C_below HR0_1.out HB.out) HC0_1.out Bt0.out).mono ?_); rintro e w3 ⟨rfl, hb⟩; have HB_ := Aside0.mk (below_step HB.out hb); have BA0_ := Aside0.mk (blk_below BA0.out hb); have BA1_ := Aside0.mk (blk_below BA1.out hb); clear hb; clear HB BA0 BA1; have HB := HB_; have BA0 := BA0_; have BA1 := BA1_; clear HB_ BA0_ BA1_; clear hcBA00 hfBA00 hcBA01 hfBA01 hcBA10 hfBA10 hcBA11 hfBA11 hcBA12 hfBA12 hcBA13 hfBA13 hcBA14 hfBA14; obtain ⟨hcBA00, hcBA01, hfBA00, hfBA01⟩ := cl2_ BA0.out; obtain ⟨hcBA10, hcBA11, hcBA12, hcBA13, hcBA14, hfBA10, hfBA11, hfBA12, hfBA13, hfBA14⟩ := cl5_ BA1.out) | (go_at_call 38; (with_reducible refine (laws_szAxis.calls a1_0 a1_1 a1_2 a1_3 A1_4 c1_4 l1_4 t0 t1 _ (Kd.C_below HR1_4.out HB.out) HC1_4.out Bt1.out).mono ?_); rintro e w4 ⟨rfl, hb⟩; have HB_ := Aside0.mk (below_step HB.out hb); have BA0_ := Aside0.mk (blk_below BA0.out hb); have BA1_ := Aside0.mk (blk_below BA1.out hb); clear hb; clear HB BA0 BA1; have HB := HB_; have BA0 := BA0_; have BA1 := BA1_; clear HB_ BA0_ BA1_; clear hcBA00 hfBA00 hcBA01 hfBA01 hcBA10 hfBA10 hcBA11 hfBA11 hcBA12 hfBA12 hcBA13 hfBA13 hcBA14 hfBA14; obtain ⟨hcBA00, hcBA01, hfBA00, hfBA01⟩ := cl2_ BA0.out; obtain ⟨hcBA10, hcBA11, hcBA12, hcBA13, hcBA14, hfBA10, hfBA11, hfBA12, hfBA13, hfBA14⟩ := cl5_ BA1.out))
   go_ret
   exact ⟨by first | rfl | (simp; done) | (simp [*]; done) | (simp [tz_, *]; done), kh0_ HB.out⟩
  ·rw [if_neg ce] at h; have cebt1 : decide (t1 < 0) = false := decide_eq_false ce; clear ce; replace h := Option.bind_eq_some_iff.mp h; obtain ⟨⟨x0_0, x0_1⟩, AT0, h⟩ := h; replace h := Option.bind_eq_some_iff.mp h; obtain ⟨⟨x1_0, x1_1, x1_2, x1_3, x1_4⟩, AT1, h⟩ := h; replace h := Option.bind_eq_some_iff.mp h; obtain ⟨⟨s0, s1⟩, AW, h⟩ := h; replace h := Option.bind_eq_some_iff.mp h; obtain ⟨⟨g0, g1⟩, AG, h⟩ := h; replace h := Option.bind_eq_some_iff.mp h; obtain ⟨te, AE, h⟩ := h; dsimp only at AW AG AE h; (have h5 : te = true := by by_cases c : te = true; exact c; rw [if_neg c] at h; exact absurd h (by simp)); rw [if_pos h5] at h; subst h5; (have c6 : g1 = s1 := by by_cases c : g1 = s1; exact c; rw [if_neg c] at h; exact absurd h (by simp)); rw [if_pos c6] at h; (have cAg1 : (g1 != s1) = false := by simpa using c6); (have cBg1 : decide (g1 = s1) = true := by simpa using c6); (have cCg1 : (g1 == s1) = true := by simpa using c6); clear c6; replace h := Option.bind_eq_some_iff.mp h; obtain ⟨tq0, AQ0, h⟩ := h; (have h5 : tq0 = true := by by_cases c : tq0 = true; exact c; rw [if_neg c] at h; exact absurd h (by simp)); rw [if_pos h5] at h; subst h5; replace h := Option.bind_eq_some_iff.mp h; obtain ⟨tq1, AQ1, h⟩ := h; (have h5 : tq1 = true := by by_cases c : tq1 = true; exact c; rw [if_neg c] at h; exact absurd h (by simp)); rw [if_pos h5] at h; subst h5; replace h := Option.bind_eq_some_iff.mp h; obtain ⟨⟨q0, m0_0, m0_1⟩, AM0, h⟩ := h; dsimp only at h; replace h := Option.bind_eq_some_iff.mp h; obtain ⟨⟨q1, m1_0⟩, AM1, h⟩ := h; dsimp only at h; (have c8 : ¬ q1 < 0 := by intro c; rw [if_pos c] at h; exact absurd h (by simp)); rw [if_neg c8] at h; have c8b0 : decide (q1 < 0) = false := decide_eq_false c8; clear c8; replace h := Option.bind_eq_some_iff.mp h; obtain ⟨⟨qk, lk⟩, AK, h⟩ := h; replace h := Option.bind_eq_some_iff.mp h; obtain ⟨th, AH, h⟩ := h; dsimp only at AH h; (try dsimp only at AM1); (have c11 : ¬ th < 0 := by intro c; rw [if_pos c] at h; exact absurd h (by simp)); rw [if_neg c11] at h; have c11b0 : decide (th < 0) = false := decide_eq_false c11; clear c11; (have c12 : th = qk := by by_cases c : th = qk; exact c; rw [if_neg c] at h; exact absurd h (by simp)); rw [if_pos c12] at h; have hr := Option.some.inj h; clear h; subst c12; subst hr; have Bt0 := Aside0.mk A_0; clear A_0; have Bt1 := Aside0.mk A_1; clear A_1; have BT0 := Aside0.mk AT0; clear AT0; have BT1 := Aside0.mk AT1; clear AT1; have BW := Aside0.mk AW; clear AW; have BG := Aside0.mk AG; clear AG; have BE := Aside0.mk AE; clear AE; have BQ0 := Aside0.mk AQ0; clear AQ0; have BQ1 := Aside0.mk AQ1; clear AQ1; have BM0 := Aside0.mk AM0; clear AM0; have BM1 := Aside0.mk AM1; clear AM1; have BK := Aside0.mk AK; clear AK; have BH := Aside0.mk AH; clear AH; have DB := Aside0.mk @db; clear db
   go_enter Try.func9, Try.ntmps9
   go_wp2_with (first | ((with_reducible refine gate_dst (N := 2) rfl ?_); refine box_event (by rfl) (N := 2) (by rfl) (cs := #[.slice A0_0 l0_0.length c0_0, .slice A0_1 l0_1.length c0_1]) (t := 25) kg_ ?_; intro ga0 hga0 w1 hbox hb; have BA0 := Aside0.mk hbox; skip; have HB_ := Aside0.mk (below_step HB.out hb); clear hb hbox hga0; clear HB; have HB := HB_; clear HB_; obtain ⟨hcBA00, hcBA01, hfBA00, hfBA01⟩ := cl2_ BA0.out) | ((with_reducible refine gate_dst (N := 3) rfl ?_); refine box_event (by rfl) (N := 3) (by rfl) (cs := #[.int .i64 a1_0, .int .i64 a1_1, .int .i64 a1_2, .int .i64 a1_3, .slice A1_4 l1_4.length c1_4]) (t := 67) kg_ ?_; intro ga1 hga1 w2 hbox hb; have BA1 := Aside0.mk hbox; have NA1BA0 := Aside0.mk ((by rw [hga1]; exact Nat.ne_of_lt (blk_lt BA0.out)) : ga0 ≠ ga1); have HB_ := Aside0.mk (below_step HB.out hb); have BA0_ := Aside0.mk (blk_below BA0.out hb); clear hb hbox hga1; clear HB BA0; have HB := HB_; have BA0 := BA0_; clear HB_ BA0_; clear hcBA00 hfBA00 hcBA01 hfBA01; obtain ⟨hcBA00, hcBA01, hfBA00, hfBA01⟩ := cl2_ BA0.out; obtain ⟨hcBA10, hcBA11, hcBA12, hcBA13, hcBA14, hfBA10, hfBA11, hfBA12, hfBA13, hfBA14⟩ := cl5_ BA1.out) | (go_at_call 10; (with_reducible refine (laws_szGround.calls k A0_0 c0_0 l0_0 A0_1 c0_1 l0_1 1048576 t0 _ (Kd.C_below HR0_0.out HB.out) HC0_0.out (Kd.C_below HR0_1.out HB.out) HC0_1.out Bt0.out).mono ?_); rintro e w3 ⟨rfl, hb⟩; have HB_ := Aside0.mk (below_step HB.out hb); have BA0_ := Aside0.mk (blk_below BA0.out hb); have BA1_ := Aside0.mk (blk_below BA1.out hb); clear hb; clear HB BA0 BA1; have HB := HB_; have BA0 := BA0_; have BA1 := BA1_; clear HB_ BA0_ BA1_; clear hcBA00 hfBA00 hcBA01 hfBA01 hcBA10 hfBA10 hcBA11 hfBA11 hcBA12 hfBA12 hcBA13 hfBA13 hcBA14 hfBA14; obtain ⟨hcBA00, hcBA01, hfBA00, hfBA01⟩ := cl2_ BA0.out; obtain ⟨hcBA10, hcBA11, hcBA12, hcBA13, hcBA14, hfBA10, hfBA11, hfBA12, hfBA13, hfBA14⟩ := cl5_ BA1.out) | (go_at_call 38; (with_reducible refine (laws_szAxis.calls a1_0 a1_1 a1_2 a1_3 A1_4 c1_4 l1_4 t0 t1 _ (Kd.C_below HR1_4.out HB.out) HC1_4.out Bt1.out).mono ?_); rintro e w4 ⟨rfl, hb⟩; have HB_ := Aside0.mk (below_step HB.out hb); have BA0_ := Aside0.mk (blk_below BA0.out hb); have BA1_ := Aside0.mk (blk_below BA1.out hb); clear hb; clear HB BA0 BA1; have HB := HB_; have BA0 := BA0_; have BA1 := BA1_; clear HB_ BA0_ BA1_; clear hcBA00 hfBA00 hcBA01 hfBA01 hcBA10 hfBA10 hcBA11 hfBA11 hcBA12 hfBA12 hcBA13 hfBA13 hcBA14 hfBA14; obtain ⟨hcBA00, hcBA01, hfBA00, hfBA01⟩ := cl2_ BA0.out; obtain ⟨hcBA10, hcBA11, hcBA12, hcBA13, hcBA14, hfBA10, hfBA11, hfBA12, hfBA13, hfBA14⟩ := cl5_ BA1.out))
   (try go_wp2); have BA0_ := Aside0.mk (blk_drew BA0.out); have BA1_ := Aside0.mk (blk_drew BA1.out); have HB_ := Aside0.mk (below_drew1 HB.out); clear BA0 BA1 HB; have BA0 := BA0_; have BA1 := BA1_; have HB := HB_; clear BA0_ BA1_ HB_; clear hcBA00 hfBA00 hcBA01 hfBA01 hcBA10 hfBA10 hcBA11 hfBA11 hcBA12 hfBA12 hcBA13 hfBA13 hcBA14 hfBA14; refine start_ (n := 10) (S := fun w' => w'.cell? ⟨ga0, 0, none⟩ = some (.slice A0_0 l0_0.length c0_0) ∧ w'.cell? ⟨ga0, 1, none⟩ = some (.slice A0_1 l0_1.length c0_1) ∧ w'.cell? ⟨ga1, 0, none⟩ = some (.int .i64 a1_0) ∧ w'.cell? ⟨ga1, 1, none⟩ = some (.int .i64 a1_1) ∧ w'.cell? ⟨ga1, 2, none⟩ = some (.int .i64 a1_2) ∧ w'.cell? ⟨ga1, 3, none⟩ = some (.int .i64 a1_3) ∧ w'.cell? ⟨ga1, 4, none⟩ = some (.slice A1_4 l1_4.length c1_4)) (ds := []) p45_16000 kr_ rfl rfl ⟨(blk_cell BA0.out 0).trans rfl, (blk_cell BA0.out 1).trans rfl, (blk_cell BA1.out 0).trans rfl, (blk_cell BA1.out 1).trans rfl, (blk_cell BA1.out 2).trans rfl, (blk_cell BA1.out 3).trans rfl, (blk_cell BA1.out 4).trans rfl⟩ (fun hHeld => ?_); generalize w4.drew = w5 at BA0 BA1 HB hHeld ⊢; refine take_ (i := 0) (N := some 28) (v := ?_) (a' := ?_) p45_16001 rfl rfl kr_ (fun _ _ _ h => h) (Or.inl ⟨by rfl, ?_⟩) hHeld ?_ ?_; rotate_left
   ·rintro w' ⟨s0_, s1_, s2_, s3_, s4_, s5_, s6_⟩; go_simp; with_reducible rfl
   rotate_left
   ·simp only [Act.put, qa_, qz_, qs_, i64_w, i32_w]; rfl
   refine take_ (i := 2) (N := some 30) (v := ?_) (a' := ?_) p45_16002 rfl rfl kr_ (fun _ _ _ h => h) (Or.inl ⟨by rfl, ?_⟩) hHeld ?_ ?_; rotate_left
   ·rintro w' ⟨s0_, s1_, s2_, s3_, s4_, s5_, s6_⟩; go_simp; with_reducible rfl
   rotate_left
   ·simp only [Act.put, qa_, qz_, qs_, i64_w, i32_w]; rfl
   refine one_ (i := 1) (N := some 29) p45_16003 rfl rfl kr_ (by decide) (fun K hK => ?_); refine goes_ Try.func12 kr_ rfl #[.agg #[.slice A0_0 l0_0.length c0_0, .slice A0_1 l0_1.length c0_1]] (by rfl) rfl rfl km_ ?_
   (with_reducible refine (laws_toGround.calls k A0_0 c0_0 l0_0 A0_1 c0_1 l0_1 x0_0 x0_1 _ (Kd.C_below HR0_0.out HB.out) HC0_0.out (Kd.C_below HR0_1.out HB.out) HC0_1.out BT0.out).mono ?_)
   rintro e w6 ⟨v0, v1, rfl, ho0, ho1, hb⟩; refine ⟨_, rfl, ?_⟩; have HX0_0 := Aside0.mk ho0; have HX0_1 := Aside0.mk ho1; have HB_ := Aside0.mk (below_step HB.out hb); have BA0_ := Aside0.mk (blk_below BA0.out hb); have BA1_ := Aside0.mk (blk_below BA1.out hb); clear hb ho0 ho1; clear HB BA0 BA1; have HB := HB_; have BA0 := BA0_; have BA1 := BA1_; clear HB_ BA0_ BA1_; obtain ⟨hcBA00, hcBA01, hfBA00, hfBA01⟩ := cl2_ BA0.out; obtain ⟨hcBA10, hcBA11, hcBA12, hcBA13, hcBA14, hfBA10, hfBA11, hfBA12, hfBA13, hfBA14⟩ := cl5_ BA1.out; clear hcBA00 hfBA00 hcBA01 hfBA01 hcBA10 hfBA10 hcBA11 hfBA11 hcBA12 hfBA12 hcBA13 hfBA13 hcBA14 hfBA14; obtain ⟨Ar0_0, cr0_0, er0_0⟩ := Kd.R_slice HX0_0.out; subst er0_0; obtain ⟨Ar0_1, cr0_1, er0_1⟩ := Kd.S_slice HX0_1.out; subst er0_1; refine hK.out _ _ ⟨(blk_cell BA0.out 0).trans rfl, (blk_cell BA0.out 1).trans rfl, (blk_cell BA1.out 0).trans rfl, (blk_cell BA1.out 1).trans rfl, (blk_cell BA1.out 2).trans rfl, (blk_cell BA1.out 3).trans rfl, (blk_cell BA1.out 4).trans rfl⟩ (fun hHeld => ?_); clear hK K; refine norm_ (a' := ?_) ?_ ?_; rotate_left
   ·show Act.put _ (some 29) _ = _
    simp only [Act.put, qa_, qz_, qs_, i64_w, i32_w]; rfl
   refine one_ (i := 3) (N := some 31) p45_16004 rfl rfl kr_ (by decide) (fun K hK => ?_); refine goes_ Try.func40 kr_ rfl #[.agg #[.int .i64 a1_0, .int .i64 a1_1, .int .i64 a1_2, .int .i64 a1_3, .slice A1_4 l1_4.length c1_4]] (by rfl) rfl rfl km_ ?_
   (with_reducible refine (laws_toAxis.calls k a1_0 a1_1 a1_2 a1_3 A1_4 c1_4 l1_4 x1_0 x1_1 x1_2 x1_3 x1_4 _ (Kd.C_below HR1_4.out HB.out) HC1_4.out BT1.out).mono ?_)
   rintro e w7 ⟨v0, rfl, ho0, hb⟩; refine ⟨_, rfl, ?_⟩; have HX1_4 := Aside0.mk ho0; have HB_ := Aside0.mk (below_step HB.out hb); have BA0_ := Aside0.mk (blk_below BA0.out hb); have BA1_ := Aside0.mk (blk_below BA1.out hb); have HX0_0_ := Aside0.mk (Kd.R_below HX0_0.out hb); have HX0_1_ := Aside0.mk (Kd.S_below HX0_1.out hb); clear hb ho0; clear HB BA0 BA1 HX0_0 HX0_1; have HB := HB_; have BA0 := BA0_; have BA1 := BA1_; have HX0_0 := HX0_0_; have HX0_1 := HX0_1_; clear HB_ BA0_ BA1_ HX0_0_ HX0_1_; obtain ⟨hcBA00, hcBA01, hfBA00, hfBA01⟩ := cl2_ BA0.out; obtain ⟨hcBA10, hcBA11, hcBA12, hcBA13, hcBA14, hfBA10, hfBA11, hfBA12, hfBA13, hfBA14⟩ := cl5_ BA1.out; clear hcBA00 hfBA00 hcBA01 hfBA01 hcBA10 hfBA10 hcBA11 hfBA11 hcBA12 hfBA12 hcBA13 hfBA13 hcBA14 hfBA14; obtain ⟨Ar1_4, cr1_4, er1_4⟩ := Kd.R_slice HX1_4.out; subst er1_4; refine hK.out _ _ ⟨(blk_cell BA0.out 0).trans rfl, (blk_cell BA0.out 1).trans rfl, (blk_cell BA1.out 0).trans rfl, (blk_cell BA1.out 1).trans rfl, (blk_cell BA1.out 2).trans rfl, (blk_cell BA1.out 3).trans rfl, (blk_cell BA1.out 4).trans rfl⟩ (fun hHeld => ?_); clear hK K; refine norm_ (a' := ?_) ?_ ?_; rotate_left
   ·show Act.put _ (some 31) _ = _
    simp only [Act.put, qa_, qz_, qs_, i64_w, i32_w]; rfl
   refine one_ (i := 4) (N := some 32) p45_16005 rfl rfl kr_ (by decide) (fun K hK => ?_); refine goes_ Try.func44 kr_ rfl #[.agg #[.slice Ar0_0 x0_0.length cr0_0, .slice Ar0_1 x0_1.length cr0_1], .agg #[.int .i64 x1_0, .int .i64 x1_1, .int .i64 x1_2, .int .i64 x1_3, .slice Ar1_4 x1_4.length cr1_4]] (by rfl) rfl rfl km_ ?_
   (with_reducible refine (spec_PrognosisOf.calls k Ar0_0 cr0_0 x0_0 Ar0_1 cr0_1 x0_1 x1_0 x1_1 x1_2 x1_3 Ar1_4 cr1_4 x1_4 s0 s1 _ (Kd.R_reads' HX0_0.out).2.2 (Kd.R_reads' HX0_0.out).2.1 (Kd.S_reads' HX0_1.out).2.2 (Kd.S_reads' HX0_1.out).2.1 (Kd.R_reads' HX1_4.out).2.2 (Kd.R_reads' HX1_4.out).2.1 BW.out).mono ?_)
   rintro e w8 ⟨v0, rfl, ho, hb⟩; refine ⟨_, rfl, ?_⟩; have HO := Aside0.mk ho; have HB_ := Aside0.mk (below_step HB.out hb); have BA0_ := Aside0.mk (blk_below BA0.out hb); have BA1_ := Aside0.mk (blk_below BA1.out hb); clear hb ho HX0_0 HX0_1 HX1_4; clear HB BA0 BA1; have HB := HB_; have BA0 := BA0_; have BA1 := BA1_; clear HB_ BA0_ BA1_; obtain ⟨hcBA00, hcBA01, hfBA00, hfBA01⟩ := cl2_ BA0.out; obtain ⟨hcBA10, hcBA11, hcBA12, hcBA13, hcBA14, hfBA10, hfBA11, hfBA12, hfBA13, hfBA14⟩ := cl5_ BA1.out; clear hcBA00 hfBA00 hcBA01 hfBA01 hcBA10 hfBA10 hcBA11 hfBA11 hcBA12 hfBA12 hcBA13 hfBA13 hcBA14 hfBA14; refine hK.out _ _ ⟨(blk_cell BA0.out 0).trans rfl, (blk_cell BA0.out 1).trans rfl, (blk_cell BA1.out 0).trans rfl, (blk_cell BA1.out 1).trans rfl, (blk_cell BA1.out 2).trans rfl, (blk_cell BA1.out 3).trans rfl, (blk_cell BA1.out 4).trans rfl⟩ (fun hHeld => ?_); clear hK K; refine norm_ (a' := ?_) ?_ ?_; rotate_left
   ·show Act.put _ (some 32) _ = _
    simp only [Act.put, qa_, qz_, qs_, i64_w, i32_w]; rfl
   refine pure_ (i := 5) (N := some 27) (v := ?_) (a' := ?_) p45_16006 rfl rfl kr_ (fun _ _ _ h => h) (Or.inl ⟨by rfl, ?_⟩) ?_ ?_; rotate_left
   ·intro w'; go_simp; with_reducible rfl
   rotate_left
   ·simp only [Act.put, qa_, qz_, qs_, i64_w, i32_w]; rfl
   refine pure_ (i := 6) (N := some 33) (v := ?_) (a' := ?_) p45_16007 rfl rfl kr_ (fun _ _ _ h => h) (Or.inl ⟨by rfl, ?_⟩) ?_ ?_; rotate_left
   ·intro w'; go_simp; with_reducible rfl
   rotate_left
   ·simp only [Act.put, qa_, qz_, qs_, i64_w, i32_w]; rfl
   refine pure_ (i := 7) (N := some 34) (v := ?_) (a' := ?_) p45_16008 rfl rfl kr_ (fun _ _ _ h => h) (Or.inl ⟨by rfl, ?_⟩) ?_ ?_; rotate_left
   ·intro w'; go_simp; with_reducible rfl
   rotate_left
   ·simp only [Act.put, qa_, qz_, qs_, i64_w, i32_w]; rfl
   refine pure_ (i := 8) (N := some 6) (v := ?_) (a' := ?_) p45_16009 rfl rfl kr_ (fun _ _ _ h => h) (Or.inl ⟨by rfl, ?_⟩) ?_ ?_; rotate_left
   ·intro w'; go_simp; with_reducible rfl
   rotate_left
   ·simp only [Act.put, qa_, qz_, qs_, i64_w, i32_w]; rfl
   refine pure_ (i := 9) (N := some 7) (v := ?_) (a' := ?_) p45_16010 rfl rfl kr_ (fun _ _ _ h => h) (Or.inl ⟨by rfl, ?_⟩) ?_ ?_; rotate_left
   ·intro w'; go_simp; with_reducible rfl
   rotate_left
   ·simp only [Act.put, qa_, qz_, qs_, i64_w, i32_w]; rfl
   refine done_ kr_ ?_; obtain ⟨hcBA00, hcBA01, hfBA00, hfBA01⟩ := cl2_ BA0.out; obtain ⟨hcBA10, hcBA11, hcBA12, hcBA13, hcBA14, hfBA10, hfBA11, hfBA12, hfBA13, hfBA14⟩ := cl5_ BA1.out; obtain ⟨As, cs, es⟩ := Kd.R_slice HO.out; subst es; have HS := Aside0.mk (Kd.R_mono (ok' := fun q => q < w8.heap.size) (Kd.R_bound HO.out) (fun q hq => hq.2.2.1)); clear HO; have HA_ := Aside0.mk HB.out.size; have HA0 := Aside0.mk (blk_lt BA0.out); have HA1 := Aside0.mk (blk_lt BA1.out); have N0 := Aside0.mk HB.out.size
   go_wp2_with (first | (go_at_call 12; (with_reducible refine (laws_toGround.calls k A0_0 c0_0 l0_0 A0_1 c0_1 l0_1 x0_0 x0_1 _ (Kd.C_below HR0_0.out HB.out) HC0_0.out (Kd.C_below HR0_1.out HB.out) HC0_1.out BT0.out).mono ?_); rintro e w9 ⟨v0, v1, rfl, ho0, ho1, hb⟩; have HX0_0 := Aside0.mk ho0; have HX0_1 := Aside0.mk ho1; have Z1 := Aside0.mk (hb.size); have HB_ := Aside0.mk (below_step HB.out hb); have BA0_ := Aside0.mk (blk_below BA0.out hb); have BA1_ := Aside0.mk (blk_below BA1.out hb); have HS_ := Aside0.mk (Kd.R_below HS.out hb); clear hb ho0 ho1; clear HB BA0 BA1 HS; have HB := HB_; have BA0 := BA0_; have BA1 := BA1_; have HS := HS_; clear HB_ BA0_ BA1_ HS_; clear hcBA00 hfBA00 hcBA01 hfBA01 hcBA10 hfBA10 hcBA11 hfBA11 hcBA12 hfBA12 hcBA13 hfBA13 hcBA14 hfBA14; obtain ⟨hcBA00, hcBA01, hfBA00, hfBA01⟩ := cl2_ BA0.out; obtain ⟨hcBA10, hcBA11, hcBA12, hcBA13, hcBA14, hfBA10, hfBA11, hfBA12, hfBA13, hfBA14⟩ := cl5_ BA1.out; obtain ⟨Ax0_0, cx0_0, ex0_0⟩ := Kd.R_slice HX0_0.out; subst ex0_0; obtain ⟨Ax0_1, cx0_1, ex0_1⟩ := Kd.S_slice HX0_1.out; subst ex0_1; have HY0_0 := Aside0.mk (Kd.R_mono (ok' := (fun q => (w8.heap.size ≤ q ∧ q < w9.heap.size) ∧ some q = (.slice Ax0_0 x0_0.length cx0_0 : Value).ownBlock)) (Kd.R_bound (Kd.R_tight2 rfl HX0_0.out)) (fun q hq => ⟨⟨hq.2.1, hq.2.2.1⟩, hq.1.1⟩)); have HY0_1 := Aside0.mk (Kd.S_mono (ok' := (fun q => (w8.heap.size ≤ q ∧ q < w9.heap.size) ∧ some q ≠ (.slice Ax0_0 x0_0.length cx0_0 : Value).ownBlock)) (Kd.S_bound HX0_1.out) (fun q hq => ⟨⟨hq.2.1, hq.2.2.1⟩, hq.1⟩)); clear HX0_0 HX0_1) | ((with_reducible refine gate_dst (N := 8) rfl ?_); refine box_event (by rfl) (N := 8) (by rfl) (cs := #[.slice none 0 0, .slice none 0 0]) (t := 31) kg_ ?_; intro gx0 hgx w10 hbox hb; have NX0BA0 := Aside0.mk ((by rw [hgx]; exact Nat.ne_of_lt (blk_lt BA0.out)) : ga0 ≠ gx0); have NX0BA1 := Aside0.mk ((by rw [hgx]; exact Nat.ne_of_lt (blk_lt BA1.out)) : ga1 ≠ gx0); have GX0 := Aside0.mk ((by rw [hgx]; exact Nat.le_refl _) : w9.heap.size ≤ gx0); have GY0 := Aside0.mk ((blk_lt hbox) : gx0 < w10.heap.size); have BX0 := Aside0.mk hbox; have HB_ := Aside0.mk (below_step HB.out hb); have BA0_ := Aside0.mk (blk_below BA0.out hb); have BA1_ := Aside0.mk (blk_below BA1.out hb); have HS_ := Aside0.mk (Kd.R_below HS.out hb); have HY0_0_ := Aside0.mk (Kd.R_below HY0_0.out hb); have HY0_1_ := Aside0.mk (Kd.S_below HY0_1.out hb); clear hb hbox hgx; clear HB BA0 BA1 HS HY0_0 HY0_1; have HB := HB_; have BA0 := BA0_; have BA1 := BA1_; have HS := HS_; have HY0_0 := HY0_0_; have HY0_1 := HY0_1_; clear HB_ BA0_ BA1_ HS_ HY0_0_ HY0_1_; clear hcBA00 hfBA00 hcBA01 hfBA01 hcBA10 hfBA10 hcBA11 hfBA11 hcBA12 hfBA12 hcBA13 hfBA13 hcBA14 hfBA14; obtain ⟨hcBA00, hcBA01, hfBA00, hfBA01⟩ := cl2_ BA0.out; obtain ⟨hcBA10, hcBA11, hcBA12, hcBA13, hcBA14, hfBA10, hfBA11, hfBA12, hfBA13, hfBA14⟩ := cl5_ BA1.out; have hcBX00 : w10.cell? ⟨gx0, 0, none⟩ = some (.slice none 0 0) := (blk_cell BX0.out 0).trans rfl; have hfBX00 := blk_frozen BX0.out 0; have hcBX01 : w10.cell? ⟨gx0, 1, none⟩ = some (.slice none 0 0) := (blk_cell BX0.out 1).trans rfl; have hfBX01 := blk_frozen BX0.out 1; have hn0BA0 := NX0BA0.out; have hn0BA1 := NX0BA1.out; have hm0BA0 := NX0BA0.out.symm; have hm0BA1 := NX0BA1.out.symm))
   have HB_ : Aside0 (Below w.heap.size w ((w10.setCell ⟨gx0, 0, none⟩ (.slice Ax0_0 x0_0.length cx0_0)).setCell ⟨gx0, 1, none⟩ (.slice Ax0_1 x0_1.length cx0_1))) := Aside0.mk (below_set (j := 1) (v := .slice Ax0_1 x0_1.length cx0_1) (below_set (j := 0) (v := .slice Ax0_0 x0_0.length cx0_0) HB.out (by have z0_ := HA0.out; have z1_ := HA1.out; have z2_ := Z1.out; have z3_ := GX0.out; have z4_ := GY0.out; have z5_ := N0.out; omega)) (by have z0_ := HA0.out; have z1_ := HA1.out; have z2_ := Z1.out; have z3_ := GX0.out; have z4_ := GY0.out; have z5_ := N0.out; omega)); have BA0_ := Aside0.mk (show (World.heap ((w10.setCell ⟨gx0, 0, none⟩ (.slice Ax0_0 x0_0.length cx0_0)).setCell ⟨gx0, 1, none⟩ (.slice Ax0_1 x0_1.length cx0_1)))[ga0]? = some (.cells #[.slice A0_0 l0_0.length c0_0, .slice A0_1 l0_1.length c0_1] 25 (0, 0)) from (blk_far (blk_far BA0.out NX0BA0.out (.slice Ax0_0 x0_0.length cx0_0)) NX0BA0.out (.slice Ax0_1 x0_1.length cx0_1))); have BA1_ := Aside0.mk (show (World.heap ((w10.setCell ⟨gx0, 0, none⟩ (.slice Ax0_0 x0_0.length cx0_0)).setCell ⟨gx0, 1, none⟩ (.slice Ax0_1 x0_1.length cx0_1)))[ga1]? = some (.cells #[.int .i64 a1_0, .int .i64 a1_1, .int .i64 a1_2, .int .i64 a1_3, .slice A1_4 l1_4.length c1_4] 67 (0, 0)) from (blk_far (blk_far BA1.out NX0BA1.out (.slice Ax0_0 x0_0.length cx0_0)) NX0BA1.out (.slice Ax0_1 x0_1.length cx0_1))); have BX0_ := Aside0.mk (show (World.heap ((w10.setCell ⟨gx0, 0, none⟩ (.slice Ax0_0 x0_0.length cx0_0)).setCell ⟨gx0, 1, none⟩ (.slice Ax0_1 x0_1.length cx0_1)))[gx0]? = some (.cells #[.slice Ax0_0 x0_0.length cx0_0, .slice Ax0_1 x0_1.length cx0_1] 31 (0, 0)) from (blk_put (g := gx0) (cs := #[.slice Ax0_0 x0_0.length cx0_0, .slice none 0 0]) (blk_put (g := gx0) (cs := #[.slice none 0 0, .slice none 0 0]) BX0.out 0 (.slice Ax0_0 x0_0.length cx0_0) rfl) 1 (.slice Ax0_1 x0_1.length cx0_1) rfl)); have HS_ := Aside0.mk (Kd.R_far (p := ⟨gx0, 1, none⟩) (Kd.R_far (p := ⟨gx0, 0, none⟩) HS.out (fun q hq => Nat.ne_of_lt (Nat.lt_of_lt_of_le hq (show w8.heap.size ≤ gx0 from by have z0_ := HA0.out; have z1_ := HA1.out; have z2_ := Z1.out; have z3_ := GX0.out; have z4_ := GY0.out; have z5_ := N0.out; omega))) (.slice Ax0_0 x0_0.length cx0_0)) (fun q hq => Nat.ne_of_lt (Nat.lt_of_lt_of_le hq (show w8.heap.size ≤ gx0 from by have z0_ := HA0.out; have z1_ := HA1.out; have z2_ := Z1.out; have z3_ := GX0.out; have z4_ := GY0.out; have z5_ := N0.out; omega))) (.slice Ax0_1 x0_1.length cx0_1)); have HY0_0_ := Aside0.mk (Kd.R_far (p := ⟨gx0, 1, none⟩) (Kd.R_far (p := ⟨gx0, 0, none⟩) HY0_0.out (fun q hq => Nat.ne_of_lt (Nat.lt_of_lt_of_le hq.1.2 (show w9.heap.size ≤ gx0 from by have z0_ := HA0.out; have z1_ := HA1.out; have z2_ := Z1.out; have z3_ := GX0.out; have z4_ := GY0.out; have z5_ := N0.out; omega))) (.slice Ax0_0 x0_0.length cx0_0)) (fun q hq => Nat.ne_of_lt (Nat.lt_of_lt_of_le hq.1.2 (show w9.heap.size ≤ gx0 from by have z0_ := HA0.out; have z1_ := HA1.out; have z2_ := Z1.out; have z3_ := GX0.out; have z4_ := GY0.out; have z5_ := N0.out; omega))) (.slice Ax0_1 x0_1.length cx0_1)); have HY0_1_ := Aside0.mk (Kd.S_far (p := ⟨gx0, 1, none⟩) (Kd.S_far (p := ⟨gx0, 0, none⟩) HY0_1.out (fun q hq => Nat.ne_of_lt (Nat.lt_of_lt_of_le hq.1.2 (show w9.heap.size ≤ gx0 from by have z0_ := HA0.out; have z1_ := HA1.out; have z2_ := Z1.out; have z3_ := GX0.out; have z4_ := GY0.out; have z5_ := N0.out; omega))) (.slice Ax0_0 x0_0.length cx0_0)) (fun q hq => Nat.ne_of_lt (Nat.lt_of_lt_of_le hq.1.2 (show w9.heap.size ≤ gx0 from by have z0_ := HA0.out; have z1_ := HA1.out; have z2_ := Z1.out; have z3_ := GX0.out; have z4_ := GY0.out; have z5_ := N0.out; omega))) (.slice Ax0_1 x0_1.length cx0_1)); clear HB BA0 BA1 BX0 HS HY0_0 HY0_1; have HB := HB_; have BA0 := BA0_; have BA1 := BA1_; have BX0 := BX0_; have HS := HS_; have HY0_0 := HY0_0_; have HY0_1 := HY0_1_; clear HB_ BA0_ BA1_ BX0_ HS_ HY0_0_ HY0_1_; clear hcBA00 hfBA00 hcBA01 hfBA01 hcBA10 hfBA10 hcBA11 hfBA11 hcBA12 hfBA12 hcBA13 hfBA13 hcBA14 hfBA14 hcBX00 hfBX00 hcBX01 hfBX01; obtain ⟨w11, hw_⟩ : ∃ w_, w_ = ((w10.setCell ⟨gx0, 0, none⟩ (.slice Ax0_0 x0_0.length cx0_0)).setCell ⟨gx0, 1, none⟩ (.slice Ax0_1 x0_1.length cx0_1)) := ⟨_, rfl⟩; rw [← hw_] at HB BA0 BA1 BX0 HS HY0_0 HY0_1 ⊢; have Z2 := Aside0.mk ((by rw [hw_]; simp) : w10.heap.size ≤ w11.heap.size); clear hw_; obtain ⟨hcBA00, hcBA01, hfBA00, hfBA01⟩ := cl2_ BA0.out; obtain ⟨hcBA10, hcBA11, hcBA12, hcBA13, hcBA14, hfBA10, hfBA11, hfBA12, hfBA13, hfBA14⟩ := cl5_ BA1.out; have hcBX00 : w11.cell? ⟨gx0, 0, none⟩ = some (.slice Ax0_0 x0_0.length cx0_0) := (blk_cell BX0.out 0).trans rfl; have hfBX00 := blk_frozen BX0.out 0; have hcBX01 : w11.cell? ⟨gx0, 1, none⟩ = some (.slice Ax0_1 x0_1.length cx0_1) := (blk_cell BX0.out 1).trans rfl; have hfBX01 := blk_frozen BX0.out 1
   go_wp2_with (first | (go_at_call 40; (with_reducible refine (laws_toAxis.calls k a1_0 a1_1 a1_2 a1_3 A1_4 c1_4 l1_4 x1_0 x1_1 x1_2 x1_3 x1_4 _ (Kd.C_below HR1_4.out HB.out) HC1_4.out BT1.out).mono ?_); rintro e w12 ⟨v0, rfl, ho0, hb⟩; have HX1_4 := Aside0.mk ho0; have Z3 := Aside0.mk (hb.size); have HB_ := Aside0.mk (below_step HB.out hb); have BA0_ := Aside0.mk (blk_below BA0.out hb); have BA1_ := Aside0.mk (blk_below BA1.out hb); have BX0_ := Aside0.mk (blk_below (g := gx0) (o := .cells #[.slice Ax0_0 x0_0.length cx0_0, .slice Ax0_1 x0_1.length cx0_1] 31 (0, 0)) BX0.out hb); have HS_ := Aside0.mk (Kd.R_below HS.out hb); have HY0_0_ := Aside0.mk (Kd.R_below HY0_0.out hb); have HY0_1_ := Aside0.mk (Kd.S_below HY0_1.out hb); clear hb ho0; clear HB BA0 BA1 BX0 HS HY0_0 HY0_1; have HB := HB_; have BA0 := BA0_; have BA1 := BA1_; have BX0 := BX0_; have HS := HS_; have HY0_0 := HY0_0_; have HY0_1 := HY0_1_; clear HB_ BA0_ BA1_ BX0_ HS_ HY0_0_ HY0_1_; clear hcBA00 hfBA00 hcBA01 hfBA01 hcBA10 hfBA10 hcBA11 hfBA11 hcBA12 hfBA12 hcBA13 hfBA13 hcBA14 hfBA14 hcBX00 hfBX00 hcBX01 hfBX01; obtain ⟨hcBA00, hcBA01, hfBA00, hfBA01⟩ := cl2_ BA0.out; obtain ⟨hcBA10, hcBA11, hcBA12, hcBA13, hcBA14, hfBA10, hfBA11, hfBA12, hfBA13, hfBA14⟩ := cl5_ BA1.out; have hcBX00 : w12.cell? ⟨gx0, 0, none⟩ = some (.slice Ax0_0 x0_0.length cx0_0) := (blk_cell BX0.out 0).trans rfl; have hfBX00 := blk_frozen BX0.out 0; have hcBX01 : w12.cell? ⟨gx0, 1, none⟩ = some (.slice Ax0_1 x0_1.length cx0_1) := (blk_cell BX0.out 1).trans rfl; have hfBX01 := blk_frozen BX0.out 1; obtain ⟨Ax1_4, cx1_4, ex1_4⟩ := Kd.R_slice HX1_4.out; subst ex1_4; have HY1_4 := Aside0.mk (Kd.R_mono (ok' := (fun q => (w11.heap.size ≤ q ∧ q < w12.heap.size) ∧ True)) (Kd.R_bound HX1_4.out) (fun q hq => ⟨⟨hq.2.1, hq.2.2.1⟩, trivial⟩)); clear HX1_4) | ((with_reducible refine gate_dst (N := 9) rfl ?_); refine box_event (by rfl) (N := 9) (by rfl) (cs := #[.int .i64 0, .int .i64 0, .int .i64 0, .int .i64 0, .slice none 0 0]) (t := 47) kg_ ?_; intro gx1 hgx w13 hbox hb; have NX1BA0 := Aside0.mk ((by rw [hgx]; exact Nat.ne_of_lt (blk_lt BA0.out)) : ga0 ≠ gx1); have NX1BA1 := Aside0.mk ((by rw [hgx]; exact Nat.ne_of_lt (blk_lt BA1.out)) : ga1 ≠ gx1); have NX1BX0 := Aside0.mk ((by rw [hgx]; exact Nat.ne_of_lt (blk_lt (g := gx0) (o := .cells #[.slice Ax0_0 x0_0.length cx0_0, .slice Ax0_1 x0_1.length cx0_1] 31 (0, 0)) BX0.out)) : gx0 ≠ gx1); have GX1 := Aside0.mk ((by rw [hgx]; exact Nat.le_refl _) : w12.heap.size ≤ gx1); have GY1 := Aside0.mk ((blk_lt hbox) : gx1 < w13.heap.size); have BX1 := Aside0.mk hbox; have HB_ := Aside0.mk (below_step HB.out hb); have BA0_ := Aside0.mk (blk_below BA0.out hb); have BA1_ := Aside0.mk (blk_below BA1.out hb); have BX0_ := Aside0.mk (blk_below (g := gx0) (o := .cells #[.slice Ax0_0 x0_0.length cx0_0, .slice Ax0_1 x0_1.length cx0_1] 31 (0, 0)) BX0.out hb); have HS_ := Aside0.mk (Kd.R_below HS.out hb); have HY0_0_ := Aside0.mk (Kd.R_below HY0_0.out hb); have HY0_1_ := Aside0.mk (Kd.S_below HY0_1.out hb); have HY1_4_ := Aside0.mk (Kd.R_below HY1_4.out hb); clear hb hbox hgx; clear HB BA0 BA1 BX0 HS HY0_0 HY0_1 HY1_4; have HB := HB_; have BA0 := BA0_; have BA1 := BA1_; have BX0 := BX0_; have HS := HS_; have HY0_0 := HY0_0_; have HY0_1 := HY0_1_; have HY1_4 := HY1_4_; clear HB_ BA0_ BA1_ BX0_ HS_ HY0_0_ HY0_1_ HY1_4_; clear hcBA00 hfBA00 hcBA01 hfBA01 hcBA10 hfBA10 hcBA11 hfBA11 hcBA12 hfBA12 hcBA13 hfBA13 hcBA14 hfBA14 hcBX00 hfBX00 hcBX01 hfBX01; obtain ⟨hcBA00, hcBA01, hfBA00, hfBA01⟩ := cl2_ BA0.out; obtain ⟨hcBA10, hcBA11, hcBA12, hcBA13, hcBA14, hfBA10, hfBA11, hfBA12, hfBA13, hfBA14⟩ := cl5_ BA1.out; have hcBX00 : w13.cell? ⟨gx0, 0, none⟩ = some (.slice Ax0_0 x0_0.length cx0_0) := (blk_cell BX0.out 0).trans rfl; have hfBX00 := blk_frozen BX0.out 0; have hcBX01 : w13.cell? ⟨gx0, 1, none⟩ = some (.slice Ax0_1 x0_1.length cx0_1) := (blk_cell BX0.out 1).trans rfl; have hfBX01 := blk_frozen BX0.out 1; have hcBX10 : w13.cell? ⟨gx1, 0, none⟩ = some (.int .i64 0) := (blk_cell BX1.out 0).trans rfl; have hfBX10 := blk_frozen BX1.out 0; have hcBX11 : w13.cell? ⟨gx1, 1, none⟩ = some (.int .i64 0) := (blk_cell BX1.out 1).trans rfl; have hfBX11 := blk_frozen BX1.out 1; have hcBX12 : w13.cell? ⟨gx1, 2, none⟩ = some (.int .i64 0) := (blk_cell BX1.out 2).trans rfl; have hfBX12 := blk_frozen BX1.out 2; have hcBX13 : w13.cell? ⟨gx1, 3, none⟩ = some (.int .i64 0) := (blk_cell BX1.out 3).trans rfl; have hfBX13 := blk_frozen BX1.out 3; have hcBX14 : w13.cell? ⟨gx1, 4, none⟩ = some (.slice none 0 0) := (blk_cell BX1.out 4).trans rfl; have hfBX14 := blk_frozen BX1.out 4; have hn1BA0 := NX1BA0.out; have hn1BA1 := NX1BA1.out; have hn1BX0 := NX1BX0.out; have hm1BA0 := NX1BA0.out.symm; have hm1BA1 := NX1BA1.out.symm; have hm1BX0 := NX1BX0.out.symm))
   have HB_ : Aside0 (Below w.heap.size w (((((w13.setCell ⟨gx1, 0, none⟩ (.int .i64 x1_0)).setCell ⟨gx1, 1, none⟩ (.int .i64 x1_1)).setCell ⟨gx1, 2, none⟩ (.int .i64 x1_2)).setCell ⟨gx1, 3, none⟩ (.int .i64 x1_3)).setCell ⟨gx1, 4, none⟩ (.slice Ax1_4 x1_4.length cx1_4))) := Aside0.mk (below_set (j := 4) (v := .slice Ax1_4 x1_4.length cx1_4) (below_set (j := 3) (v := .int .i64 x1_3) (below_set (j := 2) (v := .int .i64 x1_2) (below_set (j := 1) (v := .int .i64 x1_1) (below_set (j := 0) (v := .int .i64 x1_0) HB.out (by have z0_ := HA0.out; have z1_ := HA1.out; have z2_ := Z1.out; have z3_ := GX0.out; have z4_ := GY0.out; have z5_ := Z2.out; have z6_ := Z3.out; have z7_ := GX1.out; have z8_ := GY1.out; have z9_ := N0.out; omega)) (by have z0_ := HA0.out; have z1_ := HA1.out; have z2_ := Z1.out; have z3_ := GX0.out; have z4_ := GY0.out; have z5_ := Z2.out; have z6_ := Z3.out; have z7_ := GX1.out; have z8_ := GY1.out; have z9_ := N0.out; omega)) (by have z0_ := HA0.out; have z1_ := HA1.out; have z2_ := Z1.out; have z3_ := GX0.out; have z4_ := GY0.out; have z5_ := Z2.out; have z6_ := Z3.out; have z7_ := GX1.out; have z8_ := GY1.out; have z9_ := N0.out; omega)) (by have z0_ := HA0.out; have z1_ := HA1.out; have z2_ := Z1.out; have z3_ := GX0.out; have z4_ := GY0.out; have z5_ := Z2.out; have z6_ := Z3.out; have z7_ := GX1.out; have z8_ := GY1.out; have z9_ := N0.out; omega)) (by have z0_ := HA0.out; have z1_ := HA1.out; have z2_ := Z1.out; have z3_ := GX0.out; have z4_ := GY0.out; have z5_ := Z2.out; have z6_ := Z3.out; have z7_ := GX1.out; have z8_ := GY1.out; have z9_ := N0.out; omega)); have BA0_ := Aside0.mk (show (World.heap (((((w13.setCell ⟨gx1, 0, none⟩ (.int .i64 x1_0)).setCell ⟨gx1, 1, none⟩ (.int .i64 x1_1)).setCell ⟨gx1, 2, none⟩ (.int .i64 x1_2)).setCell ⟨gx1, 3, none⟩ (.int .i64 x1_3)).setCell ⟨gx1, 4, none⟩ (.slice Ax1_4 x1_4.length cx1_4)))[ga0]? = some (.cells #[.slice A0_0 l0_0.length c0_0, .slice A0_1 l0_1.length c0_1] 25 (0, 0)) from (blk_far (blk_far (blk_far (blk_far (blk_far BA0.out NX1BA0.out (.int .i64 x1_0)) NX1BA0.out (.int .i64 x1_1)) NX1BA0.out (.int .i64 x1_2)) NX1BA0.out (.int .i64 x1_3)) NX1BA0.out (.slice Ax1_4 x1_4.length cx1_4))); have BA1_ := Aside0.mk (show (World.heap (((((w13.setCell ⟨gx1, 0, none⟩ (.int .i64 x1_0)).setCell ⟨gx1, 1, none⟩ (.int .i64 x1_1)).setCell ⟨gx1, 2, none⟩ (.int .i64 x1_2)).setCell ⟨gx1, 3, none⟩ (.int .i64 x1_3)).setCell ⟨gx1, 4, none⟩ (.slice Ax1_4 x1_4.length cx1_4)))[ga1]? = some (.cells #[.int .i64 a1_0, .int .i64 a1_1, .int .i64 a1_2, .int .i64 a1_3, .slice A1_4 l1_4.length c1_4] 67 (0, 0)) from (blk_far (blk_far (blk_far (blk_far (blk_far BA1.out NX1BA1.out (.int .i64 x1_0)) NX1BA1.out (.int .i64 x1_1)) NX1BA1.out (.int .i64 x1_2)) NX1BA1.out (.int .i64 x1_3)) NX1BA1.out (.slice Ax1_4 x1_4.length cx1_4))); have BX0_ := Aside0.mk (show (World.heap (((((w13.setCell ⟨gx1, 0, none⟩ (.int .i64 x1_0)).setCell ⟨gx1, 1, none⟩ (.int .i64 x1_1)).setCell ⟨gx1, 2, none⟩ (.int .i64 x1_2)).setCell ⟨gx1, 3, none⟩ (.int .i64 x1_3)).setCell ⟨gx1, 4, none⟩ (.slice Ax1_4 x1_4.length cx1_4)))[gx0]? = some (.cells #[.slice Ax0_0 x0_0.length cx0_0, .slice Ax0_1 x0_1.length cx0_1] 31 (0, 0)) from (blk_far (blk_far (blk_far (blk_far (blk_far BX0.out NX1BX0.out (.int .i64 x1_0)) NX1BX0.out (.int .i64 x1_1)) NX1BX0.out (.int .i64 x1_2)) NX1BX0.out (.int .i64 x1_3)) NX1BX0.out (.slice Ax1_4 x1_4.length cx1_4))); have BX1_ := Aside0.mk (show (World.heap (((((w13.setCell ⟨gx1, 0, none⟩ (.int .i64 x1_0)).setCell ⟨gx1, 1, none⟩ (.int .i64 x1_1)).setCell ⟨gx1, 2, none⟩ (.int .i64 x1_2)).setCell ⟨gx1, 3, none⟩ (.int .i64 x1_3)).setCell ⟨gx1, 4, none⟩ (.slice Ax1_4 x1_4.length cx1_4)))[gx1]? = some (.cells #[.int .i64 x1_0, .int .i64 x1_1, .int .i64 x1_2, .int .i64 x1_3, .slice Ax1_4 x1_4.length cx1_4] 47 (0, 0)) from (blk_put (g := gx1) (cs := #[.int .i64 x1_0, .int .i64 x1_1, .int .i64 x1_2, .int .i64 x1_3, .slice none 0 0]) (blk_put (g := gx1) (cs := #[.int .i64 x1_0, .int .i64 x1_1, .int .i64 x1_2, .int .i64 0, .slice none 0 0]) (blk_put (g := gx1) (cs := #[.int .i64 x1_0, .int .i64 x1_1, .int .i64 0, .int .i64 0, .slice none 0 0]) (blk_put (g := gx1) (cs := #[.int .i64 x1_0, .int .i64 0, .int .i64 0, .int .i64 0, .slice none 0 0]) (blk_put (g := gx1) (cs := #[.int .i64 0, .int .i64 0, .int .i64 0, .int .i64 0, .slice none 0 0]) BX1.out 0 (.int .i64 x1_0) rfl) 1 (.int .i64 x1_1) rfl) 2 (.int .i64 x1_2) rfl) 3 (.int .i64 x1_3) rfl) 4 (.slice Ax1_4 x1_4.length cx1_4) rfl)); have HS_ := Aside0.mk (Kd.R_far (p := ⟨gx1, 4, none⟩) (Kd.R_far (p := ⟨gx1, 3, none⟩) (Kd.R_far (p := ⟨gx1, 2, none⟩) (Kd.R_far (p := ⟨gx1, 1, none⟩) (Kd.R_far (p := ⟨gx1, 0, none⟩) HS.out (fun q hq => Nat.ne_of_lt (Nat.lt_of_lt_of_le hq (show w8.heap.size ≤ gx1 from by have z0_ := HA0.out; have z1_ := HA1.out; have z2_ := Z1.out; have z3_ := GX0.out; have z4_ := GY0.out; have z5_ := Z2.out; have z6_ := Z3.out; have z7_ := GX1.out; have z8_ := GY1.out; have z9_ := N0.out; omega))) (.int .i64 x1_0)) (fun q hq => Nat.ne_of_lt (Nat.lt_of_lt_of_le hq (show w8.heap.size ≤ gx1 from by have z0_ := HA0.out; have z1_ := HA1.out; have z2_ := Z1.out; have z3_ := GX0.out; have z4_ := GY0.out; have z5_ := Z2.out; have z6_ := Z3.out; have z7_ := GX1.out; have z8_ := GY1.out; have z9_ := N0.out; omega))) (.int .i64 x1_1)) (fun q hq => Nat.ne_of_lt (Nat.lt_of_lt_of_le hq (show w8.heap.size ≤ gx1 from by have z0_ := HA0.out; have z1_ := HA1.out; have z2_ := Z1.out; have z3_ := GX0.out; have z4_ := GY0.out; have z5_ := Z2.out; have z6_ := Z3.out; have z7_ := GX1.out; have z8_ := GY1.out; have z9_ := N0.out; omega))) (.int .i64 x1_2)) (fun q hq => Nat.ne_of_lt (Nat.lt_of_lt_of_le hq (show w8.heap.size ≤ gx1 from by have z0_ := HA0.out; have z1_ := HA1.out; have z2_ := Z1.out; have z3_ := GX0.out; have z4_ := GY0.out; have z5_ := Z2.out; have z6_ := Z3.out; have z7_ := GX1.out; have z8_ := GY1.out; have z9_ := N0.out; omega))) (.int .i64 x1_3)) (fun q hq => Nat.ne_of_lt (Nat.lt_of_lt_of_le hq (show w8.heap.size ≤ gx1 from by have z0_ := HA0.out; have z1_ := HA1.out; have z2_ := Z1.out; have z3_ := GX0.out; have z4_ := GY0.out; have z5_ := Z2.out; have z6_ := Z3.out; have z7_ := GX1.out; have z8_ := GY1.out; have z9_ := N0.out; omega))) (.slice Ax1_4 x1_4.length cx1_4)); have HY0_0_ := Aside0.mk (Kd.R_far (p := ⟨gx1, 4, none⟩) (Kd.R_far (p := ⟨gx1, 3, none⟩) (Kd.R_far (p := ⟨gx1, 2, none⟩) (Kd.R_far (p := ⟨gx1, 1, none⟩) (Kd.R_far (p := ⟨gx1, 0, none⟩) HY0_0.out (fun q hq => Nat.ne_of_lt (Nat.lt_of_lt_of_le hq.1.2 (show w9.heap.size ≤ gx1 from by have z0_ := HA0.out; have z1_ := HA1.out; have z2_ := Z1.out; have z3_ := GX0.out; have z4_ := GY0.out; have z5_ := Z2.out; have z6_ := Z3.out; have z7_ := GX1.out; have z8_ := GY1.out; have z9_ := N0.out; omega))) (.int .i64 x1_0)) (fun q hq => Nat.ne_of_lt (Nat.lt_of_lt_of_le hq.1.2 (show w9.heap.size ≤ gx1 from by have z0_ := HA0.out; have z1_ := HA1.out; have z2_ := Z1.out; have z3_ := GX0.out; have z4_ := GY0.out; have z5_ := Z2.out; have z6_ := Z3.out; have z7_ := GX1.out; have z8_ := GY1.out; have z9_ := N0.out; omega))) (.int .i64 x1_1)) (fun q hq => Nat.ne_of_lt (Nat.lt_of_lt_of_le hq.1.2 (show w9.heap.size ≤ gx1 from by have z0_ := HA0.out; have z1_ := HA1.out; have z2_ := Z1.out; have z3_ := GX0.out; have z4_ := GY0.out; have z5_ := Z2.out; have z6_ := Z3.out; have z7_ := GX1.out; have z8_ := GY1.out; have z9_ := N0.out; omega))) (.int .i64 x1_2)) (fun q hq => Nat.ne_of_lt (Nat.lt_of_lt_of_le hq.1.2 (show w9.heap.size ≤ gx1 from by have z0_ := HA0.out; have z1_ := HA1.out; have z2_ := Z1.out; have z3_ := GX0.out; have z4_ := GY0.out; have z5_ := Z2.out; have z6_ := Z3.out; have z7_ := GX1.out; have z8_ := GY1.out; have z9_ := N0.out; omega))) (.int .i64 x1_3)) (fun q hq => Nat.ne_of_lt (Nat.lt_of_lt_of_le hq.1.2 (show w9.heap.size ≤ gx1 from by have z0_ := HA0.out; have z1_ := HA1.out; have z2_ := Z1.out; have z3_ := GX0.out; have z4_ := GY0.out; have z5_ := Z2.out; have z6_ := Z3.out; have z7_ := GX1.out; have z8_ := GY1.out; have z9_ := N0.out; omega))) (.slice Ax1_4 x1_4.length cx1_4)); have HY0_1_ := Aside0.mk (Kd.S_far (p := ⟨gx1, 4, none⟩) (Kd.S_far (p := ⟨gx1, 3, none⟩) (Kd.S_far (p := ⟨gx1, 2, none⟩) (Kd.S_far (p := ⟨gx1, 1, none⟩) (Kd.S_far (p := ⟨gx1, 0, none⟩) HY0_1.out (fun q hq => Nat.ne_of_lt (Nat.lt_of_lt_of_le hq.1.2 (show w9.heap.size ≤ gx1 from by have z0_ := HA0.out; have z1_ := HA1.out; have z2_ := Z1.out; have z3_ := GX0.out; have z4_ := GY0.out; have z5_ := Z2.out; have z6_ := Z3.out; have z7_ := GX1.out; have z8_ := GY1.out; have z9_ := N0.out; omega))) (.int .i64 x1_0)) (fun q hq => Nat.ne_of_lt (Nat.lt_of_lt_of_le hq.1.2 (show w9.heap.size ≤ gx1 from by have z0_ := HA0.out; have z1_ := HA1.out; have z2_ := Z1.out; have z3_ := GX0.out; have z4_ := GY0.out; have z5_ := Z2.out; have z6_ := Z3.out; have z7_ := GX1.out; have z8_ := GY1.out; have z9_ := N0.out; omega))) (.int .i64 x1_1)) (fun q hq => Nat.ne_of_lt (Nat.lt_of_lt_of_le hq.1.2 (show w9.heap.size ≤ gx1 from by have z0_ := HA0.out; have z1_ := HA1.out; have z2_ := Z1.out; have z3_ := GX0.out; have z4_ := GY0.out; have z5_ := Z2.out; have z6_ := Z3.out; have z7_ := GX1.out; have z8_ := GY1.out; have z9_ := N0.out; omega))) (.int .i64 x1_2)) (fun q hq => Nat.ne_of_lt (Nat.lt_of_lt_of_le hq.1.2 (show w9.heap.size ≤ gx1 from by have z0_ := HA0.out; have z1_ := HA1.out; have z2_ := Z1.out; have z3_ := GX0.out; have z4_ := GY0.out; have z5_ := Z2.out; have z6_ := Z3.out; have z7_ := GX1.out; have z8_ := GY1.out; have z9_ := N0.out; omega))) (.int .i64 x1_3)) (fun q hq => Nat.ne_of_lt (Nat.lt_of_lt_of_le hq.1.2 (show w9.heap.size ≤ gx1 from by have z0_ := HA0.out; have z1_ := HA1.out; have z2_ := Z1.out; have z3_ := GX0.out; have z4_ := GY0.out; have z5_ := Z2.out; have z6_ := Z3.out; have z7_ := GX1.out; have z8_ := GY1.out; have z9_ := N0.out; omega))) (.slice Ax1_4 x1_4.length cx1_4)); have HY1_4_ := Aside0.mk (Kd.R_far (p := ⟨gx1, 4, none⟩) (Kd.R_far (p := ⟨gx1, 3, none⟩) (Kd.R_far (p := ⟨gx1, 2, none⟩) (Kd.R_far (p := ⟨gx1, 1, none⟩) (Kd.R_far (p := ⟨gx1, 0, none⟩) HY1_4.out (fun q hq => Nat.ne_of_lt (Nat.lt_of_lt_of_le hq.1.2 (show w12.heap.size ≤ gx1 from by have z0_ := HA0.out; have z1_ := HA1.out; have z2_ := Z1.out; have z3_ := GX0.out; have z4_ := GY0.out; have z5_ := Z2.out; have z6_ := Z3.out; have z7_ := GX1.out; have z8_ := GY1.out; have z9_ := N0.out; omega))) (.int .i64 x1_0)) (fun q hq => Nat.ne_of_lt (Nat.lt_of_lt_of_le hq.1.2 (show w12.heap.size ≤ gx1 from by have z0_ := HA0.out; have z1_ := HA1.out; have z2_ := Z1.out; have z3_ := GX0.out; have z4_ := GY0.out; have z5_ := Z2.out; have z6_ := Z3.out; have z7_ := GX1.out; have z8_ := GY1.out; have z9_ := N0.out; omega))) (.int .i64 x1_1)) (fun q hq => Nat.ne_of_lt (Nat.lt_of_lt_of_le hq.1.2 (show w12.heap.size ≤ gx1 from by have z0_ := HA0.out; have z1_ := HA1.out; have z2_ := Z1.out; have z3_ := GX0.out; have z4_ := GY0.out; have z5_ := Z2.out; have z6_ := Z3.out; have z7_ := GX1.out; have z8_ := GY1.out; have z9_ := N0.out; omega))) (.int .i64 x1_2)) (fun q hq => Nat.ne_of_lt (Nat.lt_of_lt_of_le hq.1.2 (show w12.heap.size ≤ gx1 from by have z0_ := HA0.out; have z1_ := HA1.out; have z2_ := Z1.out; have z3_ := GX0.out; have z4_ := GY0.out; have z5_ := Z2.out; have z6_ := Z3.out; have z7_ := GX1.out; have z8_ := GY1.out; have z9_ := N0.out; omega))) (.int .i64 x1_3)) (fun q hq => Nat.ne_of_lt (Nat.lt_of_lt_of_le hq.1.2 (show w12.heap.size ≤ gx1 from by have z0_ := HA0.out; have z1_ := HA1.out; have z2_ := Z1.out; have z3_ := GX0.out; have z4_ := GY0.out; have z5_ := Z2.out; have z6_ := Z3.out; have z7_ := GX1.out; have z8_ := GY1.out; have z9_ := N0.out; omega))) (.slice Ax1_4 x1_4.length cx1_4)); clear HB BA0 BA1 BX0 BX1 HS HY0_0 HY0_1 HY1_4; have HB := HB_; have BA0 := BA0_; have BA1 := BA1_; have BX0 := BX0_; have BX1 := BX1_; have HS := HS_; have HY0_0 := HY0_0_; have HY0_1 := HY0_1_; have HY1_4 := HY1_4_; clear HB_ BA0_ BA1_ BX0_ BX1_ HS_ HY0_0_ HY0_1_ HY1_4_; clear hcBA00 hfBA00 hcBA01 hfBA01 hcBA10 hfBA10 hcBA11 hfBA11 hcBA12 hfBA12 hcBA13 hfBA13 hcBA14 hfBA14 hcBX00 hfBX00 hcBX01 hfBX01 hcBX10 hfBX10 hcBX11 hfBX11 hcBX12 hfBX12 hcBX13 hfBX13 hcBX14 hfBX14; obtain ⟨w14, hw_⟩ : ∃ w_, w_ = (((((w13.setCell ⟨gx1, 0, none⟩ (.int .i64 x1_0)).setCell ⟨gx1, 1, none⟩ (.int .i64 x1_1)).setCell ⟨gx1, 2, none⟩ (.int .i64 x1_2)).setCell ⟨gx1, 3, none⟩ (.int .i64 x1_3)).setCell ⟨gx1, 4, none⟩ (.slice Ax1_4 x1_4.length cx1_4)) := ⟨_, rfl⟩; rw [← hw_] at HB BA0 BA1 BX0 BX1 HS HY0_0 HY0_1 HY1_4 ⊢; have Z4 := Aside0.mk ((by rw [hw_]; simp) : w13.heap.size ≤ w14.heap.size); clear hw_; obtain ⟨hcBA00, hcBA01, hfBA00, hfBA01⟩ := cl2_ BA0.out; obtain ⟨hcBA10, hcBA11, hcBA12, hcBA13, hcBA14, hfBA10, hfBA11, hfBA12, hfBA13, hfBA14⟩ := cl5_ BA1.out; have hcBX00 : w14.cell? ⟨gx0, 0, none⟩ = some (.slice Ax0_0 x0_0.length cx0_0) := (blk_cell BX0.out 0).trans rfl; have hfBX00 := blk_frozen BX0.out 0; have hcBX01 : w14.cell? ⟨gx0, 1, none⟩ = some (.slice Ax0_1 x0_1.length cx0_1) := (blk_cell BX0.out 1).trans rfl; have hfBX01 := blk_frozen BX0.out 1; have hcBX10 : w14.cell? ⟨gx1, 0, none⟩ = some (.int .i64 x1_0) := (blk_cell BX1.out 0).trans rfl; have hfBX10 := blk_frozen BX1.out 0; have hcBX11 : w14.cell? ⟨gx1, 1, none⟩ = some (.int .i64 x1_1) := (blk_cell BX1.out 1).trans rfl; have hfBX11 := blk_frozen BX1.out 1; have hcBX12 : w14.cell? ⟨gx1, 2, none⟩ = some (.int .i64 x1_2) := (blk_cell BX1.out 2).trans rfl; have hfBX12 := blk_frozen BX1.out 2; have hcBX13 : w14.cell? ⟨gx1, 3, none⟩ = some (.int .i64 x1_3) := (blk_cell BX1.out 3).trans rfl; have hfBX13 := blk_frozen BX1.out 3; have hcBX14 : w14.cell? ⟨gx1, 4, none⟩ = some (.slice Ax1_4 x1_4.length cx1_4) := (blk_cell BX1.out 4).trans rfl; have hfBX14 := blk_frozen BX1.out 4; have NG := Aside0.mk HB.out.size; have NL0 := Aside0.mk ((by have z0_ := HA0.out; have z1_ := HA1.out; have z2_ := Z1.out; have z3_ := GX0.out; have z4_ := GY0.out; have z5_ := Z2.out; have z6_ := Z3.out; have z7_ := GX1.out; have z8_ := GY1.out; have z9_ := Z4.out; have z10_ := N0.out; omega) : w.heap.size ≤ w8.heap.size); have NL1 := Aside0.mk ((by have z0_ := HA0.out; have z1_ := HA1.out; have z2_ := Z1.out; have z3_ := GX0.out; have z4_ := GY0.out; have z5_ := Z2.out; have z6_ := Z3.out; have z7_ := GX1.out; have z8_ := GY1.out; have z9_ := Z4.out; have z10_ := N0.out; omega) : w.heap.size ≤ w11.heap.size)
   go_wp2_with (first | (go_at_call 26; (with_reducible refine (impl_PrognosisOf.calls k Ax0_0 cx0_0 x0_0 Ax0_1 cx0_1 x0_1 x1_0 x1_1 x1_2 x1_3 Ax1_4 cx1_4 x1_4 g0 g1 _ (Kd.R_reads' HY0_0.out).2.2 (Kd.R_reads' HY0_0.out).2.1 (Kd.S_reads' HY0_1.out).2.2 (Kd.S_reads' HY0_1.out).2.1 (Kd.R_reads' HY1_4.out).2.2 (Kd.R_reads' HY1_4.out).2.1 BG.out).mono ?_); rintro e w15 ⟨v0, rfl, ho, hb⟩; have HO := Aside0.mk ho; have HB_ := Aside0.mk (below_step HB.out hb); have BA0_ := Aside0.mk (blk_below BA0.out hb); have BA1_ := Aside0.mk (blk_below BA1.out hb); have BX0_ := Aside0.mk (blk_below (g := gx0) (o := .cells #[.slice Ax0_0 x0_0.length cx0_0, .slice Ax0_1 x0_1.length cx0_1] 31 (0, 0)) BX0.out hb); have BX1_ := Aside0.mk (blk_below (g := gx1) (o := .cells #[.int .i64 x1_0, .int .i64 x1_1, .int .i64 x1_2, .int .i64 x1_3, .slice Ax1_4 x1_4.length cx1_4] 47 (0, 0)) BX1.out hb); have HS_ := Aside0.mk (Kd.R_below HS.out hb); have HY0_0_ := Aside0.mk (Kd.R_below HY0_0.out hb); have HY0_1_ := Aside0.mk (Kd.S_below HY0_1.out hb); have HY1_4_ := Aside0.mk (Kd.R_below HY1_4.out hb); clear hb ho; clear HB BA0 BA1 BX0 BX1 HS HY0_0 HY0_1 HY1_4; have HB := HB_; have BA0 := BA0_; have BA1 := BA1_; have BX0 := BX0_; have BX1 := BX1_; have HS := HS_; have HY0_0 := HY0_0_; have HY0_1 := HY0_1_; have HY1_4 := HY1_4_; clear HB_ BA0_ BA1_ BX0_ BX1_ HS_ HY0_0_ HY0_1_ HY1_4_; clear hcBA00 hfBA00 hcBA01 hfBA01 hcBA10 hfBA10 hcBA11 hfBA11 hcBA12 hfBA12 hcBA13 hfBA13 hcBA14 hfBA14 hcBX00 hfBX00 hcBX01 hfBX01 hcBX10 hfBX10 hcBX11 hfBX11 hcBX12 hfBX12 hcBX13 hfBX13 hcBX14 hfBX14; obtain ⟨hcBA00, hcBA01, hfBA00, hfBA01⟩ := cl2_ BA0.out; obtain ⟨hcBA10, hcBA11, hcBA12, hcBA13, hcBA14, hfBA10, hfBA11, hfBA12, hfBA13, hfBA14⟩ := cl5_ BA1.out; have hcBX00 : w15.cell? ⟨gx0, 0, none⟩ = some (.slice Ax0_0 x0_0.length cx0_0) := (blk_cell BX0.out 0).trans rfl; have hfBX00 := blk_frozen BX0.out 0; have hcBX01 : w15.cell? ⟨gx0, 1, none⟩ = some (.slice Ax0_1 x0_1.length cx0_1) := (blk_cell BX0.out 1).trans rfl; have hfBX01 := blk_frozen BX0.out 1; have hcBX10 : w15.cell? ⟨gx1, 0, none⟩ = some (.int .i64 x1_0) := (blk_cell BX1.out 0).trans rfl; have hfBX10 := blk_frozen BX1.out 0; have hcBX11 : w15.cell? ⟨gx1, 1, none⟩ = some (.int .i64 x1_1) := (blk_cell BX1.out 1).trans rfl; have hfBX11 := blk_frozen BX1.out 1; have hcBX12 : w15.cell? ⟨gx1, 2, none⟩ = some (.int .i64 x1_2) := (blk_cell BX1.out 2).trans rfl; have hfBX12 := blk_frozen BX1.out 2; have hcBX13 : w15.cell? ⟨gx1, 3, none⟩ = some (.int .i64 x1_3) := (blk_cell BX1.out 3).trans rfl; have hfBX13 := blk_frozen BX1.out 3; have hcBX14 : w15.cell? ⟨gx1, 4, none⟩ = some (.slice Ax1_4 x1_4.length cx1_4) := (blk_cell BX1.out 4).trans rfl; have hfBX14 := blk_frozen BX1.out 4))
   obtain ⟨Ag, cg, eg⟩ := Kd.R_slice HO.out; subst eg; have HG := Aside0.mk (Kd.R_mono (ok' := fun q => w14.heap.size ≤ q) (Kd.R_bound HO.out) (fun q hq => hq.2.1)); clear HO
   go_wp2_with (first | (go_at_call 14; (with_reducible refine (laws_eqInt64S.calls k Ag cg g0 As cs s0 true _ (Kd.R_reads' HG.out).2.2 (Kd.R_reads' HG.out).2.1 (Kd.R_reads' HS.out).2.2 (Kd.R_reads' HS.out).2.1 BE.out).mono ?_); rintro e w16 ⟨rfl, hd⟩; have hb := DB.out hd; have HB_ := Aside0.mk (below_step HB.out hb); have BA0_ := Aside0.mk (blk_below BA0.out hb); have BA1_ := Aside0.mk (blk_below BA1.out hb); have BX0_ := Aside0.mk (blk_below (g := gx0) (o := .cells #[.slice Ax0_0 x0_0.length cx0_0, .slice Ax0_1 x0_1.length cx0_1] 31 (0, 0)) BX0.out hb); have BX1_ := Aside0.mk (blk_below (g := gx1) (o := .cells #[.int .i64 x1_0, .int .i64 x1_1, .int .i64 x1_2, .int .i64 x1_3, .slice Ax1_4 x1_4.length cx1_4] 47 (0, 0)) BX1.out hb); have HS_ := Aside0.mk (Kd.R_below HS.out hb); have HY0_0_ := Aside0.mk (Kd.R_below HY0_0.out hb); have HY0_1_ := Aside0.mk (Kd.S_below HY0_1.out hb); have HY1_4_ := Aside0.mk (Kd.R_below HY1_4.out hb); have HG_ := Aside0.mk (Kd.R_below HG.out hb); clear hb hd; clear HB BA0 BA1 BX0 BX1 HS HY0_0 HY0_1 HY1_4 HG; have HB := HB_; have BA0 := BA0_; have BA1 := BA1_; have BX0 := BX0_; have BX1 := BX1_; have HS := HS_; have HY0_0 := HY0_0_; have HY0_1 := HY0_1_; have HY1_4 := HY1_4_; have HG := HG_; clear HB_ BA0_ BA1_ BX0_ BX1_ HS_ HY0_0_ HY0_1_ HY1_4_ HG_; clear hcBA00 hfBA00 hcBA01 hfBA01 hcBA10 hfBA10 hcBA11 hfBA11 hcBA12 hfBA12 hcBA13 hfBA13 hcBA14 hfBA14 hcBX00 hfBX00 hcBX01 hfBX01 hcBX10 hfBX10 hcBX11 hfBX11 hcBX12 hfBX12 hcBX13 hfBX13 hcBX14 hfBX14; obtain ⟨hcBA00, hcBA01, hfBA00, hfBA01⟩ := cl2_ BA0.out; obtain ⟨hcBA10, hcBA11, hcBA12, hcBA13, hcBA14, hfBA10, hfBA11, hfBA12, hfBA13, hfBA14⟩ := cl5_ BA1.out; have hcBX00 : w16.cell? ⟨gx0, 0, none⟩ = some (.slice Ax0_0 x0_0.length cx0_0) := (blk_cell BX0.out 0).trans rfl; have hfBX00 := blk_frozen BX0.out 0; have hcBX01 : w16.cell? ⟨gx0, 1, none⟩ = some (.slice Ax0_1 x0_1.length cx0_1) := (blk_cell BX0.out 1).trans rfl; have hfBX01 := blk_frozen BX0.out 1; have hcBX10 : w16.cell? ⟨gx1, 0, none⟩ = some (.int .i64 x1_0) := (blk_cell BX1.out 0).trans rfl; have hfBX10 := blk_frozen BX1.out 0; have hcBX11 : w16.cell? ⟨gx1, 1, none⟩ = some (.int .i64 x1_1) := (blk_cell BX1.out 1).trans rfl; have hfBX11 := blk_frozen BX1.out 1; have hcBX12 : w16.cell? ⟨gx1, 2, none⟩ = some (.int .i64 x1_2) := (blk_cell BX1.out 2).trans rfl; have hfBX12 := blk_frozen BX1.out 2; have hcBX13 : w16.cell? ⟨gx1, 3, none⟩ = some (.int .i64 x1_3) := (blk_cell BX1.out 3).trans rfl; have hfBX13 := blk_frozen BX1.out 3; have hcBX14 : w16.cell? ⟨gx1, 4, none⟩ = some (.slice Ax1_4 x1_4.length cx1_4) := (blk_cell BX1.out 4).trans rfl; have hfBX14 := blk_frozen BX1.out 4))
   (try go_wp2); have HS_ := Aside0.mk (Kd.R_drew HS.out); have HY0_0_ := Aside0.mk (Kd.R_drew HY0_0.out); have HY0_1_ := Aside0.mk (Kd.S_drew HY0_1.out); have HY1_4_ := Aside0.mk (Kd.R_drew HY1_4.out); have HG_ := Aside0.mk (Kd.R_drew HG.out); have BA0_ := Aside0.mk (blk_drew BA0.out); have BA1_ := Aside0.mk (blk_drew BA1.out); have BX0_ := Aside0.mk (blk_drew BX0.out); have BX1_ := Aside0.mk (blk_drew BX1.out); have HB_ := Aside0.mk (below_drew1 HB.out); clear HS HY0_0 HY0_1 HY1_4 HG BA0 BA1 BX0 BX1 HB; have HS := HS_; have HY0_0 := HY0_0_; have HY0_1 := HY0_1_; have HY1_4 := HY1_4_; have HG := HG_; have BA0 := BA0_; have BA1 := BA1_; have BX0 := BX0_; have BX1 := BX1_; have HB := HB_; clear HS_ HY0_0_ HY0_1_ HY1_4_ HG_ BA0_ BA1_ BX0_ BX1_ HB_; clear hcBA00 hfBA00 hcBA01 hfBA01 hcBA10 hfBA10 hcBA11 hfBA11 hcBA12 hfBA12 hcBA13 hfBA13 hcBA14 hfBA14 hcBX00 hfBX00 hcBX01 hfBX01 hcBX10 hfBX10 hcBX11 hfBX11 hcBX12 hfBX12 hcBX13 hfBX13 hcBX14 hfBX14; refine start_ (n := 5) (S := fun w' => w'.cell? ⟨gx0, 0, none⟩ = some (.slice Ax0_0 x0_0.length cx0_0) ∧ w'.cell? ⟨gx0, 1, none⟩ = some (.slice Ax0_1 x0_1.length cx0_1) ∧ w'.cell? ⟨ga0, 0, none⟩ = some (.slice A0_0 l0_0.length c0_0) ∧ w'.cell? ⟨ga0, 1, none⟩ = some (.slice A0_1 l0_1.length c0_1)) (ds := []) #[false, false, false, false, false] kr_ rfl rfl ⟨(blk_cell BX0.out 0).trans rfl, (blk_cell BX0.out 1).trans rfl, (blk_cell BA0.out 0).trans rfl, (blk_cell BA0.out 1).trans rfl⟩ (fun hHeld => ?_); generalize w16.drew = w17 at HS HY0_0 HY0_1 HY1_4 HG BA0 BA1 BX0 BX1 HB hHeld ⊢; refine take_ (i := 0) (N := some 54) (v := ?_) (a' := ?_) #[true, false, false, false, false] rfl rfl kr_ (fun _ _ _ h => h) (Or.inl ⟨by rfl, ?_⟩) hHeld ?_ ?_; rotate_left
   ·rintro w' ⟨s0_, s1_, s2_, s3_⟩; go_simp; with_reducible rfl
   rotate_left
   ·simp only [Act.put, qa_, qz_, qs_, i64_w, i32_w]; rfl
   refine take_ (i := 1) (N := some 55) (v := ?_) (a' := ?_) #[true, true, false, false, false] rfl rfl kr_ (fun _ _ _ h => h) (Or.inl ⟨by rfl, ?_⟩) hHeld ?_ ?_; rotate_left
   ·rintro w' ⟨s0_, s1_, s2_, s3_⟩; go_simp; with_reducible rfl
   rotate_left
   ·simp only [Act.put, qa_, qz_, qs_, i64_w, i32_w]; rfl
   refine one_ (i := 2) (N := some 56) #[true, true, true, false, false] rfl rfl kr_ (by decide) (fun K hK => ?_); refine goes_ Try.func12 kr_ rfl #[.agg #[.slice A0_0 l0_0.length c0_0, .slice A0_1 l0_1.length c0_1]] (by rfl) rfl rfl km_ ?_
   (with_reducible refine (laws_toGround.calls k A0_0 c0_0 l0_0 A0_1 c0_1 l0_1 x0_0 x0_1 _ (Kd.C_below HR0_0.out HB.out) HC0_0.out (Kd.C_below HR0_1.out HB.out) HC0_1.out BT0.out).mono ?_)
   rintro e w18 ⟨v0, v1, rfl, ho0, ho1, hb⟩; refine ⟨_, rfl, ?_⟩; have HT0_0 := Aside0.mk ho0; have HT0_1 := Aside0.mk ho1; have HB_ := Aside0.mk (below_step HB.out hb); have BA0_ := Aside0.mk (blk_below BA0.out hb); have BA1_ := Aside0.mk (blk_below BA1.out hb); have BX0_ := Aside0.mk (blk_below (g := gx0) (o := .cells #[.slice Ax0_0 x0_0.length cx0_0, .slice Ax0_1 x0_1.length cx0_1] 31 (0, 0)) BX0.out hb); have BX1_ := Aside0.mk (blk_below (g := gx1) (o := .cells #[.int .i64 x1_0, .int .i64 x1_1, .int .i64 x1_2, .int .i64 x1_3, .slice Ax1_4 x1_4.length cx1_4] 47 (0, 0)) BX1.out hb); have HS_ := Aside0.mk (Kd.R_below HS.out hb); have HY0_0_ := Aside0.mk (Kd.R_below HY0_0.out hb); have HY0_1_ := Aside0.mk (Kd.S_below HY0_1.out hb); have HY1_4_ := Aside0.mk (Kd.R_below HY1_4.out hb); have HG_ := Aside0.mk (Kd.R_below HG.out hb); clear hb ho0 ho1; clear HB BA0 BA1 BX0 BX1 HS HY0_0 HY0_1 HY1_4 HG; have HB := HB_; have BA0 := BA0_; have BA1 := BA1_; have BX0 := BX0_; have BX1 := BX1_; have HS := HS_; have HY0_0 := HY0_0_; have HY0_1 := HY0_1_; have HY1_4 := HY1_4_; have HG := HG_; clear HB_ BA0_ BA1_ BX0_ BX1_ HS_ HY0_0_ HY0_1_ HY1_4_ HG_; obtain ⟨hcBA00, hcBA01, hfBA00, hfBA01⟩ := cl2_ BA0.out; obtain ⟨hcBA10, hcBA11, hcBA12, hcBA13, hcBA14, hfBA10, hfBA11, hfBA12, hfBA13, hfBA14⟩ := cl5_ BA1.out; have hcBX00 : w18.cell? ⟨gx0, 0, none⟩ = some (.slice Ax0_0 x0_0.length cx0_0) := (blk_cell BX0.out 0).trans rfl; have hfBX00 := blk_frozen BX0.out 0; have hcBX01 : w18.cell? ⟨gx0, 1, none⟩ = some (.slice Ax0_1 x0_1.length cx0_1) := (blk_cell BX0.out 1).trans rfl; have hfBX01 := blk_frozen BX0.out 1; have hcBX10 : w18.cell? ⟨gx1, 0, none⟩ = some (.int .i64 x1_0) := (blk_cell BX1.out 0).trans rfl; have hfBX10 := blk_frozen BX1.out 0; have hcBX11 : w18.cell? ⟨gx1, 1, none⟩ = some (.int .i64 x1_1) := (blk_cell BX1.out 1).trans rfl; have hfBX11 := blk_frozen BX1.out 1; have hcBX12 : w18.cell? ⟨gx1, 2, none⟩ = some (.int .i64 x1_2) := (blk_cell BX1.out 2).trans rfl; have hfBX12 := blk_frozen BX1.out 2; have hcBX13 : w18.cell? ⟨gx1, 3, none⟩ = some (.int .i64 x1_3) := (blk_cell BX1.out 3).trans rfl; have hfBX13 := blk_frozen BX1.out 3; have hcBX14 : w18.cell? ⟨gx1, 4, none⟩ = some (.slice Ax1_4 x1_4.length cx1_4) := (blk_cell BX1.out 4).trans rfl; have hfBX14 := blk_frozen BX1.out 4; clear hcBA00 hfBA00 hcBA01 hfBA01 hcBA10 hfBA10 hcBA11 hfBA11 hcBA12 hfBA12 hcBA13 hfBA13 hcBA14 hfBA14 hcBX00 hfBX00 hcBX01 hfBX01 hcBX10 hfBX10 hcBX11 hfBX11 hcBX12 hfBX12 hcBX13 hfBX13 hcBX14 hfBX14; obtain ⟨Ar0_0, cr0_0, er0_0⟩ := Kd.R_slice HT0_0.out; subst er0_0; obtain ⟨Ar0_1, cr0_1, er0_1⟩ := Kd.S_slice HT0_1.out; subst er0_1; refine hK.out _ _ ⟨(blk_cell BX0.out 0).trans rfl, (blk_cell BX0.out 1).trans rfl, (blk_cell BA0.out 0).trans rfl, (blk_cell BA0.out 1).trans rfl⟩ (fun hHeld => ?_); clear hK K; refine norm_ (a' := ?_) ?_ ?_; rotate_left
   ·show Act.put _ (some 56) _ = _
    simp only [Act.put, qa_, qz_, qs_, i64_w, i32_w]; rfl
   refine one_ (i := 3) (N := some 57) #[true, true, true, true, false] rfl rfl kr_ (by decide) (fun K hK => ?_); refine goes_ Try.func15 kr_ rfl #[.agg #[.slice Ax0_0 x0_0.length cx0_0, .slice Ax0_1 x0_1.length cx0_1], .agg #[.slice Ar0_0 x0_0.length cr0_0, .slice Ar0_1 x0_1.length cr0_1]] (by rfl) rfl rfl km_ ?_
   (with_reducible refine (laws_eqGround.calls k Ax0_0 cx0_0 x0_0 Ax0_1 cx0_1 x0_1 Ar0_0 cr0_0 x0_0 Ar0_1 cr0_1 x0_1 true _ (Kd.R_reads' HY0_0.out).2.2 (Kd.R_reads' HY0_0.out).2.1 (Kd.S_reads' HY0_1.out).2.2 (Kd.S_reads' HY0_1.out).2.1 (Kd.R_reads' HT0_0.out).2.2 (Kd.R_reads' HT0_0.out).2.1 (Kd.S_reads' HT0_1.out).2.2 (Kd.S_reads' HT0_1.out).2.1 BQ0.out).mono ?_)
   rintro e w19 ⟨rfl, hb⟩; refine ⟨_, rfl, ?_⟩; have HB_ := Aside0.mk (below_step HB.out hb); have BA0_ := Aside0.mk (blk_below BA0.out hb); have BA1_ := Aside0.mk (blk_below BA1.out hb); have BX0_ := Aside0.mk (blk_below (g := gx0) (o := .cells #[.slice Ax0_0 x0_0.length cx0_0, .slice Ax0_1 x0_1.length cx0_1] 31 (0, 0)) BX0.out hb); have BX1_ := Aside0.mk (blk_below (g := gx1) (o := .cells #[.int .i64 x1_0, .int .i64 x1_1, .int .i64 x1_2, .int .i64 x1_3, .slice Ax1_4 x1_4.length cx1_4] 47 (0, 0)) BX1.out hb); have HS_ := Aside0.mk (Kd.R_below HS.out hb); have HY0_0_ := Aside0.mk (Kd.R_below HY0_0.out hb); have HY0_1_ := Aside0.mk (Kd.S_below HY0_1.out hb); have HY1_4_ := Aside0.mk (Kd.R_below HY1_4.out hb); have HG_ := Aside0.mk (Kd.R_below HG.out hb); clear hb HT0_0 HT0_1; clear HB BA0 BA1 BX0 BX1 HS HY0_0 HY0_1 HY1_4 HG; have HB := HB_; have BA0 := BA0_; have BA1 := BA1_; have BX0 := BX0_; have BX1 := BX1_; have HS := HS_; have HY0_0 := HY0_0_; have HY0_1 := HY0_1_; have HY1_4 := HY1_4_; have HG := HG_; clear HB_ BA0_ BA1_ BX0_ BX1_ HS_ HY0_0_ HY0_1_ HY1_4_ HG_; obtain ⟨hcBA00, hcBA01, hfBA00, hfBA01⟩ := cl2_ BA0.out; obtain ⟨hcBA10, hcBA11, hcBA12, hcBA13, hcBA14, hfBA10, hfBA11, hfBA12, hfBA13, hfBA14⟩ := cl5_ BA1.out; have hcBX00 : w19.cell? ⟨gx0, 0, none⟩ = some (.slice Ax0_0 x0_0.length cx0_0) := (blk_cell BX0.out 0).trans rfl; have hfBX00 := blk_frozen BX0.out 0; have hcBX01 : w19.cell? ⟨gx0, 1, none⟩ = some (.slice Ax0_1 x0_1.length cx0_1) := (blk_cell BX0.out 1).trans rfl; have hfBX01 := blk_frozen BX0.out 1; have hcBX10 : w19.cell? ⟨gx1, 0, none⟩ = some (.int .i64 x1_0) := (blk_cell BX1.out 0).trans rfl; have hfBX10 := blk_frozen BX1.out 0; have hcBX11 : w19.cell? ⟨gx1, 1, none⟩ = some (.int .i64 x1_1) := (blk_cell BX1.out 1).trans rfl; have hfBX11 := blk_frozen BX1.out 1; have hcBX12 : w19.cell? ⟨gx1, 2, none⟩ = some (.int .i64 x1_2) := (blk_cell BX1.out 2).trans rfl; have hfBX12 := blk_frozen BX1.out 2; have hcBX13 : w19.cell? ⟨gx1, 3, none⟩ = some (.int .i64 x1_3) := (blk_cell BX1.out 3).trans rfl; have hfBX13 := blk_frozen BX1.out 3; have hcBX14 : w19.cell? ⟨gx1, 4, none⟩ = some (.slice Ax1_4 x1_4.length cx1_4) := (blk_cell BX1.out 4).trans rfl; have hfBX14 := blk_frozen BX1.out 4; clear hcBA00 hfBA00 hcBA01 hfBA01 hcBA10 hfBA10 hcBA11 hfBA11 hcBA12 hfBA12 hcBA13 hfBA13 hcBA14 hfBA14 hcBX00 hfBX00 hcBX01 hfBX01 hcBX10 hfBX10 hcBX11 hfBX11 hcBX12 hfBX12 hcBX13 hfBX13 hcBX14 hfBX14; refine hK.out _ _ ⟨(blk_cell BX0.out 0).trans rfl, (blk_cell BX0.out 1).trans rfl, (blk_cell BA0.out 0).trans rfl, (blk_cell BA0.out 1).trans rfl⟩ (fun hHeld => ?_); clear hK K; refine norm_ (a' := ?_) ?_ ?_; rotate_left
   ·show Act.put _ (some 57) _ = _
    simp only [Act.put, qa_, qz_, qs_, i64_w, i32_w]; rfl
   refine pure_ (i := 4) (N := some 58) (v := ?_) (a' := ?_) #[true, true, true, true, true] rfl rfl kr_ (fun _ _ _ h => h) (Or.inl ⟨by rfl, ?_⟩) ?_ ?_; rotate_left
   ·intro w'; go_simp; with_reducible rfl
   rotate_left
   ·simp only [Act.put, qa_, qz_, qs_, i64_w, i32_w]; rfl
   refine done_ kr_ ?_; obtain ⟨hcBA00, hcBA01, hfBA00, hfBA01⟩ := cl2_ BA0.out; obtain ⟨hcBA10, hcBA11, hcBA12, hcBA13, hcBA14, hfBA10, hfBA11, hfBA12, hfBA13, hfBA14⟩ := cl5_ BA1.out; have hcBX00 : w19.cell? ⟨gx0, 0, none⟩ = some (.slice Ax0_0 x0_0.length cx0_0) := (blk_cell BX0.out 0).trans rfl; have hfBX00 := blk_frozen BX0.out 0; have hcBX01 : w19.cell? ⟨gx0, 1, none⟩ = some (.slice Ax0_1 x0_1.length cx0_1) := (blk_cell BX0.out 1).trans rfl; have hfBX01 := blk_frozen BX0.out 1; have hcBX10 : w19.cell? ⟨gx1, 0, none⟩ = some (.int .i64 x1_0) := (blk_cell BX1.out 0).trans rfl; have hfBX10 := blk_frozen BX1.out 0; have hcBX11 : w19.cell? ⟨gx1, 1, none⟩ = some (.int .i64 x1_1) := (blk_cell BX1.out 1).trans rfl; have hfBX11 := blk_frozen BX1.out 1; have hcBX12 : w19.cell? ⟨gx1, 2, none⟩ = some (.int .i64 x1_2) := (blk_cell BX1.out 2).trans rfl; have hfBX12 := blk_frozen BX1.out 2; have hcBX13 : w19.cell? ⟨gx1, 3, none⟩ = some (.int .i64 x1_3) := (blk_cell BX1.out 3).trans rfl; have hfBX13 := blk_frozen BX1.out 3; have hcBX14 : w19.cell? ⟨gx1, 4, none⟩ = some (.slice Ax1_4 x1_4.length cx1_4) := (blk_cell BX1.out 4).trans rfl; have hfBX14 := blk_frozen BX1.out 4; (try go_wp2); have HS_ := Aside0.mk (Kd.R_drew HS.out); have HY0_0_ := Aside0.mk (Kd.R_drew HY0_0.out); have HY0_1_ := Aside0.mk (Kd.S_drew HY0_1.out); have HY1_4_ := Aside0.mk (Kd.R_drew HY1_4.out); have HG_ := Aside0.mk (Kd.R_drew HG.out); have BA0_ := Aside0.mk (blk_drew BA0.out); have BA1_ := Aside0.mk (blk_drew BA1.out); have BX0_ := Aside0.mk (blk_drew BX0.out); have BX1_ := Aside0.mk (blk_drew BX1.out); have HB_ := Aside0.mk (below_drew1 HB.out); clear HS HY0_0 HY0_1 HY1_4 HG BA0 BA1 BX0 BX1 HB; have HS := HS_; have HY0_0 := HY0_0_; have HY0_1 := HY0_1_; have HY1_4 := HY1_4_; have HG := HG_; have BA0 := BA0_; have BA1 := BA1_; have BX0 := BX0_; have BX1 := BX1_; have HB := HB_; clear HS_ HY0_0_ HY0_1_ HY1_4_ HG_ BA0_ BA1_ BX0_ BX1_ HB_; clear hcBA00 hfBA00 hcBA01 hfBA01 hcBA10 hfBA10 hcBA11 hfBA11 hcBA12 hfBA12 hcBA13 hfBA13 hcBA14 hfBA14 hcBX00 hfBX00 hcBX01 hfBX01 hcBX10 hfBX10 hcBX11 hfBX11 hcBX12 hfBX12 hcBX13 hfBX13 hcBX14 hfBX14; refine start_ (n := 5) (S := fun w' => w'.cell? ⟨gx1, 0, none⟩ = some (.int .i64 x1_0) ∧ w'.cell? ⟨gx1, 1, none⟩ = some (.int .i64 x1_1) ∧ w'.cell? ⟨gx1, 2, none⟩ = some (.int .i64 x1_2) ∧ w'.cell? ⟨gx1, 3, none⟩ = some (.int .i64 x1_3) ∧ w'.cell? ⟨gx1, 4, none⟩ = some (.slice Ax1_4 x1_4.length cx1_4) ∧ w'.cell? ⟨ga1, 0, none⟩ = some (.int .i64 a1_0) ∧ w'.cell? ⟨ga1, 1, none⟩ = some (.int .i64 a1_1) ∧ w'.cell? ⟨ga1, 2, none⟩ = some (.int .i64 a1_2) ∧ w'.cell? ⟨ga1, 3, none⟩ = some (.int .i64 a1_3) ∧ w'.cell? ⟨ga1, 4, none⟩ = some (.slice A1_4 l1_4.length c1_4)) (ds := []) #[false, false, false, false, false] kr_ rfl rfl ⟨(blk_cell BX1.out 0).trans rfl, (blk_cell BX1.out 1).trans rfl, (blk_cell BX1.out 2).trans rfl, (blk_cell BX1.out 3).trans rfl, (blk_cell BX1.out 4).trans rfl, (blk_cell BA1.out 0).trans rfl, (blk_cell BA1.out 1).trans rfl, (blk_cell BA1.out 2).trans rfl, (blk_cell BA1.out 3).trans rfl, (blk_cell BA1.out 4).trans rfl⟩ (fun hHeld => ?_); generalize w19.drew = w20 at HS HY0_0 HY0_1 HY1_4 HG BA0 BA1 BX0 BX1 HB hHeld ⊢; refine take_ (i := 0) (N := some 59) (v := ?_) (a' := ?_) #[true, false, false, false, false] rfl rfl kr_ (fun _ _ _ h => h) (Or.inl ⟨by rfl, ?_⟩) hHeld ?_ ?_; rotate_left
   ·rintro w' ⟨s0_, s1_, s2_, s3_, s4_, s5_, s6_, s7_, s8_, s9_⟩; go_simp; with_reducible rfl
   rotate_left
   ·simp only [Act.put, qa_, qz_, qs_, i64_w, i32_w]; rfl
   refine take_ (i := 1) (N := some 60) (v := ?_) (a' := ?_) #[true, true, false, false, false] rfl rfl kr_ (fun _ _ _ h => h) (Or.inl ⟨by rfl, ?_⟩) hHeld ?_ ?_; rotate_left
   ·rintro w' ⟨s0_, s1_, s2_, s3_, s4_, s5_, s6_, s7_, s8_, s9_⟩; go_simp; with_reducible rfl
   rotate_left
   ·simp only [Act.put, qa_, qz_, qs_, i64_w, i32_w]; rfl
   refine one_ (i := 2) (N := some 61) #[true, true, true, false, false] rfl rfl kr_ (by decide) (fun K hK => ?_); refine goes_ Try.func40 kr_ rfl #[.agg #[.int .i64 a1_0, .int .i64 a1_1, .int .i64 a1_2, .int .i64 a1_3, .slice A1_4 l1_4.length c1_4]] (by rfl) rfl rfl km_ ?_
   (with_reducible refine (laws_toAxis.calls k a1_0 a1_1 a1_2 a1_3 A1_4 c1_4 l1_4 x1_0 x1_1 x1_2 x1_3 x1_4 _ (Kd.C_below HR1_4.out HB.out) HC1_4.out BT1.out).mono ?_)
   rintro e w21 ⟨v0, rfl, ho0, hb⟩; refine ⟨_, rfl, ?_⟩; have HT1_4 := Aside0.mk ho0; have HB_ := Aside0.mk (below_step HB.out hb); have BA0_ := Aside0.mk (blk_below BA0.out hb); have BA1_ := Aside0.mk (blk_below BA1.out hb); have BX0_ := Aside0.mk (blk_below (g := gx0) (o := .cells #[.slice Ax0_0 x0_0.length cx0_0, .slice Ax0_1 x0_1.length cx0_1] 31 (0, 0)) BX0.out hb); have BX1_ := Aside0.mk (blk_below (g := gx1) (o := .cells #[.int .i64 x1_0, .int .i64 x1_1, .int .i64 x1_2, .int .i64 x1_3, .slice Ax1_4 x1_4.length cx1_4] 47 (0, 0)) BX1.out hb); have HS_ := Aside0.mk (Kd.R_below HS.out hb); have HY0_0_ := Aside0.mk (Kd.R_below HY0_0.out hb); have HY0_1_ := Aside0.mk (Kd.S_below HY0_1.out hb); have HY1_4_ := Aside0.mk (Kd.R_below HY1_4.out hb); have HG_ := Aside0.mk (Kd.R_below HG.out hb); clear hb ho0; clear HB BA0 BA1 BX0 BX1 HS HY0_0 HY0_1 HY1_4 HG; have HB := HB_; have BA0 := BA0_; have BA1 := BA1_; have BX0 := BX0_; have BX1 := BX1_; have HS := HS_; have HY0_0 := HY0_0_; have HY0_1 := HY0_1_; have HY1_4 := HY1_4_; have HG := HG_; clear HB_ BA0_ BA1_ BX0_ BX1_ HS_ HY0_0_ HY0_1_ HY1_4_ HG_; obtain ⟨hcBA00, hcBA01, hfBA00, hfBA01⟩ := cl2_ BA0.out; obtain ⟨hcBA10, hcBA11, hcBA12, hcBA13, hcBA14, hfBA10, hfBA11, hfBA12, hfBA13, hfBA14⟩ := cl5_ BA1.out; have hcBX00 : w21.cell? ⟨gx0, 0, none⟩ = some (.slice Ax0_0 x0_0.length cx0_0) := (blk_cell BX0.out 0).trans rfl; have hfBX00 := blk_frozen BX0.out 0; have hcBX01 : w21.cell? ⟨gx0, 1, none⟩ = some (.slice Ax0_1 x0_1.length cx0_1) := (blk_cell BX0.out 1).trans rfl; have hfBX01 := blk_frozen BX0.out 1; have hcBX10 : w21.cell? ⟨gx1, 0, none⟩ = some (.int .i64 x1_0) := (blk_cell BX1.out 0).trans rfl; have hfBX10 := blk_frozen BX1.out 0; have hcBX11 : w21.cell? ⟨gx1, 1, none⟩ = some (.int .i64 x1_1) := (blk_cell BX1.out 1).trans rfl; have hfBX11 := blk_frozen BX1.out 1; have hcBX12 : w21.cell? ⟨gx1, 2, none⟩ = some (.int .i64 x1_2) := (blk_cell BX1.out 2).trans rfl; have hfBX12 := blk_frozen BX1.out 2; have hcBX13 : w21.cell? ⟨gx1, 3, none⟩ = some (.int .i64 x1_3) := (blk_cell BX1.out 3).trans rfl; have hfBX13 := blk_frozen BX1.out 3; have hcBX14 : w21.cell? ⟨gx1, 4, none⟩ = some (.slice Ax1_4 x1_4.length cx1_4) := (blk_cell BX1.out 4).trans rfl; have hfBX14 := blk_frozen BX1.out 4; clear hcBA00 hfBA00 hcBA01 hfBA01 hcBA10 hfBA10 hcBA11 hfBA11 hcBA12 hfBA12 hcBA13 hfBA13 hcBA14 hfBA14 hcBX00 hfBX00 hcBX01 hfBX01 hcBX10 hfBX10 hcBX11 hfBX11 hcBX12 hfBX12 hcBX13 hfBX13 hcBX14 hfBX14; obtain ⟨Ar1_4, cr1_4, er1_4⟩ := Kd.R_slice HT1_4.out; subst er1_4; refine hK.out _ _ ⟨(blk_cell BX1.out 0).trans rfl, (blk_cell BX1.out 1).trans rfl, (blk_cell BX1.out 2).trans rfl, (blk_cell BX1.out 3).trans rfl, (blk_cell BX1.out 4).trans rfl, (blk_cell BA1.out 0).trans rfl, (blk_cell BA1.out 1).trans rfl, (blk_cell BA1.out 2).trans rfl, (blk_cell BA1.out 3).trans rfl, (blk_cell BA1.out 4).trans rfl⟩ (fun hHeld => ?_); clear hK K; refine norm_ (a' := ?_) ?_ ?_; rotate_left
   ·show Act.put _ (some 61) _ = _
    simp only [Act.put, qa_, qz_, qs_, i64_w, i32_w]; rfl
   refine one_ (i := 3) (N := some 62) #[true, true, true, true, false] rfl rfl kr_ (by decide) (fun K hK => ?_); refine goes_ Try.func41 kr_ rfl #[.agg #[.int .i64 x1_0, .int .i64 x1_1, .int .i64 x1_2, .int .i64 x1_3, .slice Ax1_4 x1_4.length cx1_4], .agg #[.int .i64 x1_0, .int .i64 x1_1, .int .i64 x1_2, .int .i64 x1_3, .slice Ar1_4 x1_4.length cr1_4]] (by rfl) rfl rfl km_ ?_
   (with_reducible refine (laws_eqAxis.calls k x1_0 x1_1 x1_2 x1_3 Ax1_4 cx1_4 x1_4 x1_0 x1_1 x1_2 x1_3 Ar1_4 cr1_4 x1_4 true _ (Kd.R_reads' HY1_4.out).2.2 (Kd.R_reads' HY1_4.out).2.1 (Kd.R_reads' HT1_4.out).2.2 (Kd.R_reads' HT1_4.out).2.1 BQ1.out).mono ?_)
   rintro e w22 ⟨rfl, hb⟩; refine ⟨_, rfl, ?_⟩; have HB_ := Aside0.mk (below_step HB.out hb); have BA0_ := Aside0.mk (blk_below BA0.out hb); have BA1_ := Aside0.mk (blk_below BA1.out hb); have BX0_ := Aside0.mk (blk_below (g := gx0) (o := .cells #[.slice Ax0_0 x0_0.length cx0_0, .slice Ax0_1 x0_1.length cx0_1] 31 (0, 0)) BX0.out hb); have BX1_ := Aside0.mk (blk_below (g := gx1) (o := .cells #[.int .i64 x1_0, .int .i64 x1_1, .int .i64 x1_2, .int .i64 x1_3, .slice Ax1_4 x1_4.length cx1_4] 47 (0, 0)) BX1.out hb); have HS_ := Aside0.mk (Kd.R_below HS.out hb); have HY0_0_ := Aside0.mk (Kd.R_below HY0_0.out hb); have HY0_1_ := Aside0.mk (Kd.S_below HY0_1.out hb); have HY1_4_ := Aside0.mk (Kd.R_below HY1_4.out hb); have HG_ := Aside0.mk (Kd.R_below HG.out hb); clear hb HT1_4; clear HB BA0 BA1 BX0 BX1 HS HY0_0 HY0_1 HY1_4 HG; have HB := HB_; have BA0 := BA0_; have BA1 := BA1_; have BX0 := BX0_; have BX1 := BX1_; have HS := HS_; have HY0_0 := HY0_0_; have HY0_1 := HY0_1_; have HY1_4 := HY1_4_; have HG := HG_; clear HB_ BA0_ BA1_ BX0_ BX1_ HS_ HY0_0_ HY0_1_ HY1_4_ HG_; obtain ⟨hcBA00, hcBA01, hfBA00, hfBA01⟩ := cl2_ BA0.out; obtain ⟨hcBA10, hcBA11, hcBA12, hcBA13, hcBA14, hfBA10, hfBA11, hfBA12, hfBA13, hfBA14⟩ := cl5_ BA1.out; have hcBX00 : w22.cell? ⟨gx0, 0, none⟩ = some (.slice Ax0_0 x0_0.length cx0_0) := (blk_cell BX0.out 0).trans rfl; have hfBX00 := blk_frozen BX0.out 0; have hcBX01 : w22.cell? ⟨gx0, 1, none⟩ = some (.slice Ax0_1 x0_1.length cx0_1) := (blk_cell BX0.out 1).trans rfl; have hfBX01 := blk_frozen BX0.out 1; have hcBX10 : w22.cell? ⟨gx1, 0, none⟩ = some (.int .i64 x1_0) := (blk_cell BX1.out 0).trans rfl; have hfBX10 := blk_frozen BX1.out 0; have hcBX11 : w22.cell? ⟨gx1, 1, none⟩ = some (.int .i64 x1_1) := (blk_cell BX1.out 1).trans rfl; have hfBX11 := blk_frozen BX1.out 1; have hcBX12 : w22.cell? ⟨gx1, 2, none⟩ = some (.int .i64 x1_2) := (blk_cell BX1.out 2).trans rfl; have hfBX12 := blk_frozen BX1.out 2; have hcBX13 : w22.cell? ⟨gx1, 3, none⟩ = some (.int .i64 x1_3) := (blk_cell BX1.out 3).trans rfl; have hfBX13 := blk_frozen BX1.out 3; have hcBX14 : w22.cell? ⟨gx1, 4, none⟩ = some (.slice Ax1_4 x1_4.length cx1_4) := (blk_cell BX1.out 4).trans rfl; have hfBX14 := blk_frozen BX1.out 4; clear hcBA00 hfBA00 hcBA01 hfBA01 hcBA10 hfBA10 hcBA11 hfBA11 hcBA12 hfBA12 hcBA13 hfBA13 hcBA14 hfBA14 hcBX00 hfBX00 hcBX01 hfBX01 hcBX10 hfBX10 hcBX11 hfBX11 hcBX12 hfBX12 hcBX13 hfBX13 hcBX14 hfBX14; refine hK.out _ _ ⟨(blk_cell BX1.out 0).trans rfl, (blk_cell BX1.out 1).trans rfl, (blk_cell BX1.out 2).trans rfl, (blk_cell BX1.out 3).trans rfl, (blk_cell BX1.out 4).trans rfl, (blk_cell BA1.out 0).trans rfl, (blk_cell BA1.out 1).trans rfl, (blk_cell BA1.out 2).trans rfl, (blk_cell BA1.out 3).trans rfl, (blk_cell BA1.out 4).trans rfl⟩ (fun hHeld => ?_); clear hK K; refine norm_ (a' := ?_) ?_ ?_; rotate_left
   ·show Act.put _ (some 62) _ = _
    simp only [Act.put, qa_, qz_, qs_, i64_w, i32_w]; rfl
   refine pure_ (i := 4) (N := some 63) (v := ?_) (a' := ?_) #[true, true, true, true, true] rfl rfl kr_ (fun _ _ _ h => h) (Or.inl ⟨by rfl, ?_⟩) ?_ ?_; rotate_left
   ·intro w'; go_simp; with_reducible rfl
   rotate_left
   ·simp only [Act.put, qa_, qz_, qs_, i64_w, i32_w]; rfl
   refine done_ kr_ ?_; obtain ⟨hcBA00, hcBA01, hfBA00, hfBA01⟩ := cl2_ BA0.out; obtain ⟨hcBA10, hcBA11, hcBA12, hcBA13, hcBA14, hfBA10, hfBA11, hfBA12, hfBA13, hfBA14⟩ := cl5_ BA1.out; have hcBX00 : w22.cell? ⟨gx0, 0, none⟩ = some (.slice Ax0_0 x0_0.length cx0_0) := (blk_cell BX0.out 0).trans rfl; have hfBX00 := blk_frozen BX0.out 0; have hcBX01 : w22.cell? ⟨gx0, 1, none⟩ = some (.slice Ax0_1 x0_1.length cx0_1) := (blk_cell BX0.out 1).trans rfl; have hfBX01 := blk_frozen BX0.out 1; have hcBX10 : w22.cell? ⟨gx1, 0, none⟩ = some (.int .i64 x1_0) := (blk_cell BX1.out 0).trans rfl; have hfBX10 := blk_frozen BX1.out 0; have hcBX11 : w22.cell? ⟨gx1, 1, none⟩ = some (.int .i64 x1_1) := (blk_cell BX1.out 1).trans rfl; have hfBX11 := blk_frozen BX1.out 1; have hcBX12 : w22.cell? ⟨gx1, 2, none⟩ = some (.int .i64 x1_2) := (blk_cell BX1.out 2).trans rfl; have hfBX12 := blk_frozen BX1.out 2; have hcBX13 : w22.cell? ⟨gx1, 3, none⟩ = some (.int .i64 x1_3) := (blk_cell BX1.out 3).trans rfl; have hfBX13 := blk_frozen BX1.out 3; have hcBX14 : w22.cell? ⟨gx1, 4, none⟩ = some (.slice Ax1_4 x1_4.length cx1_4) := (blk_cell BX1.out 4).trans rfl; have hfBX14 := blk_frozen BX1.out 4
   go_wp2_with (first | (go_at_call 16; (with_reducible refine (laws_markGround.calls k (fun q => (w8.heap.size ≤ q ∧ q < w9.heap.size) ∧ some q = (.slice Ax0_0 x0_0.length cx0_0 : Value).ownBlock) _ x0_0 (fun q => (w8.heap.size ≤ q ∧ q < w9.heap.size) ∧ some q ≠ (.slice Ax0_0 x0_0.length cx0_0 : Value).ownBlock) _ x0_1 1 q0 m0_0 m0_1 w _ HB.out (Kd.R_lower HY0_0.out NL0.out) (Kd.S_lower HY0_1.out NL0.out) (fun q h1 h2 => absurd h1.2 h2.2) BM0.out).mono ?_); rintro e w23 ⟨rfl, hb, hk⟩; have HB_ := Aside0.mk hb; have BA0_ := Aside0.mk ((hk.2 ga0 (blk_lt BA0.out) (fun hs => by have i_ : w8.heap.size ≤ _ ∧ _ < w9.heap.size := hs.elim (fun h => h.1) (fun h => h.1); have z0_ := HA0.out; have z1_ := HA1.out; have z2_ := Z1.out; have z3_ := GX0.out; have z4_ := GY0.out; have z5_ := Z2.out; have z6_ := Z3.out; have z7_ := GX1.out; have z8_ := GY1.out; have z9_ := Z4.out; omega)).trans BA0.out); have BA1_ := Aside0.mk ((hk.2 ga1 (blk_lt BA1.out) (fun hs => by have i_ : w8.heap.size ≤ _ ∧ _ < w9.heap.size := hs.elim (fun h => h.1) (fun h => h.1); have z0_ := HA0.out; have z1_ := HA1.out; have z2_ := Z1.out; have z3_ := GX0.out; have z4_ := GY0.out; have z5_ := Z2.out; have z6_ := Z3.out; have z7_ := GX1.out; have z8_ := GY1.out; have z9_ := Z4.out; omega)).trans BA1.out); have BX1_ := Aside0.mk ((hk.2 gx1 (blk_lt BX1.out) (fun hs => by have i_ : w8.heap.size ≤ _ ∧ _ < w9.heap.size := hs.elim (fun h => h.1) (fun h => h.1); have z0_ := HA0.out; have z1_ := HA1.out; have z2_ := Z1.out; have z3_ := GX0.out; have z4_ := GY0.out; have z5_ := Z2.out; have z6_ := Z3.out; have z7_ := GX1.out; have z8_ := GY1.out; have z9_ := Z4.out; omega)).trans BX1.out); have HS_ := Aside0.mk (Kd.R_step HS.out (fun q hq hlt => hk.2 q hlt (fun hs => by have i_ : w8.heap.size ≤ _ ∧ _ < w9.heap.size := hs.elim (fun h => h.1) (fun h => h.1); have y_ : q < w8.heap.size := hq; have z0_ := HA0.out; have z1_ := HA1.out; have z2_ := Z1.out; have z3_ := GX0.out; have z4_ := GY0.out; have z5_ := Z2.out; have z6_ := Z3.out; have z7_ := GX1.out; have z8_ := GY1.out; have z9_ := Z4.out; omega))); have HY1_4_ := Aside0.mk (Kd.R_step HY1_4.out (fun q hq hlt => hk.2 q hlt (fun hs => by have i_ : w8.heap.size ≤ _ ∧ _ < w9.heap.size := hs.elim (fun h => h.1) (fun h => h.1); have y_ : w11.heap.size ≤ q ∧ q < w12.heap.size := hq.1; have z0_ := HA0.out; have z1_ := HA1.out; have z2_ := Z1.out; have z3_ := GX0.out; have z4_ := GY0.out; have z5_ := Z2.out; have z6_ := Z3.out; have z7_ := GX1.out; have z8_ := GY1.out; have z9_ := Z4.out; omega))); have HG_ := Aside0.mk (Kd.R_step HG.out (fun q hq hlt => hk.2 q hlt (fun hs => by have i_ : w8.heap.size ≤ _ ∧ _ < w9.heap.size := hs.elim (fun h => h.1) (fun h => h.1); have y_ : w14.heap.size ≤ q := hq; have z0_ := HA0.out; have z1_ := HA1.out; have z2_ := Z1.out; have z3_ := GX0.out; have z4_ := GY0.out; have z5_ := Z2.out; have z6_ := Z3.out; have z7_ := GX1.out; have z8_ := GY1.out; have z9_ := Z4.out; omega))); clear hb hk HY0_0 HY0_1 BX0; clear HB BA0 BA1 BX1 HS HY1_4 HG; have HB := HB_; have BA0 := BA0_; have BA1 := BA1_; have BX1 := BX1_; have HS := HS_; have HY1_4 := HY1_4_; have HG := HG_; clear HB_ BA0_ BA1_ BX1_ HS_ HY1_4_ HG_; clear hcBA00 hfBA00 hcBA01 hfBA01 hcBA10 hfBA10 hcBA11 hfBA11 hcBA12 hfBA12 hcBA13 hfBA13 hcBA14 hfBA14 hcBX00 hfBX00 hcBX01 hfBX01 hcBX10 hfBX10 hcBX11 hfBX11 hcBX12 hfBX12 hcBX13 hfBX13 hcBX14 hfBX14; obtain ⟨hcBA00, hcBA01, hfBA00, hfBA01⟩ := cl2_ BA0.out; obtain ⟨hcBA10, hcBA11, hcBA12, hcBA13, hcBA14, hfBA10, hfBA11, hfBA12, hfBA13, hfBA14⟩ := cl5_ BA1.out; have hcBX10 : w23.cell? ⟨gx1, 0, none⟩ = some (.int .i64 x1_0) := (blk_cell BX1.out 0).trans rfl; have hfBX10 := blk_frozen BX1.out 0; have hcBX11 : w23.cell? ⟨gx1, 1, none⟩ = some (.int .i64 x1_1) := (blk_cell BX1.out 1).trans rfl; have hfBX11 := blk_frozen BX1.out 1; have hcBX12 : w23.cell? ⟨gx1, 2, none⟩ = some (.int .i64 x1_2) := (blk_cell BX1.out 2).trans rfl; have hfBX12 := blk_frozen BX1.out 2; have hcBX13 : w23.cell? ⟨gx1, 3, none⟩ = some (.int .i64 x1_3) := (blk_cell BX1.out 3).trans rfl; have hfBX13 := blk_frozen BX1.out 3; have hcBX14 : w23.cell? ⟨gx1, 4, none⟩ = some (.slice Ax1_4 x1_4.length cx1_4) := (blk_cell BX1.out 4).trans rfl; have hfBX14 := blk_frozen BX1.out 4))
   go_wp2_with (first | (go_at_call 42; (with_reducible refine (laws_markAxis.calls k x1_0 x1_1 x1_2 x1_3 (fun q => (w11.heap.size ≤ q ∧ q < w12.heap.size) ∧ True) _ x1_4 q0 q1 m1_0 w _ HB.out (Kd.R_lower HY1_4.out NL1.out) BM1.out).mono ?_); rintro e w24 ⟨rfl, hy0, hb, hk⟩; have HB_ := Aside0.mk hb; have BA0_ := Aside0.mk ((hk.2 ga0 (blk_lt BA0.out) (fun hs => by have i_ : w11.heap.size ≤ _ ∧ _ < w12.heap.size := hs.1; have z0_ := HA0.out; have z1_ := HA1.out; have z2_ := Z1.out; have z3_ := GX0.out; have z4_ := GY0.out; have z5_ := Z2.out; have z6_ := Z3.out; have z7_ := GX1.out; have z8_ := GY1.out; have z9_ := Z4.out; omega)).trans BA0.out); have BA1_ := Aside0.mk ((hk.2 ga1 (blk_lt BA1.out) (fun hs => by have i_ : w11.heap.size ≤ _ ∧ _ < w12.heap.size := hs.1; have z0_ := HA0.out; have z1_ := HA1.out; have z2_ := Z1.out; have z3_ := GX0.out; have z4_ := GY0.out; have z5_ := Z2.out; have z6_ := Z3.out; have z7_ := GX1.out; have z8_ := GY1.out; have z9_ := Z4.out; omega)).trans BA1.out); have HS_ := Aside0.mk (Kd.R_step HS.out (fun q hq hlt => hk.2 q hlt (fun hs => by have i_ : w11.heap.size ≤ _ ∧ _ < w12.heap.size := hs.1; have y_ : q < w8.heap.size := hq; have z0_ := HA0.out; have z1_ := HA1.out; have z2_ := Z1.out; have z3_ := GX0.out; have z4_ := GY0.out; have z5_ := Z2.out; have z6_ := Z3.out; have z7_ := GX1.out; have z8_ := GY1.out; have z9_ := Z4.out; omega))); have HG_ := Aside0.mk (Kd.R_step HG.out (fun q hq hlt => hk.2 q hlt (fun hs => by have i_ : w11.heap.size ≤ _ ∧ _ < w12.heap.size := hs.1; have y_ : w14.heap.size ≤ q := hq; have z0_ := HA0.out; have z1_ := HA1.out; have z2_ := Z1.out; have z3_ := GX0.out; have z4_ := GY0.out; have z5_ := Z2.out; have z6_ := Z3.out; have z7_ := GX1.out; have z8_ := GY1.out; have z9_ := Z4.out; omega))); clear hy0 hb hk HY1_4 BX1; clear HB BA0 BA1 HS HG; have HB := HB_; have BA0 := BA0_; have BA1 := BA1_; have HS := HS_; have HG := HG_; clear HB_ BA0_ BA1_ HS_ HG_; clear hcBA00 hfBA00 hcBA01 hfBA01 hcBA10 hfBA10 hcBA11 hfBA11 hcBA12 hfBA12 hcBA13 hfBA13 hcBA14 hfBA14 hcBX10 hfBX10 hcBX11 hfBX11 hcBX12 hfBX12 hcBX13 hfBX13 hcBX14 hfBX14; obtain ⟨hcBA00, hcBA01, hfBA00, hfBA01⟩ := cl2_ BA0.out; obtain ⟨hcBA10, hcBA11, hcBA12, hcBA13, hcBA14, hfBA10, hfBA11, hfBA12, hfBA13, hfBA14⟩ := cl5_ BA1.out))
   go_wp2_with (first | (go_at_call 14; (with_reducible refine (laws_eqInt64S.calls k Ag cg g0 As cs s0 true _ (Kd.R_reads' HG.out).2.2 (Kd.R_reads' HG.out).2.1 (Kd.R_reads' HS.out).2.2 (Kd.R_reads' HS.out).2.1 BE.out).mono ?_); rintro e w25 ⟨rfl, hd⟩; have hb := DB.out hd; have HB_ := Aside0.mk (below_step HB.out hb); have BA0_ := Aside0.mk (blk_below BA0.out hb); have BA1_ := Aside0.mk (blk_below BA1.out hb); have HS_ := Aside0.mk (Kd.R_below HS.out hb); have HG_ := Aside0.mk (Kd.R_below HG.out hb); clear hb hd; clear HB BA0 BA1 HS HG; have HB := HB_; have BA0 := BA0_; have BA1 := BA1_; have HS := HS_; have HG := HG_; clear HB_ BA0_ BA1_ HS_ HG_; clear hcBA00 hfBA00 hcBA01 hfBA01 hcBA10 hfBA10 hcBA11 hfBA11 hcBA12 hfBA12 hcBA13 hfBA13 hcBA14 hfBA14; obtain ⟨hcBA00, hcBA01, hfBA00, hfBA01⟩ := cl2_ BA0.out; obtain ⟨hcBA10, hcBA11, hcBA12, hcBA13, hcBA14, hfBA10, hfBA11, hfBA12, hfBA13, hfBA14⟩ := cl5_ BA1.out))
   have NH := Aside0.mk HB.out.size
   go_wp2_with (first | (go_at_call 17; (with_reducible refine (laws_markInt64S.calls k (fun q => w14.heap.size ≤ q) _ g0 1 th lk w _ HB.out (Kd.R_lower HG.out NG.out) BK.out).mono ?_); rintro e w26 ⟨rfl, hy, hb, hk⟩; have HB_ := Aside0.mk hb; have BA0_ := Aside0.mk ((hk.2 ga0 (blk_lt BA0.out) (fun hs => by have i_ : w14.heap.size ≤ _ := hs; have z0_ := HA0.out; have z1_ := HA1.out; have z2_ := Z1.out; have z3_ := GX0.out; have z4_ := GY0.out; have z5_ := Z2.out; have z6_ := Z3.out; have z7_ := GX1.out; have z8_ := GY1.out; have z9_ := Z4.out; omega)).trans BA0.out); have BA1_ := Aside0.mk ((hk.2 ga1 (blk_lt BA1.out) (fun hs => by have i_ : w14.heap.size ≤ _ := hs; have z0_ := HA0.out; have z1_ := HA1.out; have z2_ := Z1.out; have z3_ := GX0.out; have z4_ := GY0.out; have z5_ := Z2.out; have z6_ := Z3.out; have z7_ := GX1.out; have z8_ := GY1.out; have z9_ := Z4.out; omega)).trans BA1.out); have HS_ := Aside0.mk (Kd.R_step HS.out (fun q hq hlt => hk.2 q hlt (fun hs => by have y_ : q < w8.heap.size := hq; have i_ : w14.heap.size ≤ q := hs; have z0_ := HA0.out; have z1_ := HA1.out; have z2_ := Z1.out; have z3_ := GX0.out; have z4_ := GY0.out; have z5_ := Z2.out; have z6_ := Z3.out; have z7_ := GX1.out; have z8_ := GY1.out; have z9_ := Z4.out; omega))); have HG_ := Aside0.mk hy; clear hy hb hk; clear HB BA0 BA1 HS HG; have HB := HB_; have BA0 := BA0_; have BA1 := BA1_; have HS := HS_; have HG := HG_; clear HB_ BA0_ BA1_ HS_ HG_; clear hcBA00 hfBA00 hcBA01 hfBA01 hcBA10 hfBA10 hcBA11 hfBA11 hcBA12 hfBA12 hcBA13 hfBA13 hcBA14 hfBA14; obtain ⟨hcBA00, hcBA01, hfBA00, hfBA01⟩ := cl2_ BA0.out; obtain ⟨hcBA10, hcBA11, hcBA12, hcBA13, hcBA14, hfBA10, hfBA11, hfBA12, hfBA13, hfBA14⟩ := cl5_ BA1.out))
   have HL := Aside0.mk (Kd.R_reads' HG.out).1; rw [HL.out]
   go_wp2_with (first | (go_at_call 18; (with_reducible refine (laws_heldInt64S.calls k Ag cg lk 1 th _ (Kd.R_reads' HG.out).2.2 (by have z_ := (Kd.R_reads' HG.out).2.1; rw [HL.out] at z_; exact z_) BH.out).mono ?_); rintro e w27 ⟨rfl, hd⟩; have hb := DB.out hd; have HB_ := Aside0.mk (below_step HB.out hb); have BA0_ := Aside0.mk (blk_below BA0.out hb); have BA1_ := Aside0.mk (blk_below BA1.out hb); have HS_ := Aside0.mk (Kd.R_below HS.out hb); have HG_ := Aside0.mk (Kd.R_below HG.out hb); clear hb hd; clear HB BA0 BA1 HS HG; have HB := HB_; have BA0 := BA0_; have BA1 := BA1_; have HS := HS_; have HG := HG_; clear HB_ BA0_ BA1_ HS_ HG_; clear hcBA00 hfBA00 hcBA01 hfBA01 hcBA10 hfBA10 hcBA11 hfBA11 hcBA12 hfBA12 hcBA13 hfBA13 hcBA14 hfBA14; obtain ⟨hcBA00, hcBA01, hfBA00, hfBA01⟩ := cl2_ BA0.out; obtain ⟨hcBA10, hcBA11, hcBA12, hcBA13, hcBA14, hfBA10, hfBA11, hfBA12, hfBA13, hfBA14⟩ := cl5_ BA1.out))
   (try go_wp2); have HS_ := Aside0.mk (Kd.R_drew HS.out); have HG_ := Aside0.mk (Kd.R_drew HG.out); have BA0_ := Aside0.mk (blk_drew BA0.out); have BA1_ := Aside0.mk (blk_drew BA1.out); have HB_ := Aside0.mk (below_drew1 HB.out); clear HS HG BA0 BA1 HB; have HS := HS_; have HG := HG_; have BA0 := BA0_; have BA1 := BA1_; have HB := HB_; clear HS_ HG_ BA0_ BA1_ HB_; clear hcBA00 hfBA00 hcBA01 hfBA01 hcBA10 hfBA10 hcBA11 hfBA11 hcBA12 hfBA12 hcBA13 hfBA13 hcBA14 hfBA14; refine start_ (n := 10) (S := fun w' => w'.cell? ⟨ga0, 0, none⟩ = some (.slice A0_0 l0_0.length c0_0) ∧ w'.cell? ⟨ga0, 1, none⟩ = some (.slice A0_1 l0_1.length c0_1) ∧ w'.cell? ⟨ga1, 0, none⟩ = some (.int .i64 a1_0) ∧ w'.cell? ⟨ga1, 1, none⟩ = some (.int .i64 a1_1) ∧ w'.cell? ⟨ga1, 2, none⟩ = some (.int .i64 a1_2) ∧ w'.cell? ⟨ga1, 3, none⟩ = some (.int .i64 a1_3) ∧ w'.cell? ⟨ga1, 4, none⟩ = some (.slice A1_4 l1_4.length c1_4)) (ds := []) p45_16000 kr_ rfl rfl ⟨(blk_cell BA0.out 0).trans rfl, (blk_cell BA0.out 1).trans rfl, (blk_cell BA1.out 0).trans rfl, (blk_cell BA1.out 1).trans rfl, (blk_cell BA1.out 2).trans rfl, (blk_cell BA1.out 3).trans rfl, (blk_cell BA1.out 4).trans rfl⟩ (fun hHeld => ?_); generalize w27.drew = w28 at HS HG BA0 BA1 HB hHeld ⊢; refine take_ (i := 0) (N := some 95) (v := ?_) (a' := ?_) p45_16001 rfl rfl kr_ (fun _ _ _ h => h) (Or.inl ⟨by rfl, ?_⟩) hHeld ?_ ?_; rotate_left
   ·rintro w' ⟨s0_, s1_, s2_, s3_, s4_, s5_, s6_⟩; go_simp; with_reducible rfl
   rotate_left
   ·simp only [Act.put, qa_, qz_, qs_, i64_w, i32_w]; rfl
   refine take_ (i := 2) (N := some 97) (v := ?_) (a' := ?_) p45_16002 rfl rfl kr_ (fun _ _ _ h => h) (Or.inl ⟨by rfl, ?_⟩) hHeld ?_ ?_; rotate_left
   ·rintro w' ⟨s0_, s1_, s2_, s3_, s4_, s5_, s6_⟩; go_simp; with_reducible rfl
   rotate_left
   ·simp only [Act.put, qa_, qz_, qs_, i64_w, i32_w]; rfl
   refine one_ (i := 1) (N := some 96) p45_16003 rfl rfl kr_ (by decide) (fun K hK => ?_); refine goes_ Try.func12 kr_ rfl #[.agg #[.slice A0_0 l0_0.length c0_0, .slice A0_1 l0_1.length c0_1]] (by rfl) rfl rfl km_ ?_
   (with_reducible refine (laws_toGround.calls k A0_0 c0_0 l0_0 A0_1 c0_1 l0_1 x0_0 x0_1 _ (Kd.C_below HR0_0.out HB.out) HC0_0.out (Kd.C_below HR0_1.out HB.out) HC0_1.out BT0.out).mono ?_)
   rintro e w29 ⟨v0, v1, rfl, ho0, ho1, hb⟩; refine ⟨_, rfl, ?_⟩; have HX0_0 := Aside0.mk ho0; have HX0_1 := Aside0.mk ho1; have HB_ := Aside0.mk (below_step HB.out hb); have BA0_ := Aside0.mk (blk_below BA0.out hb); have BA1_ := Aside0.mk (blk_below BA1.out hb); have HS_ := Aside0.mk (Kd.R_below HS.out hb); have HG_ := Aside0.mk (Kd.R_below HG.out hb); clear hb ho0 ho1; clear HB BA0 BA1 HS HG; have HB := HB_; have BA0 := BA0_; have BA1 := BA1_; have HS := HS_; have HG := HG_; clear HB_ BA0_ BA1_ HS_ HG_; obtain ⟨hcBA00, hcBA01, hfBA00, hfBA01⟩ := cl2_ BA0.out; obtain ⟨hcBA10, hcBA11, hcBA12, hcBA13, hcBA14, hfBA10, hfBA11, hfBA12, hfBA13, hfBA14⟩ := cl5_ BA1.out; clear hcBA00 hfBA00 hcBA01 hfBA01 hcBA10 hfBA10 hcBA11 hfBA11 hcBA12 hfBA12 hcBA13 hfBA13 hcBA14 hfBA14; obtain ⟨Ar0_0, cr0_0, er0_0⟩ := Kd.R_slice HX0_0.out; subst er0_0; obtain ⟨Ar0_1, cr0_1, er0_1⟩ := Kd.S_slice HX0_1.out; subst er0_1; refine hK.out _ _ ⟨(blk_cell BA0.out 0).trans rfl, (blk_cell BA0.out 1).trans rfl, (blk_cell BA1.out 0).trans rfl, (blk_cell BA1.out 1).trans rfl, (blk_cell BA1.out 2).trans rfl, (blk_cell BA1.out 3).trans rfl, (blk_cell BA1.out 4).trans rfl⟩ (fun hHeld => ?_); clear hK K; refine norm_ (a' := ?_) ?_ ?_; rotate_left
   ·show Act.put _ (some 96) _ = _
    simp only [Act.put, qa_, qz_, qs_, i64_w, i32_w]; rfl
   refine one_ (i := 3) (N := some 98) p45_16004 rfl rfl kr_ (by decide) (fun K hK => ?_); refine goes_ Try.func40 kr_ rfl #[.agg #[.int .i64 a1_0, .int .i64 a1_1, .int .i64 a1_2, .int .i64 a1_3, .slice A1_4 l1_4.length c1_4]] (by rfl) rfl rfl km_ ?_
   (with_reducible refine (laws_toAxis.calls k a1_0 a1_1 a1_2 a1_3 A1_4 c1_4 l1_4 x1_0 x1_1 x1_2 x1_3 x1_4 _ (Kd.C_below HR1_4.out HB.out) HC1_4.out BT1.out).mono ?_)
   rintro e w30 ⟨v0, rfl, ho0, hb⟩; refine ⟨_, rfl, ?_⟩; have HX1_4 := Aside0.mk ho0; have HB_ := Aside0.mk (below_step HB.out hb); have BA0_ := Aside0.mk (blk_below BA0.out hb); have BA1_ := Aside0.mk (blk_below BA1.out hb); have HS_ := Aside0.mk (Kd.R_below HS.out hb); have HG_ := Aside0.mk (Kd.R_below HG.out hb); have HX0_0_ := Aside0.mk (Kd.R_below HX0_0.out hb); have HX0_1_ := Aside0.mk (Kd.S_below HX0_1.out hb); clear hb ho0; clear HB BA0 BA1 HS HG HX0_0 HX0_1; have HB := HB_; have BA0 := BA0_; have BA1 := BA1_; have HS := HS_; have HG := HG_; have HX0_0 := HX0_0_; have HX0_1 := HX0_1_; clear HB_ BA0_ BA1_ HS_ HG_ HX0_0_ HX0_1_; obtain ⟨hcBA00, hcBA01, hfBA00, hfBA01⟩ := cl2_ BA0.out; obtain ⟨hcBA10, hcBA11, hcBA12, hcBA13, hcBA14, hfBA10, hfBA11, hfBA12, hfBA13, hfBA14⟩ := cl5_ BA1.out; clear hcBA00 hfBA00 hcBA01 hfBA01 hcBA10 hfBA10 hcBA11 hfBA11 hcBA12 hfBA12 hcBA13 hfBA13 hcBA14 hfBA14; obtain ⟨Ar1_4, cr1_4, er1_4⟩ := Kd.R_slice HX1_4.out; subst er1_4; refine hK.out _ _ ⟨(blk_cell BA0.out 0).trans rfl, (blk_cell BA0.out 1).trans rfl, (blk_cell BA1.out 0).trans rfl, (blk_cell BA1.out 1).trans rfl, (blk_cell BA1.out 2).trans rfl, (blk_cell BA1.out 3).trans rfl, (blk_cell BA1.out 4).trans rfl⟩ (fun hHeld => ?_); clear hK K; refine norm_ (a' := ?_) ?_ ?_; rotate_left
   ·show Act.put _ (some 98) _ = _
    simp only [Act.put, qa_, qz_, qs_, i64_w, i32_w]; rfl
   refine one_ (i := 4) (N := some 99) p45_16005 rfl rfl kr_ (by decide) (fun K hK => ?_); refine goes_ Try.func26 kr_ rfl #[.agg #[.slice Ar0_0 x0_0.length cr0_0, .slice Ar0_1 x0_1.length cr0_1], .agg #[.int .i64 x1_0, .int .i64 x1_1, .int .i64 x1_2, .int .i64 x1_3, .slice Ar1_4 x1_4.length cr1_4]] (by rfl) rfl rfl km_ ?_
   (with_reducible refine (impl_PrognosisOf.calls k Ar0_0 cr0_0 x0_0 Ar0_1 cr0_1 x0_1 x1_0 x1_1 x1_2 x1_3 Ar1_4 cr1_4 x1_4 g0 g1 _ (Kd.R_reads' HX0_0.out).2.2 (Kd.R_reads' HX0_0.out).2.1 (Kd.S_reads' HX0_1.out).2.2 (Kd.S_reads' HX0_1.out).2.1 (Kd.R_reads' HX1_4.out).2.2 (Kd.R_reads' HX1_4.out).2.1 BG.out).mono ?_)
   rintro e w31 ⟨v0, rfl, ho, hb⟩; refine ⟨_, rfl, ?_⟩; have HO := Aside0.mk ho; have HB_ := Aside0.mk (below_step HB.out hb); have BA0_ := Aside0.mk (blk_below BA0.out hb); have BA1_ := Aside0.mk (blk_below BA1.out hb); have HS_ := Aside0.mk (Kd.R_below HS.out hb); have HG_ := Aside0.mk (Kd.R_below HG.out hb); clear hb ho HX0_0 HX0_1 HX1_4; clear HB BA0 BA1 HS HG; have HB := HB_; have BA0 := BA0_; have BA1 := BA1_; have HS := HS_; have HG := HG_; clear HB_ BA0_ BA1_ HS_ HG_; obtain ⟨hcBA00, hcBA01, hfBA00, hfBA01⟩ := cl2_ BA0.out; obtain ⟨hcBA10, hcBA11, hcBA12, hcBA13, hcBA14, hfBA10, hfBA11, hfBA12, hfBA13, hfBA14⟩ := cl5_ BA1.out; clear hcBA00 hfBA00 hcBA01 hfBA01 hcBA10 hfBA10 hcBA11 hfBA11 hcBA12 hfBA12 hcBA13 hfBA13 hcBA14 hfBA14; refine hK.out _ _ ⟨(blk_cell BA0.out 0).trans rfl, (blk_cell BA0.out 1).trans rfl, (blk_cell BA1.out 0).trans rfl, (blk_cell BA1.out 1).trans rfl, (blk_cell BA1.out 2).trans rfl, (blk_cell BA1.out 3).trans rfl, (blk_cell BA1.out 4).trans rfl⟩ (fun hHeld => ?_); clear hK K; refine norm_ (a' := ?_) ?_ ?_; rotate_left
   ·show Act.put _ (some 99) _ = _
    simp only [Act.put, qa_, qz_, qs_, i64_w, i32_w]; rfl
   refine pure_ (i := 5) (N := some 94) (v := ?_) (a' := ?_) p45_16006 rfl rfl kr_ (fun _ _ _ h => h) (Or.inl ⟨by rfl, ?_⟩) ?_ ?_; rotate_left
   ·intro w'; go_simp; with_reducible rfl
   rotate_left
   ·simp only [Act.put, qa_, qz_, qs_, i64_w, i32_w]; rfl
   refine pure_ (i := 6) (N := some 100) (v := ?_) (a' := ?_) p45_16007 rfl rfl kr_ (fun _ _ _ h => h) (Or.inl ⟨by rfl, ?_⟩) ?_ ?_; rotate_left
   ·intro w'; go_simp; with_reducible rfl
   rotate_left
   ·simp only [Act.put, qa_, qz_, qs_, i64_w, i32_w]; rfl
   refine pure_ (i := 7) (N := some 101) (v := ?_) (a' := ?_) p45_16008 rfl rfl kr_ (fun _ _ _ h => h) (Or.inl ⟨by rfl, ?_⟩) ?_ ?_; rotate_left
   ·intro w'; go_simp; with_reducible rfl
   rotate_left
   ·simp only [Act.put, qa_, qz_, qs_, i64_w, i32_w]; rfl
   refine pure_ (i := 8) (N := some 15) (v := ?_) (a' := ?_) p45_16009 rfl rfl kr_ (fun _ _ _ h => h) (Or.inl ⟨by rfl, ?_⟩) ?_ ?_; rotate_left
   ·intro w'; go_simp; with_reducible rfl
   rotate_left
   ·simp only [Act.put, qa_, qz_, qs_, i64_w, i32_w]; rfl
   refine pure_ (i := 9) (N := some 16) (v := ?_) (a' := ?_) p45_16010 rfl rfl kr_ (fun _ _ _ h => h) (Or.inl ⟨by rfl, ?_⟩) ?_ ?_; rotate_left
   ·intro w'; go_simp; with_reducible rfl
   rotate_left
   ·simp only [Act.put, qa_, qz_, qs_, i64_w, i32_w]; rfl
   refine done_ kr_ ?_; obtain ⟨hcBA00, hcBA01, hfBA00, hfBA01⟩ := cl2_ BA0.out; obtain ⟨hcBA10, hcBA11, hcBA12, hcBA13, hcBA14, hfBA10, hfBA11, hfBA12, hfBA13, hfBA14⟩ := cl5_ BA1.out; obtain ⟨Ah, ch, eh⟩ := Kd.R_slice HO.out; subst eh
   go_wp2_with (first | (go_at_call 14; (with_reducible refine (laws_eqInt64S.calls k Ah ch g0 As cs s0 true _ (Kd.R_reads' HO.out).2.2 (Kd.R_reads' HO.out).2.1 (Kd.R_reads' HS.out).2.2 (Kd.R_reads' HS.out).2.1 BE.out).mono ?_); rintro e w32 ⟨rfl, hd⟩; have hb := DB.out hd; have HB_ := Aside0.mk (below_step HB.out hb); have BA0_ := Aside0.mk (blk_below BA0.out hb); have BA1_ := Aside0.mk (blk_below BA1.out hb); have HS_ := Aside0.mk (Kd.R_below HS.out hb); have HG_ := Aside0.mk (Kd.R_below HG.out hb); clear hb hd HO; clear HB BA0 BA1 HS HG; have HB := HB_; have BA0 := BA0_; have BA1 := BA1_; have HS := HS_; have HG := HG_; clear HB_ BA0_ BA1_ HS_ HG_; clear hcBA00 hfBA00 hcBA01 hfBA01 hcBA10 hfBA10 hcBA11 hfBA11 hcBA12 hfBA12 hcBA13 hfBA13 hcBA14 hfBA14; obtain ⟨hcBA00, hcBA01, hfBA00, hfBA01⟩ := cl2_ BA0.out; obtain ⟨hcBA10, hcBA11, hcBA12, hcBA13, hcBA14, hfBA10, hfBA11, hfBA12, hfBA13, hfBA14⟩ := cl5_ BA1.out))
   go_wp2_with (first | (go_at_call 18; (with_reducible refine (laws_heldInt64S.calls k Ag cg lk 1 th _ (Kd.R_reads' HG.out).2.2 (by have z_ := (Kd.R_reads' HG.out).2.1; rw [HL.out] at z_; exact z_) BH.out).mono ?_); rintro e w33 ⟨rfl, hd⟩; have hb := DB.out hd; have HB_ := Aside0.mk (below_step HB.out hb); have BA0_ := Aside0.mk (blk_below BA0.out hb); have BA1_ := Aside0.mk (blk_below BA1.out hb); have HS_ := Aside0.mk (Kd.R_below HS.out hb); have HG_ := Aside0.mk (Kd.R_below HG.out hb); clear hb hd; clear HB BA0 BA1 HS HG; have HB := HB_; have BA0 := BA0_; have BA1 := BA1_; have HS := HS_; have HG := HG_; clear HB_ BA0_ BA1_ HS_ HG_; clear hcBA00 hfBA00 hcBA01 hfBA01 hcBA10 hfBA10 hcBA11 hfBA11 hcBA12 hfBA12 hcBA13 hfBA13 hcBA14 hfBA14; obtain ⟨hcBA00, hcBA01, hfBA00, hfBA01⟩ := cl2_ BA0.out; obtain ⟨hcBA10, hcBA11, hcBA12, hcBA13, hcBA14, hfBA10, hfBA11, hfBA12, hfBA13, hfBA14⟩ := cl5_ BA1.out))
   go_ret
   exact ⟨by first | rfl | (simp; done) | (simp [*]; done) | (simp [tz_, *]; done), kh0_ HB.out⟩

def laws_FnExactPrognosisOf.Pure : Prop := ∀ (l0_0 : List Int) (l0_1 : List (S55)) (a1_0 : Int) (a1_1 : Int) (a1_2 : Int) (a1_3 : Int) (l1_4 : List (S133)), Opn.WfL (fun a_ => (Lit.int .i64 a_).wf = true) l0_0 → Opn.WfL W55 l0_1 → (Lit.int .i64 a1_0).wf = true → (Lit.int .i64 a1_1).wf = true → (Lit.int .i64 a1_2).wf = true → (Lit.int .i64 a1_3).wf = true → Opn.WfL W133 l1_4 → ∃ k, laws_FnExactPrognosisOf.f k l0_0 l0_1 a1_0 a1_1 a1_2 a1_3 l1_4 = some true
theorem laws_FnExactPrognosisOf.walk (P : laws_FnExactPrognosisOf.Pure) (A0_0 : Option Addr) (c0_0 : Nat) (l0_0 : List Int) (A0_1 : Option Addr) (c0_1 : Nat) (l0_1 : List (S55)) (a1_0 : Int) (a1_1 : Int) (a1_2 : Int) (a1_3 : Int) (A1_4 : Option Addr) (c1_4 : Nat) (l1_4 : List (S133)) (w : World) (hr0_0 : Kd.C (Kd.int .i64) w A0_0 l0_0.length l0_0) (hc0_0 : l0_0.length ≤ c0_0) (hr0_1 : Kd.C k55 w A0_1 l0_1.length l0_1) (hc0_1 : l0_1.length ≤ c0_1) (hr1_4 : Kd.C k133 w A1_4 l1_4.length l1_4) (hc1_4 : l1_4.length ≤ c1_4) (w0_0 : Opn.WfL (fun a_ => (Lit.int .i64 a_).wf = true) l0_0) (w0_1 : Opn.WfL W55 l0_1) (w1_0 : (Lit.int .i64 a1_0).wf = true) (w1_1 : (Lit.int .i64 a1_1).wf = true) (w1_2 : (Lit.int .i64 a1_2).wf = true) (w1_3 : (Lit.int .i64 a1_3).wf = true) (w1_4 : Opn.WfL W133 l1_4) :
  Calls Try.prog 9 #[.agg #[.slice A0_0 l0_0.length c0_0, .slice A0_1 l0_1.length c0_1], .agg #[.int .i64 a1_0, .int .i64 a1_1, .int .i64 a1_2, .int .i64 a1_3, .slice A1_4 l1_4.length c1_4]] w fun e w' => e = .returned (.bool true) ∧ Below w.heap.size w w' := by
 obtain ⟨k, h⟩ := P l0_0 l0_1 a1_0 a1_1 a1_2 a1_3 l1_4 w0_0 w0_1 w1_0 w1_1 w1_2 w1_3 w1_4
 refine (laws_FnExactPrognosisOf.calls k A0_0 c0_0 l0_0 A0_1 c0_1 l0_1 a1_0 a1_1 a1_2 a1_3 A1_4 c1_4 l1_4 true w hr0_0 hc0_0 hr0_1 hc0_1 hr1_4 hc1_4 h).mono ?_
 rintro e w' ⟨rfl, hd⟩
 exact ⟨rfl, hd⟩

/- Numbers in a range, as the program asks it of a list. -/
open Go.RowKit Go.Proofs.Ytgfpbiaocokdeaa.P Go.Proofs.YtgfpbiaocokdeaaW.PrintWords Go.Proofs.YtgfpbiaocokdeaaW.PrintLast Go.Proofs.YtgfpbiaocokdeaaW.PrintMore
set_option linter.unusedVariables false
set_option linter.unusedSimpArgs false
theorem areWithin2 (a b lo hi : Int) : impl_areWithin.all lo hi [a, b] = (decide (lo ≤ a ∧ a ≤ hi) && decide (lo ≤ b ∧ b ≤ hi)) := by
  simp [impl_areWithin.all]

/- Plain facts on numbers and lists that every loop's lemma uses. -/
theorem w64 (x : Int) (h1 : -9223372036854775808 ≤ x) (h2 : x ≤ 9223372036854775807) : wrap64 x = x := by unfold wrap64; omega
theorem w64s (i : Nat) (h : i < 9223372036854775807) : wrap64 ((i : Int) + 1) = ((i + 1 : Nat) : Int) := by unfold wrap64; omega
theorem rd_at (l : List Int) (i : Nat) (h : i < l.length) : rd l (i : Int) = l[i] := by
  unfold rd
  rw [Int.toNat_natCast, List.getD_eq_getElem?_getD, List.getElem?_eq_getElem h]
  rfl
theorem drop_at (l : List Int) (i : Nat) (h : i < l.length) : l.drop i = rd l (i : Int) :: l.drop (i + 1) := by
  rw [rd_at l i h, List.drop_eq_getElem_cons h]
theorem fill_step {α : Type} (l acc : List α) (i : Nat) (x : α) (hi : i < l.length) (hl : acc.length = l.length) (h : acc.take i = l.take i) (hx : l[i] = x) : (acc.set i x).take (i + 1) = l.take (i + 1) := by
  subst hx
  have hi2 : i < (acc.set i l[i]).length := by rw [List.length_set]; omega
  rw [List.take_succ_eq_append_getElem hi2, List.take_succ_eq_append_getElem hi, List.getElem_set_self, List.take_set_of_le (Nat.le_refl i), h]
def iota (m : Int) : Nat → List Int
  | 0 => []
  | n + 1 => m :: iota (m + 1) n
theorem iota_length (m : Int) (n : Nat) : (iota m n).length = n := by
  induction n generalizing m with
  | zero => rfl
  | succ n ih => simp [iota, ih]
theorem iota_get (m : Int) (n i : Nat) (h : i < (iota m n).length) : (iota m n)[i] = m + i := by
  induction n generalizing m i with
  | zero => rw [iota_length] at h; omega
  | succ n ih =>
    cases i with
    | zero => simp [iota]
    | succ i =>
      have h2 : i < (iota (m + 1) n).length := by rw [iota_length] at h ⊢; omega
      simp only [iota, List.getElem_cons_succ]
      rw [ih (m + 1) i h2]
      omega
theorem bind_some_ {α β : Type} (a : α) (f : α → Option β) : (some a).bind f = f a := rfl
theorem ite_tt (b r : Bool) : (if b = true then some r else some false) = some (b && r) := by cases b <;> rfl
theorem ite_ff (p : Prop) [Decidable p] (r : Bool) : (if p then some false else some r) = some (!decide p && r) := by by_cases h : p <;> simp [h]
theorem not_ge_dec (a b : Int) : (!decide (a ≥ b)) = decide (a < b) := by by_cases h : a < b <;> simp [h] <;> omega

/- A number lies in a range, as the reference asks it. -/
theorem in_is (a b c : Int) : spec_l00In.f a b c = some (decide (b ≤ a ∧ a ≤ c)) := by
  unfold spec_l00In.f
  by_cases h : b ≤ a <;> simp [h]

/- The poses of an axis and what is asked of it, plainly. -/
def nextP (p : S44) (t : S124) : S44 := ⟨wrap64 (p.f0 + p.f2), wrap64 (p.f1 + p.f3), wrap64 (p.f2 + t.f1), wrap64 (p.f3 + t.f2)⟩
def walkT (p : S44) : List S124 → List S44
  | [] => []
  | t :: ts => nextP p t :: walkT (nextP p t) ts
def endT (p : S44) : List S124 → S44
  | [] => p
  | t :: ts => endT (nextP p t) ts
def repsT (n : Nat) (c : S124) : List S124 := List.replicate n ⟨1, c.f1, c.f2⟩
def turnsOf : List S124 → List S124
  | [] => []
  | c :: cs => repsT c.f0.toNat c ++ turnsOf cs
theorem walkT_append (b : List S124) : ∀ (a : List S124) (p : S44), walkT p (a ++ b) = walkT p a ++ walkT (endT p a) b
  | [], p => rfl
  | t :: a, p => by simp only [List.cons_append, walkT, endT, walkT_append b a]
theorem walkT_len : ∀ (a : List S124) (p : S44), (walkT p a).length = a.length
  | [], p => rfl
  | t :: a, p => by simp only [walkT, List.length_cons, walkT_len a]
theorem walkT_end : ∀ (a : List S124) (p : S44), ∃ pre : List S44, p :: walkT p a = pre ++ [endT p a] ∧ pre.length = a.length
  | [], p => ⟨[], rfl, rfl⟩
  | t :: a, p => by
    obtain ⟨pre, h1, h2⟩ := walkT_end a (nextP p t)
    exact ⟨p :: pre, by simp only [walkT, endT, h1, List.cons_append], by simp [h2]⟩
def poseOk (p : S44) : Bool := (decide (-100000 ≤ p.f0 ∧ p.f0 ≤ 100000) && decide (-100000 ≤ p.f1 ∧ p.f1 ≤ 100000)) && (decide (-400 ≤ p.f2 ∧ p.f2 ≤ 400) && decide (-400 ≤ p.f3 ∧ p.f3 ≤ 400))
def turnOk (a b : Int) : Bool := decide (-12 ≤ a ∧ a ≤ 12) && decide (-12 ≤ b ∧ b ≤ 12)
def curvesOk : List S124 → Int → S44 → Bool
  | [], _, _ => true
  | c :: cs, n, p => (decide (1 ≤ c.f0 ∧ c.f0 ≤ 60 - n) && turnOk c.f1 c.f2) && ((walkT p (repsT c.f0.toNat c)).all poseOk && curvesOk cs (n + c.f0) (endT p (repsT c.f0.toNat c)))
def axOk (p : S44) (cs : List S124) : Bool := poseOk p && (decide (1 ≤ (cs.length : Int) ∧ (cs.length : Int) ≤ 8) && curvesOk cs 0 p)
def posesOf (p : S44) (cs : List S124) : List S44 := p :: walkT p (turnsOf cs)
theorem implPose_is (a b c d : Int) : impl_ValidPose.f a b c d = some (poseOk ⟨a, b, c, d⟩) := by
  unfold impl_ValidPose.f impl_areWithin.f poseOk
  rw [bind_some_, bind_some_, areWithin2, areWithin2]
  dsimp only
  cases (decide (-100000 ≤ a ∧ a ≤ 100000) && decide (-100000 ≤ b ∧ b ≤ 100000)) <;> simp
theorem specPose_is (a b c d : Int) : spec_l02Pose.f a b c d = some (poseOk ⟨a, b, c, d⟩) := by
  unfold spec_l02Pose.f poseOk
  simp only [in_is, bind_some_]
  cases decide (-100000 ≤ a ∧ a ≤ 100000) <;> cases decide (-100000 ≤ b ∧ b ≤ 100000) <;> cases decide (-400 ≤ c ∧ c ≤ 400) <;> simp
theorem implTurn_is (a b : Int) : impl_isTurn.f a b = some (turnOk a b) := by
  unfold impl_isTurn.f impl_areWithin.f turnOk
  rw [bind_some_, areWithin2]
theorem specTurn_is (a b : Int) : spec_l02Turn.f a b = some (turnOk a b) := by
  unfold spec_l02Turn.f turnOk
  simp only [in_is, bind_some_]
  cases decide (-12 ≤ a ∧ a ≤ 12) <;> simp
theorem rdPose_at (l : List S44) (i : Nat) (h : i < l.length) : rd_T44 l (i : Int) = l[i] := by
  unfold rd_T44
  rw [Int.toNat_natCast, List.getD_eq_getElem?_getD, List.getElem?_eq_getElem h]
  rfl
theorem rdPose_last (pre : List S44) (p : S44) : rd_T44 (pre ++ [p]) (pre.length : Int) = p := by
  rw [rdPose_at _ _ (by simp)]
  simp
theorem curves_short : ∀ (cs : List S124) (n : Int) (p : S44), 0 ≤ n → curvesOk cs n p = true → (∀ c ∈ cs, 1 ≤ c.f0 ∧ c.f0 ≤ 60) ∧ (n ≤ 60 → ((turnsOf cs).length : Int) + n ≤ 60)
  | [], n, p, _, _ => ⟨by simp, fun h => by simp [turnsOf]; omega⟩
  | c :: cs, n, p, hn, h => by
    simp only [curvesOk, Bool.and_eq_true, decide_eq_true_eq] at h
    obtain ⟨⟨h1, _⟩, _, h2⟩ := h
    obtain ⟨i1, i2⟩ := curves_short cs (n + c.f0) _ (by omega) h2
    refine ⟨?_, fun h3 => ?_⟩
    · intro x hx
      rcases List.mem_cons.mp hx with e | e
      · rw [e]; omega
      · exact i1 x e
    · have := i2 (by omega)
      simp only [turnsOf, List.length_append, repsT, List.length_replicate]
      omega
theorem repsT_succ (d : Nat) (c : S124) : repsT (d + 1) c = ⟨1, c.f1, c.f2⟩ :: repsT d c := rfl
theorem curvesOk_cons (c : S124) (cs : List S124) (n : Int) (p : S44) : curvesOk (c :: cs) n p = ((decide (1 ≤ c.f0 ∧ c.f0 ≤ 60 - n) && turnOk c.f1 c.f2) && ((walkT p (repsT c.f0.toNat c)).all poseOk && curvesOk cs (n + c.f0) (endT p (repsT c.f0.toNat c)))) := rfl

/- Two lists of numbers are compared. -/
theorem eqInt_loop (a b : List Int) (hl : a.length = b.length) (hb : a.length ≤ 9223372036854775807) : ∀ (d k i : Nat), i + d = a.length → d < k → laws_eqInt64S.l0 k a b i = some (decide (a.drop i = b.drop i)) := by
  intro d
  induction d with
  | zero =>
    intro k i hi hk
    obtain ⟨k, rfl⟩ : ∃ m, k = m + 1 := ⟨k - 1, by omega⟩
    simp only [laws_eqInt64S.l0]
    rw [if_neg (by omega), List.drop_of_length_le (by omega), List.drop_of_length_le (by omega)]
    simp
  | succ d ih =>
    intro k i hi hk
    obtain ⟨k, rfl⟩ : ∃ m, k = m + 1 := ⟨k - 1, by omega⟩
    simp only [laws_eqInt64S.l0]
    rw [if_pos (by omega), if_pos (by omega), if_pos (by omega), w64s i (by omega), ih k (i + 1) (by omega) (by omega), drop_at a i (by omega), drop_at b i (by omega)]
    by_cases h : rd a i = rd b i
    · rw [if_pos h]; simp [h]
    · rw [if_neg h]; simp [h]
theorem eqInt_is (k : Nat) (a b : List Int) (hb : a.length ≤ 9223372036854775807) (hk : a.length < k) : laws_eqInt64S.f k a b = some (decide (a = b)) := by
  unfold laws_eqInt64S.f
  by_cases h : a.length = b.length
  · rw [if_pos (by omega)]
    have := eqInt_loop a b h hb a.length k 0 (by omega) hk
    simpa using this
  · rw [if_neg (by omega)]
    have : a ≠ b := fun e => h (by rw [e])
    simp [this]

/- A list of numbers is copied. -/
theorem toInt_loop (l : List Int) (hb : l.length ≤ 9223372036854775807) : ∀ (d k i : Nat) (acc : List Int), i + d = l.length → d < k → acc.length = l.length → acc.take i = l.take i → laws_toInt64S.l0 k l acc i = some l := by
  intro d
  induction d with
  | zero =>
    intro k i acc hi hk ha ht
    obtain ⟨k, rfl⟩ : ∃ m, k = m + 1 := ⟨k - 1, by omega⟩
    simp only [laws_toInt64S.l0]
    rw [if_neg (by omega)]
    rw [List.take_of_length_le (by omega), List.take_of_length_le (by omega)] at ht
    rw [ht]
  | succ d ih =>
    intro k i acc hi hk ha ht
    obtain ⟨k, rfl⟩ : ∃ m, k = m + 1 := ⟨k - 1, by omega⟩
    simp only [laws_toInt64S.l0]
    rw [if_pos (by omega), if_pos (by omega), if_pos (by omega), w64s i (by omega), Int.toNat_natCast]
    exact ih k (i + 1) _ (by omega) (by omega) (by rw [List.length_set]; exact ha) (fill_step l acc i _ (by omega) ha ht (rd_at l i (by omega)).symm)
theorem toInt_is (k : Nat) (l : List Int) (hb : l.length ≤ 35184372088832) (hk : l.length < k) : laws_toInt64S.f k l = some l := by
  unfold laws_toInt64S.f
  rw [if_pos (by omega), if_pos (by omega)]
  exact toInt_loop l (by omega) l.length k 0 _ (by omega) hk (by simp) (by simp)

/- A list of the law's own structs that hold lists is copied into the program's, measured, and equal to itself. -/
def toHole (x : S55) : S59 := ⟨x.f0, x.f1⟩
theorem rdLHole_at (l : List S55) (i : Nat) (h : i < l.length) : rd_T55 l (i : Int) = l[i] := by
  unfold rd_T55
  rw [Int.toNat_natCast, List.getD_eq_getElem?_getD, List.getElem?_eq_getElem h]
  rfl
theorem rdHole_at (l : List S59) (i : Nat) (h : i < l.length) : rd_T59 l (i : Int) = l[i] := by
  unfold rd_T59
  rw [Int.toNat_natCast, List.getD_eq_getElem?_getD, List.getElem?_eq_getElem h]
  rfl
def shortH (l : List S59) : Prop := l.length ≤ 1048576 ∧ ∀ s ∈ l, s.f1.length ≤ 1048576
theorem shortH_at {l : List S59} (h : shortH l) (i : Nat) (hi : i < l.length) : (rd_T59 l (i : Int)).f1.length ≤ 1048576 := by
  rw [rdHole_at l i hi]
  exact h.2 _ (List.getElem_mem hi)
theorem toHoleS_loop (l : List S55) (hb : l.length ≤ 9223372036854775806) (hs : ∀ s ∈ l, s.f1.length ≤ 1048576) : ∀ (d k i : Nat) (acc : List S59), i + d = l.length → d + 1048576 < k → acc.length = l.length → acc.take i = (l.map toHole).take i → laws_toHoleS.l0 k l acc i = some (l.map toHole) := by
  intro d
  induction d with
  | zero =>
    intro k i acc hi hk ha ht
    obtain ⟨k, rfl⟩ : ∃ m, k = m + 1 := ⟨k - 1, by omega⟩
    simp only [laws_toHoleS.l0]
    rw [if_neg (by omega)]
    rw [List.take_of_length_le (by omega), List.take_of_length_le (by rw [List.length_map]; omega)] at ht
    rw [ht]
  | succ d ih =>
    intro k i acc hi hk ha ht
    obtain ⟨k, rfl⟩ : ∃ m, k = m + 1 := ⟨k - 1, by omega⟩
    have h1 : (rd_T55 l (i : Int)).f1.length ≤ 1048576 := by
      rw [rdLHole_at l i (by omega)]
      exact hs _ (List.getElem_mem _)
    simp only [laws_toHoleS.l0, laws_toHole.f]
    rw [if_pos (by omega), if_pos (by omega), toInt_is k _ (by omega) (by omega), bind_some_, bind_some_, if_pos (by omega), w64s i (by omega), Int.toNat_natCast]
    refine ih k (i + 1) _ (by omega) (by omega) (by rw [List.length_set]; exact ha) (fill_step (l.map toHole) acc i _ (by rw [List.length_map]; omega) (by rw [List.length_map]; exact ha) ht ?_)
    rw [List.getElem_map, rdLHole_at l i (by omega)]
    rfl
theorem toHoleS_is (k : Nat) (l : List S55) (hb : l.length ≤ 1048576) (hs : ∀ s ∈ l, s.f1.length ≤ 1048576) (hk : l.length + 1048576 < k) : laws_toHoleS.f k l = some (l.map toHole) := by
  unfold laws_toHoleS.f
  rw [if_pos (by omega), if_pos (by omega)]
  exact toHoleS_loop l (by omega) hs l.length k 0 _ (by omega) hk (by simp) (by simp)
theorem toHole_short {l : List S55} (hb : l.length ≤ 1048576) (hs : ∀ s ∈ l, s.f1.length ≤ 1048576) : shortH (l.map toHole) := by
  refine ⟨by rw [List.length_map]; exact hb, ?_⟩
  intro s h
  obtain ⟨t, h1, rfl⟩ := List.mem_map.mp h
  exact hs t h1
theorem szHoleS_loop (l : List S55) (hb : l.length ≤ 9223372036854775806) (hw : ∀ s ∈ l, s.f1.length ≤ 9223372036854775807) : ∀ (d k i : Nat) (left : Int), i + d = l.length → d < k → 0 ≤ left → left ≤ 1048576 → (∀ j : Nat, j < i → (rd_T55 l (j : Int)).f1.length ≤ 1048576) → ∃ r, laws_szHoleS.l0 k l left i = some r ∧ (r < 0 ∨ (0 ≤ r ∧ ∀ s ∈ l, s.f1.length ≤ 1048576)) := by
  intro d
  induction d with
  | zero =>
    intro k i left hi hk h0 h1 hj
    obtain ⟨k, rfl⟩ : ∃ m, k = m + 1 := ⟨k - 1, by omega⟩
    simp only [laws_szHoleS.l0]
    rw [if_neg (by omega)]
    refine ⟨_, rfl, Or.inr ⟨h0, ?_⟩⟩
    intro s hs
    obtain ⟨j, hj1, rfl⟩ := List.getElem_of_mem hs
    have := hj j (by omega)
    rwa [rdLHole_at l j hj1] at this
  | succ d ih =>
    intro k i left hi hk h0 h1 hj
    obtain ⟨k, rfl⟩ : ∃ m, k = m + 1 := ⟨k - 1, by omega⟩
    have h2 : (rd_T55 l (i : Int)).f1.length ≤ 9223372036854775807 := by
      rw [rdLHole_at l i (by omega)]
      exact hw _ (List.getElem_mem _)
    simp only [laws_szHoleS.l0, laws_szHole.f, laws_szInt64S.f]
    rw [if_pos (by omega), if_pos (by omega), w64 (left - ((rd_T55 l (i : Int)).f1.length : Int)) (by omega) (by omega), w64s i (by omega)]
    by_cases h3 : left - ((rd_T55 l (i : Int)).f1.length : Int) < 0
    · rw [if_pos h3, bind_some_, if_pos (by omega), bind_some_, if_pos (by omega)]
      exact ⟨_, rfl, Or.inl (by omega)⟩
    · rw [if_neg h3, bind_some_, if_neg h3, bind_some_, if_neg h3]
      refine ih k (i + 1) _ (by omega) (by omega) (by omega) (by omega) ?_
      intro j hj2
      by_cases e : j = i
      · rw [e]; omega
      · exact hj j (by omega)
theorem szHoleS_is (k : Nat) (l : List S55) (left : Int) (hb : l.length ≤ 9223372036854775807) (hw : ∀ s ∈ l, s.f1.length ≤ 9223372036854775807) (hl : 0 ≤ left) (hl2 : left ≤ 1048576) (hk : 1048577 < k) : ∃ r, laws_szHoleS.f k l left = some r ∧ (r < 0 ∨ (l.length ≤ 1048576 ∧ ∀ s ∈ l, s.f1.length ≤ 1048576)) := by
  unfold laws_szHoleS.f
  rw [w64 (left - (l.length : Int)) (by omega) (by omega)]
  by_cases h3 : left - (l.length : Int) < 0
  · rw [if_pos h3]
    exact ⟨_, rfl, Or.inl (by omega)⟩
  · rw [if_neg h3]
    obtain ⟨r, hr, hs⟩ := szHoleS_loop l (by omega) hw l.length k 0 (left - (l.length : Int)) (by omega) (by omega) (by omega) (by omega) (by intro j hj; omega)
    exact ⟨r, hr, hs.imp id (fun h => ⟨by omega, h.2⟩)⟩
theorem eqHoleS_loop (a : List S59) (hs : shortH a) : ∀ (d k i : Nat), i + d = a.length → d + 1048576 < k → laws_eqHoleS.l0 k a a i = some true := by
  intro d
  have hb := hs.1
  induction d with
  | zero =>
    intro k i hi hk
    obtain ⟨k, rfl⟩ : ∃ m, k = m + 1 := ⟨k - 1, by omega⟩
    simp only [laws_eqHoleS.l0]
    rw [if_neg (by omega)]
  | succ d ih =>
    intro k i hi hk
    obtain ⟨k, rfl⟩ : ∃ m, k = m + 1 := ⟨k - 1, by omega⟩
    have h1 := shortH_at hs i (by omega)
    simp only [laws_eqHoleS.l0, laws_eqHole.f, if_true]
    rw [if_pos (by omega), if_pos (by omega), if_pos (by omega), eqInt_is k _ _ (by omega) (by omega), bind_some_, if_pos (decide_eq_true rfl), bind_some_, if_pos rfl, w64s i (by omega)]
    exact ih k (i + 1) (by omega) (by omega)
theorem eqHoleS_refl (k : Nat) (a : List S59) (hs : shortH a) (hk : a.length + 1048576 < k) : laws_eqHoleS.f k a a = some true := by
  unfold laws_eqHoleS.f
  rw [if_pos rfl]
  exact eqHoleS_loop a hs a.length k 0 (by omega) hk
theorem szHoleS_le0 (l : List S55) (hb : l.length ≤ 9223372036854775806) (hw : ∀ s ∈ l, s.f1.length ≤ 9223372036854775807) : ∀ (d k i : Nat) (left : Int), i + d = l.length → d < k → 0 ≤ left → left ≤ 1048576 → ∀ r, laws_szHoleS.l0 k l left i = some r → r ≤ 1048576 := by
  intro d
  induction d with
  | zero =>
    intro k i left hi hk h0 h1 r hr
    obtain ⟨k, rfl⟩ : ∃ m, k = m + 1 := ⟨k - 1, by omega⟩
    simp only [laws_szHoleS.l0] at hr
    rw [if_neg (by omega)] at hr
    have := Option.some.inj hr
    omega
  | succ d ih =>
    intro k i left hi hk h0 h1 r hr
    obtain ⟨k, rfl⟩ : ∃ m, k = m + 1 := ⟨k - 1, by omega⟩
    have h2 : (rd_T55 l (i : Int)).f1.length ≤ 9223372036854775807 := by
      rw [rdLHole_at l i (by omega)]
      exact hw _ (List.getElem_mem _)
    simp only [laws_szHoleS.l0, laws_szHole.f, laws_szInt64S.f] at hr
    rw [if_pos (by omega), if_pos (by omega), w64 (left - ((rd_T55 l (i : Int)).f1.length : Int)) (by omega) (by omega), w64s i (by omega)] at hr
    by_cases h3 : left - ((rd_T55 l (i : Int)).f1.length : Int) < 0
    · rw [if_pos h3, bind_some_, if_pos (by omega), bind_some_, if_pos (by omega)] at hr
      have := Option.some.inj hr
      omega
    · rw [if_neg h3, bind_some_, if_neg h3, bind_some_, if_neg h3] at hr
      exact ih k (i + 1) _ (by omega) (by omega) (by omega) (by omega) r hr
theorem szHoleS_le (k : Nat) (l : List S55) (left : Int) (hb : l.length ≤ 9223372036854775807) (hw : ∀ s ∈ l, s.f1.length ≤ 9223372036854775807) (hl : 0 ≤ left) (hl2 : left ≤ 1048576) (hk : 1048577 < k) (r : Int) (hr : laws_szHoleS.f k l left = some r) : r ≤ 1048576 := by
  unfold laws_szHoleS.f at hr
  rw [w64 (left - (l.length : Int)) (by omega) (by omega)] at hr
  by_cases h3 : left - (l.length : Int) < 0
  · rw [if_pos h3] at hr
    have := Option.some.inj hr
    omega
  · rw [if_neg h3] at hr
    exact szHoleS_le0 l (by omega) hw l.length k 0 _ (by omega) (by omega) (by omega) (by omega) r hr

/- A test at each of some numbers that follow one another. -/
def upTo (p : Nat → Bool) : Nat → Nat → Bool
  | 0, _ => true
  | d + 1, i => p i && upTo p d (i + 1)
theorem upTo_iff (p : Nat → Bool) : ∀ (d i : Nat), upTo p d i = true ↔ ∀ j, i ≤ j → j < i + d → p j = true := by
  intro d
  induction d with
  | zero => intro i; simp [upTo]; intro j h1 h2; omega
  | succ d ih =>
    intro i
    simp only [upTo, Bool.and_eq_true, ih]
    constructor
    · intro ⟨h0, h⟩ j h1 h2
      by_cases e : i = j
      · rw [← e]; exact h0
      · exact h j (by omega) (by omega)
    · intro h
      exact ⟨h i (Nat.le_refl _) (by omega), fun j h1 h2 => h j (by omega) (by omega)⟩

/- What is asked of a ground, and the tops of its classes, plainly. -/
def dnOk (l : List Int) (i : Nat) : Bool := decide (i = 0) || decide (rd l (i : Int) ≤ rd l ((i - 1 : Nat) : Int))
def topsOk (n : Int) (l : List Int) : Bool := decide ((l.length : Int) = n) && (impl_areWithin.all (-100000) 100000 l && upTo (dnOk l) l.length 0)
def holeOk (n : Int) (hs : List S59) (i : Nat) : Bool := decide (0 ≤ (rd_T59 hs (i : Int)).f0 ∧ (rd_T59 hs (i : Int)).f0 ≤ 60) && (topsOk n (rd_T59 hs (i : Int)).f1 && (decide (i = 0) || decide ((rd_T59 hs ((i - 1 : Nat) : Int)).f0 < (rd_T59 hs (i : Int)).f0)))
def grOk (ds : List Int) (hs : List S59) : Bool := decide (1 ≤ (ds.length : Int) ∧ (ds.length : Int) ≤ 4) && (impl_areWithin.all 1 3000 ds && (decide (1 ≤ (hs.length : Int) ∧ (hs.length : Int) ≤ 6) && upTo (holeOk ds.length hs) hs.length 0))
theorem upTo_and (p q : Nat → Bool) : ∀ d i : Nat, upTo (fun j => p j && q j) d i = (upTo p d i && upTo q d i)
  | 0, _ => rfl
  | d + 1, i => by
    simp only [upTo, upTo_and p q d (i + 1)]
    cases p i <;> cases q i <;> cases upTo p d (i + 1) <;> cases upTo q d (i + 1) <;> rfl
theorem all_upTo (lo hi : Int) (l : List Int) : impl_areWithin.all lo hi l = upTo (fun i => decide (lo ≤ rd l (i : Int) ∧ rd l (i : Int) ≤ hi)) l.length 0 := by
  rw [Bool.eq_iff_iff, upTo_iff]
  unfold impl_areWithin.all
  rw [List.all_eq_true]
  constructor
  · intro h j _ hj
    have hj2 : j < l.length := by omega
    have := h _ (List.getElem_mem hj2)
    rw [rd_at l j hj2]
    exact this
  · intro h x hx
    obtain ⟨j, hj, rfl⟩ := List.getElem_of_mem hx
    have := h j (by omega) (by omega)
    rw [rd_at l j hj] at this
    exact this
theorem grOk_in {ds : List Int} {hs : List S59} (h : grOk ds hs = true) : (1 ≤ ds.length ∧ ds.length ≤ 4) ∧ (1 ≤ hs.length ∧ hs.length ≤ 6) ∧ (∀ i : Nat, i < ds.length → 1 ≤ rd ds (i : Int) ∧ rd ds (i : Int) ≤ 3000) ∧ ∀ i : Nat, i < hs.length → holeOk ds.length hs i = true := by
  unfold grOk at h
  rw [all_upTo] at h
  simp only [Bool.and_eq_true, decide_eq_true_eq] at h
  obtain ⟨h1, h2, h3, h4⟩ := h
  refine ⟨by omega, by omega, ?_, ?_⟩
  · intro i hi
    have := (upTo_iff _ _ _).mp h2 i (by omega) (by omega)
    simpa using this
  · intro i hi
    exact (upTo_iff _ _ _).mp h4 i (by omega) (by omega)
theorem holeOk_in {n : Int} {hs : List S59} {i : Nat} (h : holeOk n hs i = true) : (0 ≤ (rd_T59 hs (i : Int)).f0 ∧ (rd_T59 hs (i : Int)).f0 ≤ 60) ∧ ((rd_T59 hs (i : Int)).f1.length : Int) = n ∧ (0 < i → (rd_T59 hs ((i - 1 : Nat) : Int)).f0 < (rd_T59 hs (i : Int)).f0) := by
  unfold holeOk topsOk at h
  simp only [Bool.and_eq_true, Bool.or_eq_true, decide_eq_true_eq] at h
  refine ⟨h.1, h.2.1.1, ?_⟩
  intro hi
  rcases h.2.2 with h2 | h2
  · omega
  · exact h2
def floorV (a b : Int) : Int := if Int.tmod a b < 0 then wrap64 (wrap64 (Int.tdiv a b) - 1) else wrap64 (Int.tdiv a b)
def interV (xr yr a p q : Int) : Int := wrap64 (p + floorV (wrap64 (wrap64 (q - p) * wrap64 (a - xr))) (wrap64 (yr - xr)))
def inter (xr yr a : Int) (xt yt : List Int) : Nat → Nat → List Int
  | 0, _ => []
  | d + 1, i => interV xr yr a (rd xt (i : Int)) (rd yt (i : Int)) :: inter xr yr a xt yt d (i + 1)
theorem inter_len (xr yr a : Int) (xt yt : List Int) : ∀ d i : Nat, (inter xr yr a xt yt d i).length = d
  | 0, _ => rfl
  | d + 1, i => by simp [inter, inter_len xr yr a xt yt d (i + 1)]
def topsAt (hs : List S59) (a : Int) : List Int :=
  if holeIx a hs 0 < 0 then (rd_T59 hs ((hs.length - 1 : Nat) : Int)).f1
  else if holeIx a hs 0 = 0 ∨ (rd_T59 hs (holeIx a hs 0)).f0 = a then (rd_T59 hs (holeIx a hs 0)).f1
  else inter (rd_T59 hs (((holeIx a hs 0).toNat - 1 : Nat) : Int)).f0 (rd_T59 hs (holeIx a hs 0)).f0 a (rd_T59 hs (((holeIx a hs 0).toNat - 1 : Nat) : Int)).f1 (rd_T59 hs (holeIx a hs 0)).f1 (rd_T59 hs (((holeIx a hs 0).toNat - 1 : Nat) : Int)).f1.length 0
theorem holeIx_go (a : Int) : ∀ (l : List S59) (i : Int), (holeIx a l i = -1 ∧ ∀ h ∈ l, h.f0 < a) ∨ ∃ j : Nat, ∃ hj : j < l.length, holeIx a l i = i + j ∧ a ≤ l[j].f0 ∧ ∀ m : Nat, ∀ hm : m < j, (l[m]'(by omega)).f0 < a
  | [], i => Or.inl ⟨rfl, by simp⟩
  | h :: l, i => by
    simp only [holeIx]
    by_cases c : h.f0 ≥ a
    · rw [if_pos c]
      exact Or.inr ⟨0, by simp, by simp, c, fun m hm => by omega⟩
    · rw [if_neg c]
      rcases holeIx_go a l (i + 1) with ⟨h1, h2⟩ | ⟨j, hj, h1, h2, h3⟩
      · refine Or.inl ⟨h1, ?_⟩
        intro q hq
        rcases List.mem_cons.mp hq with e | e
        · rw [e]; omega
        · exact h2 q e
      · refine Or.inr ⟨j + 1, by simp; omega, by rw [h1]; omega, by simpa using h2, ?_⟩
        intro m hm
        cases m with
        | zero => simp; omega
        | succ m => simpa using h3 m (by omega)
theorem holeIx_is (a : Int) (l : List S59) : (holeIx a l 0 = -1 ∧ ∀ i : Nat, i < l.length → (rd_T59 l (i : Int)).f0 < a) ∨ ∃ j : Nat, j < l.length ∧ holeIx a l 0 = j ∧ a ≤ (rd_T59 l (j : Int)).f0 ∧ ∀ m : Nat, m < j → (rd_T59 l (m : Int)).f0 < a := by
  rcases holeIx_go a l 0 with ⟨h1, h2⟩ | ⟨j, hj, h1, h2, h3⟩
  · refine Or.inl ⟨h1, ?_⟩
    intro i hi
    rw [rdHole_at l i hi]
    exact h2 _ (List.getElem_mem hi)
  · refine Or.inr ⟨j, hj, by rw [h1]; omega, by rw [rdHole_at l j hj]; exact h2, ?_⟩
    intro m hm
    rw [rdHole_at l m (by omega)]
    exact h3 m hm
theorem rise_lt {n : Int} {hs : List S59} (h : ∀ i : Nat, i < hs.length → holeOk n hs i = true) (i : Nat) : ∀ d : Nat, i + d + 1 < hs.length → (rd_T59 hs (i : Int)).f0 < (rd_T59 hs ((i + d + 1 : Nat) : Int)).f0
  | 0, hd => by
    have := (holeOk_in (h (i + 0 + 1) hd)).2.2 (by omega)
    simpa using this
  | d + 1, hd => by
    have h1 := rise_lt h i d (by omega)
    have h2 := (holeOk_in (h (i + (d + 1) + 1) hd)).2.2 (by omega)
    have e : ((i + (d + 1) + 1 - 1 : Nat) : Int) = ((i + d + 1 : Nat) : Int) := by omega
    rw [e] at h2
    omega
theorem topsAt_len {ds : List Int} {hs : List S59} (h : grOk ds hs = true) (a : Int) : (topsAt hs a).length = ds.length := by
  obtain ⟨h1, h2, h3, h4⟩ := grOk_in h
  have hl : ∀ i : Nat, i < hs.length → (rd_T59 hs (i : Int)).f1.length = ds.length := fun i hi => by
    have := (holeOk_in (h4 i hi)).2.1
    omega
  unfold topsAt
  rcases holeIx_is a hs with ⟨e, _⟩ | ⟨j, hj, e, _, _⟩
  · rw [e, if_pos (by omega)]
    exact hl _ (by omega)
  · rw [e, if_neg (by omega)]
    split
    · exact hl j hj
    · rw [inter_len, Int.toNat_natCast]
      exact hl _ (by omega)

/- An element of a list of structs, read at an index. -/
theorem rdCurve_at (l : List S124) (i : Nat) (h : i < l.length) : rd_T124 l (i : Int) = l[i] := by
  unfold rd_T124
  rw [Int.toNat_natCast, List.getD_eq_getElem?_getD, List.getElem?_eq_getElem h]
  rfl
theorem dropCurve_at (l : List S124) (i : Nat) (h : i < l.length) : l.drop i = rd_T124 l (i : Int) :: l.drop (i + 1) := by
  rw [rdCurve_at l i h, List.drop_eq_getElem_cons h]

/- A number lies in a range, as the program asks it. -/
theorem within_is (a b c : Int) : impl_within.f a b c = some (decide (b ≤ a ∧ a ≤ c)) := by
  unfold impl_within.f
  by_cases h : b ≤ a <;> simp [h]

/- The poses of an axis, as the program reckons them. -/
theorem implAx_l1 (cs : List S124) (m : Int) (c : S124) (h1 : 1 ≤ c.f0) (i : Int) : ∀ (d k j : Nat) (pre : List S44) (p : S44), j + d = c.f0.toNat → c.f0 ≤ 60 → d < k → pre.length + d ≤ 1000 → impl_Axis_poses.l1 k (pre ++ [p]) cs m i c.f0 j c.f0 c.f1 c.f2 = if (walkT p (repsT d c)).all poseOk = true then impl_Axis_poses.l0 (k - (d + 1)) (pre ++ p :: walkT p (repsT d c)) cs m (wrap64 (i + 1)) else some ([], false) := by
  intro d
  induction d with
  | zero =>
    intro k j pre p hj h60 hk hl
    obtain ⟨k, rfl⟩ : ∃ m, k = m + 1 := ⟨k - 1, by omega⟩
    simp only [impl_Axis_poses.l1]
    rw [if_neg (by omega)]
    simp [repsT, walkT]
  | succ d ih =>
    intro k j pre p hj h60 hk hl
    obtain ⟨k, rfl⟩ : ∃ m, k = m + 1 := ⟨k - 1, by omega⟩
    have e : wrap64 (((pre ++ [p]).length : Int) - 1) = (pre.length : Int) := by
      rw [List.length_append, List.length_singleton, w64 _ (by omega) (by omega)]
      omega
    have hlen : (pre ++ [p]).length = pre.length + 1 := by simp
    simp only [impl_Axis_poses.l1, e, rdPose_last, impl_Pose_next.f, bind_some_, implPose_is]
    rw [if_pos (by omega), if_pos (by omega), if_pos (by omega), repsT_succ]
    have hq : nextP p ⟨1, c.f1, c.f2⟩ = ⟨wrap64 (p.f0 + p.f2), wrap64 (p.f1 + p.f3), wrap64 (p.f2 + c.f1), wrap64 (p.f3 + c.f2)⟩ := rfl
    simp only [walkT, List.all_cons, Bool.and_eq_true]
    rw [← hq]
    by_cases q : poseOk (nextP p ⟨1, c.f1, c.f2⟩) = true
    · rw [if_pos q, if_pos (by omega), w64s j (by omega), ih k (j + 1) (pre ++ [p]) (nextP p ⟨1, c.f1, c.f2⟩) (by omega) h60 (by omega) (by omega)]
      simp only [q, true_and, List.append_assoc, List.singleton_append, Nat.add_sub_add_right]
    · rw [if_neg q, if_neg (by simp [q])]
theorem implAx_l0 (cs : List S124) (h8 : cs.length ≤ 8) : ∀ (d k i : Nat) (pre : List S44) (p : S44), i + d = cs.length → 100 * d + 2 < k → pre.length ≤ 60 → impl_Axis_poses.l0 k (pre ++ [p]) cs cs.length i = some (if curvesOk (cs.drop i) pre.length p = true then (pre ++ p :: walkT p (turnsOf (cs.drop i)), true) else ([], false)) := by
  intro d
  induction d with
  | zero =>
    intro k i pre p hi hk hl
    obtain ⟨k, rfl⟩ : ∃ m, k = m + 1 := ⟨k - 1, by omega⟩
    simp only [impl_Axis_poses.l0]
    rw [if_neg (by omega), List.drop_of_length_le (by omega)]
    simp [curvesOk, turnsOf, walkT]
  | succ d ih =>
    intro k i pre p hi hk hl
    obtain ⟨k, rfl⟩ : ∃ m, k = m + 2 := ⟨k - 2, by omega⟩
    rw [dropCurve_at cs i (by omega)]
    generalize hc : rd_T124 cs (i : Int) = c
    have hlen : (pre ++ [p]).length = pre.length + 1 := by simp
    simp only [impl_Axis_poses.l0, turnsOf]
    rw [curvesOk_cons, if_pos (by omega), if_pos (by omega), if_pos (by omega), hc, within_is, bind_some_, implTurn_is, bind_some_]
    by_cases g : (1 ≤ c.f0 ∧ c.f0 ≤ 60 - (pre.length : Int)) ∧ turnOk c.f1 c.f2 = true
    · rw [if_pos (decide_eq_true (by omega)), if_pos g.2, w64 _ (by omega) (by omega), decide_eq_false (by omega)]
      simp only [impl_Axis_poses.j2]
      rw [if_neg (by simp)]
      have hz := implAx_l1 cs cs.length c g.1.1 i c.f0.toNat k 0 pre p (by omega) (by omega) (by omega) (by omega)
      rw [show ((0 : Nat) : Int) = 0 from rfl] at hz
      rw [hz, decide_eq_true g.1, g.2]
      simp only [Bool.true_and]
      by_cases q : (walkT p (repsT c.f0.toNat c)).all poseOk = true
      · obtain ⟨pre2, e1, e2⟩ := walkT_end (repsT c.f0.toNat c) p
        have e3 : (repsT c.f0.toNat c).length = c.f0.toNat := by simp [repsT]
        rw [if_pos q, e1, ← List.append_assoc, w64s i (by omega), ih (k - (c.f0.toNat + 1)) (i + 1) (pre ++ pre2) _ (by omega) (by omega) (by rw [List.length_append]; omega), q, Bool.true_and, walkT_append]
        have e4 : (((pre ++ pre2).length : Nat) : Int) = (pre.length : Int) + c.f0 := by rw [List.length_append]; omega
        rw [e4, ← List.cons_append, e1]
        simp only [List.append_assoc, List.cons_append, List.nil_append]
      · rw [if_neg q, if_neg (by simp [q])]
    · have hb : (decide (1 ≤ c.f0 ∧ c.f0 ≤ 60 - (pre.length : Int)) && turnOk c.f1 c.f2) = false := by
        rw [Bool.eq_false_iff]
        intro hh
        rw [Bool.and_eq_true, decide_eq_true_eq] at hh
        exact g hh
      rw [hb, Bool.false_and, if_neg (show ¬ (false = true) by simp)]
      by_cases c1 : 1 ≤ c.f0 ∧ c.f0 ≤ 60
      · rw [if_pos (decide_eq_true c1)]
        by_cases c2 : turnOk c.f1 c.f2 = true
        · have c3 : ¬ (1 ≤ c.f0 ∧ c.f0 ≤ 60 - (pre.length : Int)) := fun hh => g ⟨hh, c2⟩
          rw [if_pos c2, w64 _ (by omega) (by omega), decide_eq_true (by omega)]
          simp only [impl_Axis_poses.j2]
          rw [if_pos trivial]
        · rw [if_neg c2]
          simp only [impl_Axis_poses.j2]
          rw [if_pos trivial]
      · rw [if_neg (by simpa using c1)]
        simp only [impl_Axis_poses.j2]
        rw [if_pos trivial]
theorem implAxis_is (k : Nat) (a b u v : Int) (cs : List S124) (hb : cs.length ≤ 1048576) (hk : 5000 < k) : impl_Axis_poses.f k a b u v cs = some (if axOk ⟨a, b, u, v⟩ cs = true then (posesOf ⟨a, b, u, v⟩ cs, true) else ([], false)) := by
  obtain ⟨k, rfl⟩ : ∃ m, k = m + 1 := ⟨k - 1, by omega⟩
  unfold impl_Axis_poses.f axOk posesOf
  rw [bind_some_, implPose_is, bind_some_, within_is, bind_some_]
  by_cases c1 : poseOk ⟨a, b, u, v⟩ = true
  · rw [if_pos c1, c1, Bool.true_and]
    by_cases c2 : 1 ≤ (cs.length : Int) ∧ (cs.length : Int) ≤ 8
    · simp only [impl_Axis_poses.j0]
      rw [decide_eq_true c2, if_neg (by simp), Bool.true_and]
      have hz := implAx_l0 cs (by omega) cs.length k 0 [] ⟨a, b, u, v⟩ (by omega) (by omega) (by simp)
      simpa using hz
    · simp only [impl_Axis_poses.j0]
      rw [decide_eq_false c2, if_pos (by simp), Bool.false_and, if_neg (by simp)]
  · simp only [impl_Axis_poses.j0]
    rw [if_neg c1, if_pos trivial, if_neg (by simp [c1])]

/- What the program asks of a ground. -/
theorem implHole_l0 (l : List Int) (a : Int) (hb : l.length ≤ 1048576) : ∀ (d k i : Nat), i + d = l.length → 1 ≤ i → d < k → impl_isHole.l0 k l.length i a l = some (upTo (dnOk l) d i) := by
  intro d
  induction d with
  | zero =>
    intro k i hi h1 hk
    obtain ⟨k, rfl⟩ : ∃ m, k = m + 1 := ⟨k - 1, by omega⟩
    simp only [impl_isHole.l0]
    rw [if_neg (by omega)]
    rfl
  | succ d ih =>
    intro k i hi h1 hk
    obtain ⟨k, rfl⟩ : ∃ m, k = m + 1 := ⟨k - 1, by omega⟩
    have e : wrap64 ((i : Int) - 1) = ((i - 1 : Nat) : Int) := by rw [w64 _ (by omega) (by omega)]; omega
    simp only [impl_isHole.l0]
    rw [if_pos (by omega), if_pos (by omega), if_pos (by omega), e, if_pos (by omega), if_pos (by omega), w64s i (by omega), ih k (i + 1) (by omega) (by omega) (by omega)]
    simp only [upTo, dnOk]
    rw [decide_eq_false (show ¬ i = 0 by omega), Bool.false_or]
    by_cases c : rd l (i : Int) > rd l ((i - 1 : Nat) : Int)
    · rw [if_pos c, decide_eq_false (show ¬ rd l (i : Int) ≤ rd l ((i - 1 : Nat) : Int) by omega)]
      rfl
    · rw [if_neg c, decide_eq_true (show rd l (i : Int) ≤ rd l ((i - 1 : Nat) : Int) by omega)]
      rfl
theorem implHole_is (k : Nat) (r n : Int) (l : List Int) (hb : l.length ≤ 1048576) (hk : l.length + 3 < k) : impl_isHole.f k r l n = some (decide (0 ≤ r ∧ r ≤ 60) && topsOk n l) := by
  obtain ⟨k, rfl⟩ : ∃ m, k = m + 1 := ⟨k - 1, by omega⟩
  unfold impl_isHole.f topsOk impl_areWithin.f
  rw [within_is, bind_some_, bind_some_]
  simp only [impl_isHole.j0]
  by_cases h1 : 0 ≤ r ∧ r ≤ 60
  · rw [if_pos (decide_eq_true h1), decide_eq_true h1]
    by_cases h2 : (l.length : Int) = n
    · rw [if_pos h2, decide_eq_true h2]
      cases h3 : impl_areWithin.all (-100000) 100000 l with
      | true =>
        rw [if_neg (by simp)]
        subst h2
        rcases Nat.eq_zero_or_pos l.length with h0 | h0
        · obtain ⟨k, rfl⟩ : ∃ m, k = m + 1 := ⟨k - 1, by omega⟩
          simp only [impl_isHole.l0]
          rw [if_neg (by omega), h0]
          rfl
        · have h4 := implHole_l0 l r hb (l.length - 1) k 1 (by omega) (by omega) (by omega)
          have h5 : upTo (dnOk l) l.length 0 = upTo (dnOk l) (l.length - 1) 1 := by
            obtain ⟨m, hm⟩ : ∃ m, l.length = m + 1 := ⟨l.length - 1, by omega⟩
            rw [hm]
            simp [upTo, dnOk]
          rw [h5]
          simp only [Bool.true_and]
          exact h4
      | false => simp
    · rw [if_neg h2, decide_eq_false h2]
      simp
  · rw [if_neg (by simpa using h1), decide_eq_false h1]
    simp
theorem implGround_l0 (ds : List Int) (hs : List S59) (hp : shortH hs) : ∀ (d k i : Nat), i + d = hs.length → d + 1048580 < k → impl_ValidGround.l0 k hs hs.length i ds hs = some (upTo (holeOk ds.length hs) d i) := by
  intro d
  have hb := hp.1
  induction d with
  | zero =>
    intro k i hi hk
    obtain ⟨k, rfl⟩ : ∃ m, k = m + 1 := ⟨k - 1, by omega⟩
    simp only [impl_ValidGround.l0]
    rw [if_neg (by omega)]
    rfl
  | succ d ih =>
    intro k i hi hk
    obtain ⟨k, rfl⟩ : ∃ m, k = m + 1 := ⟨k - 1, by omega⟩
    have h1 := shortH_at hp i (by omega)
    have hz := ih k (i + 1) (by omega) (by omega)
    simp only [impl_ValidGround.l0]
    rw [if_pos (by omega), if_pos (by omega), if_pos (by omega), implHole_is k _ _ _ h1 (by omega), bind_some_, w64s i (by omega), hz]
    simp only [upTo, holeOk]
    by_cases h : i = 0
    · rw [if_neg (show ¬ (i : Int) > 0 by omega), decide_eq_true h, ite_tt]
      simp [Bool.and_assoc]
    · have e : wrap64 ((i : Int) - 1) = ((i - 1 : Nat) : Int) := by rw [w64 _ (by omega) (by omega)]; omega
      rw [if_pos (show (i : Int) > 0 by omega), e, if_pos (show (0 : Int) ≤ ((i - 1 : Nat) : Int) by omega), if_pos (show ((i - 1 : Nat) : Int) < (hs.length : Int) by omega), ite_ff, not_ge_dec, ite_tt, decide_eq_false h, Bool.false_or]
      simp only [Bool.and_assoc]
theorem implGround_is (k : Nat) (ds : List Int) (hs : List S59) (hp : shortH hs) (hk : 3000000 < k) : impl_ValidGround.f k ds hs = some (grOk ds hs) := by
  have hb := hp.1
  obtain ⟨k, rfl⟩ : ∃ m, k = m + 1 := ⟨k - 1, by omega⟩
  have h0 := implGround_l0 ds hs hp hs.length k 0 (by omega) (by omega)
  unfold impl_ValidGround.f grOk impl_areWithin.f
  rw [within_is, bind_some_, bind_some_, within_is, bind_some_]
  simp only [impl_ValidGround.j0]
  rw [show ((0 : Nat) : Int) = 0 from rfl] at h0
  rw [h0]
  generalize upTo (holeOk (ds.length : Int) hs) hs.length 0 = b1
  generalize impl_areWithin.all 1 3000 ds = b2
  generalize decide (1 ≤ (ds.length : Int) ∧ (ds.length : Int) ≤ 4) = b3
  generalize decide (1 ≤ (hs.length : Int) ∧ (hs.length : Int) ≤ 6) = b4
  cases b1 <;> cases b2 <;> cases b3 <;> cases b4 <;> rfl

/- The rings along an axis, ring for ring, as both sides reckon them. -/
def alongGo (g : Int → Int → Int) (P : List S44) : Nat → Nat → List Int
  | 0, _ => []
  | d + 1, i => g (i : Int) (rd_T44 P (i : Int)).f1 :: alongGo g P d (i + 1)
theorem alongGo_len (g : Int → Int → Int) (P : List S44) : ∀ d i : Nat, (alongGo g P d i).length = d
  | 0, _ => rfl
  | d + 1, i => by simp only [alongGo, List.length_cons, alongGo_len g P d (i + 1)]
def alongP (g : List S44 → List Int) (ds : List Int) (hs : List S59) (p : S44) (cs : List S124) : List Int × Bool := if (grOk ds hs && axOk p cs) = true then (g (posesOf p cs), true) else ([], false)
theorem posesOf_len {p : S44} {cs : List S124} (h : axOk p cs = true) : 1 ≤ (posesOf p cs).length ∧ (posesOf p cs).length ≤ 61 := by
  unfold axOk at h
  simp only [Bool.and_eq_true, decide_eq_true_eq] at h
  obtain ⟨_, _, h3⟩ := h
  have := (curves_short cs 0 _ (by omega) h3).2 (by omega)
  unfold posesOf
  rw [List.length_cons, walkT_len]
  omega
theorem rdPose_take (P : List S44) (n i : Nat) (h : i < n) (hn : n ≤ P.length) : rd_T44 (P.take n) (i : Int) = rd_T44 P (i : Int) := by
  rw [rdPose_at _ i (by rw [List.length_take]; omega), rdPose_at _ i (by omega), List.getElem_take]
theorem implAlong_is (k : Nat) (ds : List Int) (hs : List S59) (a b u v : Int) (cs : List S124) (hp : shortH hs) (hb : cs.length ≤ 1048576) (hk : 5000000 < k) : impl_along.f k ds hs a b u v cs = some (if (grOk ds hs && axOk ⟨a, b, u, v⟩ cs) = true then ((posesOf ⟨a, b, u, v⟩ cs).take ((posesOf ⟨a, b, u, v⟩ cs).length - 1), true) else ([], false)) := by
  unfold impl_along.f
  rw [implAxis_is k a b u v cs hb (by omega), bind_some_]
  by_cases c1 : axOk ⟨a, b, u, v⟩ cs = true
  · have hl := posesOf_len c1
    rw [if_pos c1]
    try dsimp only
    rw [if_pos rfl, implGround_is k ds hs hp (by omega), bind_some_, c1, Bool.and_true]
    by_cases c2 : grOk ds hs = true
    · have e : wrap64 (((posesOf ⟨a, b, u, v⟩ cs).length : Int) - 1) = (((posesOf ⟨a, b, u, v⟩ cs).length - 1 : Nat) : Int) := by rw [w64 _ (by omega) (by omega)]; omega
      rw [if_pos c2, if_pos c2, e, if_pos (by omega), if_pos (by omega), Int.toNat_natCast]
    · rw [if_neg c2, if_neg c2]
  · rw [if_neg c1]
    try dsimp only
    rw [if_neg (by simp), if_neg (by simp [c1])]

/- The tops of the classes at a ring, as the program reckons them. -/
theorem clone_is (l : List Int) (hb : l.length ≤ 1048576) : slices_Clone_int64_int64.f l = some l := by
  unfold slices_Clone_int64_int64.f
  rw [if_pos (by omega)]
theorem implInter_l0 (xr yr a : Int) (xt yt : List Int) (hl : yt.length = xt.length) (hb : xt.length ≤ 1048576) (hne : wrap64 (yr - xr) ≠ 0) (acc0 : List Int) :
    ∀ (d k c : Nat) (acc : List Int), c + d = xt.length → d < k → acc.length = c → impl_Ground_tops.l0 k acc xt xt.length c a xr xt yr yt = some (acc ++ inter xr yr a xt yt d c) := by
  intro d
  induction d with
  | zero =>
    intro k c acc hc hk ha
    obtain ⟨k, rfl⟩ : ∃ m, k = m + 1 := ⟨k - 1, by omega⟩
    simp only [impl_Ground_tops.l0, inter]
    rw [if_neg (by omega), List.append_nil]
  | succ d ih =>
    intro k c acc hc hk ha
    obtain ⟨k, rfl⟩ : ∃ m, k = m + 1 := ⟨k - 1, by omega⟩
    have hz := ih k (c + 1) (acc ++ [interV xr yr a (rd xt (c : Int)) (rd yt (c : Int))]) (by omega) (by omega) (by simp; omega)
    have e : ∀ u : Int, impl_floorOf.f u (wrap64 (yr - xr)) = some (floorV u (wrap64 (yr - xr))) := by
      intro u
      unfold impl_floorOf.f floorV
      rw [if_neg hne]
      split <;> rfl
    simp only [impl_Ground_tops.l0, inter]
    rw [if_pos (by omega), if_pos (by omega), if_pos (by omega), if_pos (by omega), e, bind_some_, if_pos (by omega), w64s c (by omega)]
    unfold interV at hz
    rw [hz]
    simp [interV]
theorem implAt_is (k : Nat) (ds : List Int) (hs : List S59) (a : Int) (h : grOk ds hs = true) (hk : 3000000 < k) : impl_Ground_tops.f k ds hs a = some (topsAt hs a) := by
  obtain ⟨h1, h2, h3, h4⟩ := grOk_in h
  have hl : ∀ i : Nat, i < hs.length → (rd_T59 hs (i : Int)).f1.length = ds.length := fun i hi => by
    have := (holeOk_in (h4 i hi)).2.1
    omega
  have hr : ∀ i : Nat, i < hs.length → 0 ≤ (rd_T59 hs (i : Int)).f0 ∧ (rd_T59 hs (i : Int)).f0 ≤ 60 := fun i hi => (holeOk_in (h4 i hi)).1
  have e1 : wrap64 ((hs.length : Int) - 1) = ((hs.length - 1 : Nat) : Int) := by rw [w64 _ (by omega) (by omega)]; omega
  unfold impl_Ground_tops.f impl_Ground_tops_1.f topsAt
  rw [bind_some_]
  rcases holeIx_is a hs with ⟨e, hall⟩ | ⟨j, hj, e, hge, hless⟩
  · rw [e, if_pos (by omega), if_pos (show (-1 : Int) < 0 by omega), e1, if_pos (by omega), if_pos (by omega), clone_is _ (by rw [hl _ (by omega)]; omega), bind_some_]
  · have hcl := clone_is (rd_T59 hs (j : Int)).f1 (by rw [hl _ hj]; omega)
    rw [e, if_neg (by omega), if_neg (show ¬ (j : Int) < 0 by omega)]
    by_cases c : (j : Int) = 0
    · rw [if_pos c, if_pos (show (0 : Int) ≤ (j : Int) by omega), if_pos (show (j : Int) < (hs.length : Int) by omega), hcl, bind_some_, if_pos (Or.inl c)]
    · rw [if_neg c, if_pos (show (0 : Int) ≤ (j : Int) by omega), if_pos (show (j : Int) < (hs.length : Int) by omega), hcl, bind_some_]
      by_cases c2 : (rd_T59 hs (j : Int)).f0 = a
      · rw [if_pos c2, if_pos (Or.inr c2)]
      · have e2 : wrap64 ((j : Int) - 1) = ((j - 1 : Nat) : Int) := by rw [w64 _ (by omega) (by omega)]; omega
        have q1 := hless (j - 1) (by omega)
        have q2 := hr (j - 1) (by omega)
        have q3 := hr j hj
        have hne : wrap64 ((rd_T59 hs (j : Int)).f0 - (rd_T59 hs ((j - 1 : Nat) : Int)).f0) ≠ 0 := by
          rw [w64 _ (by omega) (by omega)]
          omega
        rw [if_neg c2, if_neg (show ¬ ((j : Int) = 0 ∨ (rd_T59 hs (j : Int)).f0 = a) by simp only [not_or]; exact ⟨c, c2⟩), Int.toNat_natCast, e2, if_pos (by omega), if_pos (by omega)]
        have := implInter_l0 (rd_T59 hs ((j - 1 : Nat) : Int)).f0 (rd_T59 hs (j : Int)).f0 a (rd_T59 hs ((j - 1 : Nat) : Int)).f1 (rd_T59 hs (j : Int)).f1 (by rw [hl _ hj, hl _ (by omega)]) (by rw [hl _ (by omega)]; omega) hne [] (rd_T59 hs ((j - 1 : Nat) : Int)).f1.length k 0 [] (by omega) (by rw [hl _ (by omega)]; omega) rfl
        simpa using this

/- The tops of the classes at a ring, as the reference reckons them. -/
theorem own_is (l : List Int) (hb : l.length ≤ 1048576) : spec_l00Own.f l = some l := by
  unfold spec_l00Own.f
  rw [bind_some_, if_pos (by simp; omega)]
  simp
theorem specInter_l2 (ds : List Int) (hs : List S59) (a : Int) (i j : Nat) (hi : i < hs.length) (hj : j < hs.length) (hl : (rd_T59 hs (j : Int)).f1.length = (rd_T59 hs (i : Int)).f1.length) (hb : (rd_T59 hs (i : Int)).f1.length ≤ 1048576) (hne : wrap64 ((rd_T59 hs (j : Int)).f0 - (rd_T59 hs (i : Int)).f0) ≠ 0) :
    ∀ (d k c : Nat) (acc : List Int), c + d = (rd_T59 hs (i : Int)).f1.length → d < k → acc.length = c → spec_l06At.l2 k a i j acc c ds hs = some (acc ++ inter (rd_T59 hs (i : Int)).f0 (rd_T59 hs (j : Int)).f0 a (rd_T59 hs (i : Int)).f1 (rd_T59 hs (j : Int)).f1 d c) := by
  intro d
  induction d with
  | zero =>
    intro k c acc hc hk ha
    obtain ⟨k, rfl⟩ : ∃ m, k = m + 1 := ⟨k - 1, by omega⟩
    simp only [spec_l06At.l2, inter]
    rw [if_pos (by omega), if_pos (by omega), if_neg (by omega), List.append_nil]
  | succ d ih =>
    intro k c acc hc hk ha
    obtain ⟨k, rfl⟩ : ∃ m, k = m + 1 := ⟨k - 1, by omega⟩
    have hz := ih k (c + 1) (acc ++ [interV (rd_T59 hs (i : Int)).f0 (rd_T59 hs (j : Int)).f0 a (rd (rd_T59 hs (i : Int)).f1 (c : Int)) (rd (rd_T59 hs (j : Int)).f1 (c : Int))]) (by omega) (by omega) (by simp; omega)
    have e : ∀ u : Int, spec_l01Floor.f u (wrap64 ((rd_T59 hs (j : Int)).f0 - (rd_T59 hs (i : Int)).f0)) = some (floorV u (wrap64 ((rd_T59 hs (j : Int)).f0 - (rd_T59 hs (i : Int)).f0))) := by
      intro u
      unfold spec_l01Floor.f floorV
      rw [if_neg hne]
      split <;> rfl
    simp only [spec_l06At.l2, inter]
    rw [if_pos (show (0 : Int) ≤ (i : Int) by omega), if_pos (show (i : Int) < (hs.length : Int) by omega), if_pos (by omega), if_pos (show (0 : Int) ≤ (c : Int) by omega), if_pos (show (0 : Int) ≤ (j : Int) by omega), if_pos (show (j : Int) < (hs.length : Int) by omega), if_pos (by omega), e, bind_some_, if_pos (by omega), w64s c (by omega)]
    unfold interV at hz
    rw [hz]
    simp [interV]
theorem specAt_j3 (ds : List Int) (hs : List S59) (a : Int) (i j : Nat) (hi : i < hs.length) (hj : j < hs.length) (hl : (rd_T59 hs (j : Int)).f1.length = (rd_T59 hs (i : Int)).f1.length) (hb : (rd_T59 hs (i : Int)).f1.length ≤ 1048576) (hr : (0 ≤ (rd_T59 hs (i : Int)).f0 ∧ (rd_T59 hs (i : Int)).f0 ≤ 60) ∧ (0 ≤ (rd_T59 hs (j : Int)).f0 ∧ (rd_T59 hs (j : Int)).f0 ≤ 60)) (k : Nat) (hk : 1048580 < k) :
    spec_l06At.j3 k a i j ds hs = some (if (rd_T59 hs (i : Int)).f0 > a ∨ (rd_T59 hs (i : Int)).f0 ≥ (rd_T59 hs (j : Int)).f0 then (rd_T59 hs (i : Int)).f1 else inter (rd_T59 hs (i : Int)).f0 (rd_T59 hs (j : Int)).f0 a (rd_T59 hs (i : Int)).f1 (rd_T59 hs (j : Int)).f1 (rd_T59 hs (i : Int)).f1.length 0) := by
  obtain ⟨k, rfl⟩ : ∃ m, k = m + 1 + 1 := ⟨k - 2, by omega⟩
  simp only [spec_l06At.j3, spec_l06At.j4]
  rw [if_pos (show (0 : Int) ≤ (i : Int) by omega), if_pos (show (i : Int) < (hs.length : Int) by omega), if_pos (show (0 : Int) ≤ (j : Int) by omega), if_pos (show (j : Int) < (hs.length : Int) by omega), own_is _ hb, bind_some_]
  by_cases c1 : (rd_T59 hs (i : Int)).f0 > a
  · rw [if_pos c1, if_pos (Or.inl c1)]
    simp
    exact hi
  · rw [if_neg c1]
    by_cases c2 : (rd_T59 hs (i : Int)).f0 ≥ (rd_T59 hs (j : Int)).f0
    · rw [if_pos (decide_eq_true c2), if_pos (Or.inr c2), if_pos (by omega), if_pos (by omega)]
    · have hne : wrap64 ((rd_T59 hs (j : Int)).f0 - (rd_T59 hs (i : Int)).f0) ≠ 0 := by
        rw [w64 _ (by omega) (by omega)]
        omega
      rw [if_neg (by simpa using c2), if_neg (by simp only [not_or]; exact ⟨c1, c2⟩)]
      have := specInter_l2 ds hs a i j hi hj hl hb hne (rd_T59 hs (i : Int)).f1.length k 0 [] (by omega) (by omega) rfl
      simpa using this
theorem specAt_l1 (ds : List Int) (hs : List S59) (a : Int) (i : Nat) (b : Nat) (hbl : b < hs.length) (hlen : hs.length ≤ 1048576) (out : Option (List Int))
    (hlow : 0 < b → (rd_T59 hs ((b - 1 : Nat) : Int)).f0 < a) (hup : ∀ m : Nat, b ≤ m → m + 1 < hs.length → a ≤ (rd_T59 hs (m : Int)).f0) (B : Nat)
    (hcont : ∀ k, B ≤ k → spec_l06At.j3 k a i b ds hs = out) : ∀ (d k : Nat), b + d < hs.length → B + d < k → spec_l06At.l1 k a i ((b + d : Nat) : Int) ds hs = out := by
  intro d
  induction d with
  | zero =>
    intro k hd hk
    obtain ⟨k, rfl⟩ : ∃ m, k = m + 1 := ⟨k - 1, by omega⟩
    simp only [spec_l06At.l1, Nat.add_zero]
    by_cases h : b = 0
    · subst h
      rw [if_neg (by omega)]
      exact hcont k (by omega)
    · have e : wrap64 ((b : Int) - 1) = ((b - 1 : Nat) : Int) := by rw [w64 _ (by omega) (by omega)]; omega
      have := hlow (by omega)
      rw [if_pos (show (b : Int) > 0 by omega), e, if_pos (show (0 : Int) ≤ ((b - 1 : Nat) : Int) by omega), if_pos (show ((b - 1 : Nat) : Int) < (hs.length : Int) by omega), if_neg (by omega)]
      exact hcont k (by omega)
  | succ d ih =>
    intro k hd hk
    obtain ⟨k, rfl⟩ : ∃ m, k = m + 1 := ⟨k - 1, by omega⟩
    have e : wrap64 (((b + (d + 1) : Nat) : Int) - 1) = ((b + d : Nat) : Int) := by rw [w64 _ (by omega) (by omega)]; omega
    have := hup (b + d) (by omega) (by omega)
    simp only [spec_l06At.l1]
    rw [if_pos (show ((b + (d + 1) : Nat) : Int) > 0 by omega), e, if_pos (show (0 : Int) ≤ ((b + d : Nat) : Int) by omega), if_pos (show ((b + d : Nat) : Int) < (hs.length : Int) by omega), if_pos (by omega)]
    exact ih k (by omega) (by omega)
theorem specAt_l0 (ds : List Int) (hs : List S59) (a : Int) (e : Nat) (hel : e < hs.length) (hlen : hs.length ≤ 1048576) (out : Option (List Int))
    (hin : ∀ m : Nat, 1 ≤ m → m ≤ e → (rd_T59 hs (m : Int)).f0 ≤ a) (hout : e + 1 < hs.length → a < (rd_T59 hs ((e + 1 : Nat) : Int)).f0) (B : Nat)
    (hcont : ∀ k, B ≤ k → spec_l06At.j1 k a e ds hs = out) : ∀ (d k i : Nat), i + d = e → B + d < k → spec_l06At.l0 k a i ds hs = out := by
  intro d
  induction d with
  | zero =>
    intro k i hi hk
    obtain ⟨k, rfl⟩ : ∃ m, k = m + 1 := ⟨k - 1, by omega⟩
    have hie : i = e := by omega
    subst hie
    simp only [spec_l06At.l0]
    rw [w64s i (by omega)]
    by_cases h : ((i + 1 : Nat) : Int) < (hs.length : Int)
    · have := hout (by omega)
      rw [if_pos h, if_pos (by omega), if_neg (by omega)]
      exact hcont k (by omega)
    · rw [if_neg h]
      exact hcont k (by omega)
  | succ d ih =>
    intro k i hi hk
    obtain ⟨k, rfl⟩ : ∃ m, k = m + 1 := ⟨k - 1, by omega⟩
    have := hin (i + 1) (by omega) (by omega)
    simp only [spec_l06At.l0]
    rw [w64s i (by omega), if_pos (by omega), if_pos (by omega), if_pos (by omega)]
    exact ih k (i + 1) (by omega) (by omega)
theorem specAt_is (k : Nat) (ds : List Int) (hs : List S59) (a : Int) (h : grOk ds hs = true) (hk : 3000000 < k) : spec_l06At.f k ds hs a = some (topsAt hs a) := by
  obtain ⟨h1, h2, h3, h4⟩ := grOk_in h
  have hl : ∀ i : Nat, i < hs.length → (rd_T59 hs (i : Int)).f1.length = ds.length := fun i hi => by
    have := (holeOk_in (h4 i hi)).2.1
    omega
  have hr : ∀ i : Nat, i < hs.length → 0 ≤ (rd_T59 hs (i : Int)).f0 ∧ (rd_T59 hs (i : Int)).f0 ≤ 60 := fun i hi => (holeOk_in (h4 i hi)).1
  have hlt : ∀ i j : Nat, i < j → j < hs.length → (rd_T59 hs (i : Int)).f0 < (rd_T59 hs (j : Int)).f0 := fun i j hij hj => by
    have := rise_lt h4 i (j - i - 1) (by omega)
    rwa [show i + (j - i - 1) + 1 = j by omega] at this
  have hj3 := fun (i j : Nat) (hi : i < hs.length) (hj : j < hs.length) (k : Nat) (hk : 1048580 < k) => specAt_j3 ds hs a i j hi hj (by rw [hl i hi, hl j hj]) (by rw [hl i hi]; omega) ⟨hr i hi, hr j hj⟩ k hk
  have hj1 : ∀ (i b : Nat), i < hs.length → b < hs.length → (0 < b → (rd_T59 hs ((b - 1 : Nat) : Int)).f0 < a) → (∀ m : Nat, b ≤ m → m + 1 < hs.length → a ≤ (rd_T59 hs (m : Int)).f0) → ∀ k, 2000000 ≤ k → spec_l06At.j1 k a i ds hs = some (if (rd_T59 hs (i : Int)).f0 > a ∨ (rd_T59 hs (i : Int)).f0 ≥ (rd_T59 hs (b : Int)).f0 then (rd_T59 hs (i : Int)).f1 else inter (rd_T59 hs (i : Int)).f0 (rd_T59 hs (b : Int)).f0 a (rd_T59 hs (i : Int)).f1 (rd_T59 hs (b : Int)).f1 (rd_T59 hs (i : Int)).f1.length 0) := by
    intro i b hi hb hlow hup k hk
    obtain ⟨k, rfl⟩ : ∃ m, k = m + 1 := ⟨k - 1, by omega⟩
    have e : wrap64 ((hs.length : Int) - 1) = ((b + (hs.length - 1 - b) : Nat) : Int) := by rw [w64 _ (by omega) (by omega)]; omega
    simp only [spec_l06At.j1]
    rw [e]
    exact specAt_l1 ds hs a i b hb (by omega) _ hlow hup 1100000 (fun k2 hk2 => hj3 i b hi hb k2 (by omega)) (hs.length - 1 - b) k (by omega) (by omega)
  unfold spec_l06At.f topsAt
  rcases holeIx_is a hs with ⟨e, hall⟩ | ⟨j, hj, e, hge, hless⟩
  · rw [e, if_pos (by omega)]
    have hlast := hall (hs.length - 1) (by omega)
    have hz := specAt_l0 ds hs a (hs.length - 1) (by omega) (by omega) _ (fun m _ hm => by have := hall m (by omega); omega) (fun hq => by omega) 2000000 (fun k2 hk2 => hj1 (hs.length - 1) (hs.length - 1) (by omega) (by omega) (fun hq => hall (hs.length - 1 - 1) (by omega)) (fun m hm1 hm2 => by omega) k2 hk2) (hs.length - 1) k 0 (by omega) (by omega)
    rw [show ((0 : Nat) : Int) = 0 from rfl] at hz
    rw [hz, if_pos (Or.inr (Int.le_refl _))]
  · rw [e, if_neg (by omega)]
    by_cases c : j = 0
    · subst c
      rw [if_pos (show ((0 : Nat) : Int) = 0 ∨ (rd_T59 hs ((0 : Nat) : Int)).f0 = a from Or.inl rfl)]
      have hz := specAt_l0 ds hs a 0 (by omega) (by omega) _ (fun m hm1 hm2 => by omega) (fun hq => by have := hlt 0 (0 + 1) (by omega) hq; omega) 2000000 (fun k2 hk2 => hj1 0 0 (by omega) (by omega) (fun hq => by omega) (fun m hm1 hm2 => by
        rcases Nat.eq_zero_or_pos m with q | q
        · rw [q]; exact hge
        · have := hlt 0 m q (by omega); omega) k2 hk2) 0 k 0 (by omega) (by omega)
      rw [show ((0 : Nat) : Int) = 0 from rfl] at hz ⊢
      rw [hz, if_pos (Or.inr (Int.le_refl _))]
    · by_cases c2 : (rd_T59 hs (j : Int)).f0 = a
      · rw [if_pos (Or.inr c2)]
        have hz := specAt_l0 ds hs a j hj (by omega) _ (fun m hm1 hm2 => by
          rcases Nat.lt_or_ge m j with q | q
          · have := hless m q; omega
          · rw [show m = j by omega]; omega) (fun hq => by have := hlt j (j + 1) (by omega) hq; omega) 2000000 (fun k2 hk2 => hj1 j j hj hj (fun hq => hless (j - 1) (by omega)) (fun m hm1 hm2 => by
          rcases Nat.eq_or_lt_of_le hm1 with q | q
          · rw [← q]; exact hge
          · have := hlt j m q (by omega); omega) k2 hk2) j k 0 (by omega) (by omega)
        rw [show ((0 : Nat) : Int) = 0 from rfl] at hz
        rw [hz, if_pos (Or.inr (Int.le_refl _))]
      · rw [if_neg (by simp only [not_or]; exact ⟨by omega, c2⟩), Int.toNat_natCast]
        have q1 := hless (j - 1) (by omega)
        have q2 := hlt (j - 1) j (by omega) hj
        have hz := specAt_l0 ds hs a (j - 1) (by omega) (by omega) _ (fun m hm1 hm2 => by have := hless m (by omega); omega) (fun hq => by rw [show j - 1 + 1 = j by omega]; omega) 2000000 (fun k2 hk2 => hj1 (j - 1) j (by omega) hj (fun hq => hless (j - 1) (by omega)) (fun m hm1 hm2 => by
          rcases Nat.eq_or_lt_of_le hm1 with q | q
          · rw [← q]; exact hge
          · have := hlt j m q (by omega); omega) k2 hk2) (j - 1) k 0 (by omega) (by omega)
        rw [show ((0 : Nat) : Int) = 0 from rfl] at hz
        rw [hz, if_neg (by omega)]

/- The classes and the faces of a ground, as both sides reckon them. -/
def classGo (t : List Int) (h : Int) : Nat → Nat → Int → Int
  | 0, _, c => c
  | d + 1, i, c => classGo t h d (i + 1) (if rd t (i : Int) > h then (i : Int) else c)
def classOf (t : List Int) (h : Int) : Int := classGo t h t.length 0 (-1)
theorem classGo_in (t : List Int) (h : Int) : ∀ (d i : Nat) (c : Int), -1 ≤ c → c < ((i + d : Nat) : Int) → -1 ≤ classGo t h d i c ∧ classGo t h d i c < ((i + d : Nat) : Int)
  | 0, i, c, h1, h2 => ⟨h1, h2⟩
  | d + 1, i, c, h1, h2 => by
    simp only [classGo]
    have := classGo_in t h d (i + 1) (if rd t (i : Int) > h then (i : Int) else c) (by split <;> omega) (by split <;> omega)
    omega
theorem classOf_in (t : List Int) (h : Int) : -1 ≤ classOf t h ∧ (classOf t h < (t.length : Int) ∨ classOf t h = -1) := by
  rcases Nat.eq_zero_or_pos t.length with e | e
  · unfold classOf
    rw [e]
    exact ⟨Int.le_refl _, Or.inr rfl⟩
  · have := classGo_in t h t.length 0 (-1) (Int.le_refl _) (by omega)
    unfold classOf
    exact ⟨this.1, Or.inl (by omega)⟩
theorem implClass_l0 (t : List Int) (h : Int) (hb : t.length ≤ 1048576) : ∀ (d k i : Nat) (c : Int), i + d = t.length → d < k → impl_Ground_class.l0 k h c t t.length i = some (classGo t h d i c) := by
  intro d
  induction d with
  | zero =>
    intro k i c hi hk
    obtain ⟨k, rfl⟩ : ∃ m, k = m + 1 := ⟨k - 1, by omega⟩
    simp only [impl_Ground_class.l0, classGo]
    rw [if_neg (by omega)]
  | succ d ih =>
    intro k i c hi hk
    obtain ⟨k, rfl⟩ : ∃ m, k = m + 1 := ⟨k - 1, by omega⟩
    simp only [impl_Ground_class.l0, classGo]
    rw [if_pos (by omega), if_pos (by omega), if_pos (by omega), w64s i (by omega)]
    by_cases q : rd t (i : Int) > h
    · rw [if_pos q, if_pos q]
      exact ih k (i + 1) _ (by omega) (by omega)
    · rw [if_neg q, if_neg q]
      exact ih k (i + 1) _ (by omega) (by omega)
theorem specClass_l0 (t : List Int) (h : Int) (hb : t.length ≤ 1048576) : ∀ (d k i : Nat) (c : Int), i + d = t.length → d < k → spec_l06Class.l0 k t h c i = some (classGo t h d i c) := by
  intro d
  induction d with
  | zero =>
    intro k i c hi hk
    obtain ⟨k, rfl⟩ : ∃ m, k = m + 1 := ⟨k - 1, by omega⟩
    simp only [spec_l06Class.l0, classGo]
    rw [if_neg (by omega)]
  | succ d ih =>
    intro k i c hi hk
    obtain ⟨k, rfl⟩ : ∃ m, k = m + 1 := ⟨k - 1, by omega⟩
    simp only [spec_l06Class.l0, classGo]
    rw [if_pos (by omega), if_pos (by omega), w64s i (by omega)]
    by_cases q : rd t (i : Int) > h
    · rw [if_pos q, if_pos q]
      exact ih k (i + 1) _ (by omega) (by omega)
    · rw [if_neg q, if_neg q]
      exact ih k (i + 1) _ (by omega) (by omega)
theorem specClass_is (k : Nat) (t : List Int) (h : Int) (hb : t.length ≤ 1048576) (hk : t.length < k) : spec_l06Class.f k t h = some (classOf t h) := by
  unfold spec_l06Class.f classOf
  exact specClass_l0 t h hb t.length k 0 (-1) (by omega) hk
theorem implClass_is (k : Nat) (ds : List Int) (hs : List S59) (a h : Int) (hg : grOk ds hs = true) (hk : 3000000 < k) : impl_Ground_class.f k ds hs a h = some (classOf (topsAt hs a) h) := by
  have hl := topsAt_len hg a
  have hin := (grOk_in hg).1
  unfold impl_Ground_class.f classOf
  rw [implAt_is k ds hs a hg hk, bind_some_]
  exact implClass_l0 _ h (by omega) _ k 0 (-1) (by omega) (by omega)
def areas : List Int := [52, 90, 111, 122, 125, 125, 122, 111, 90, 52]
def stripH (h : Int) (i : Nat) : Int := wrap64 (h + wrap64 (300 * wrap64 (wrap64 (2 * (i : Int)) - 9)))
def stripC (t : List Int) (h : Int) (i : Nat) : Nat := if classOf t (stripH h i) < 0 then t.length else (classOf t (stripH h i)).toNat
def faceGo (t : List Int) (h : Int) : Nat → Nat → List Int → List Int
  | 0, _, o => o
  | d + 1, i, o => faceGo t h d (i + 1) (o.set (stripC t h i) (wrap64 (rd o (stripC t h i : Int) + rd areas (i : Int))))
def faceOf (t : List Int) (h : Int) : List Int := faceGo t h 10 0 (List.replicate (t.length + 1) 0)
theorem stripC_in (t : List Int) (h : Int) (i : Nat) : stripC t h i < t.length + 1 := by
  have := classOf_in t (stripH h i)
  unfold stripC
  split <;> omega
theorem faceGo_len (t : List Int) (h : Int) : ∀ (d i : Nat) (o : List Int), (faceGo t h d i o).length = o.length
  | 0, _, _ => rfl
  | d + 1, i, o => by
    simp only [faceGo]
    rw [faceGo_len t h d (i + 1), List.length_set]
theorem faceOf_len (t : List Int) (h : Int) : (faceOf t h).length = t.length + 1 := by
  unfold faceOf
  rw [faceGo_len, List.length_replicate]
theorem rd_setF (l : List Int) (i j : Nat) (v : Int) (hi : i < l.length) : rd (l.set i v) (j : Int) = if i = j then v else rd l (j : Int) := by
  unfold rd
  rw [Int.toNat_natCast, List.getD_eq_getElem?_getD, List.getD_eq_getElem?_getD, List.getElem?_set]
  by_cases e : i = j
  · rw [if_pos e, if_pos e, if_pos hi]
    rfl
  · rw [if_neg e, if_neg e]
theorem areas_in (i : Nat) (hi : i < 10) : 0 ≤ rd areas (i : Int) ∧ rd areas (i : Int) ≤ 125 := by
  have : i = 0 ∨ i = 1 ∨ i = 2 ∨ i = 3 ∨ i = 4 ∨ i = 5 ∨ i = 6 ∨ i = 7 ∨ i = 8 ∨ i = 9 := by omega
  rcases this with e | e | e | e | e | e | e | e | e | e <;> subst e <;> decide
theorem faceGo_in (t : List Int) (h : Int) : ∀ (d i : Nat) (o : List Int), i + d = 10 → o.length = t.length + 1 → (∀ j : Nat, j < o.length → 0 ≤ rd o (j : Int) ∧ rd o (j : Int) ≤ 125 * (i : Int)) → ∀ j : Nat, j < o.length → 0 ≤ rd (faceGo t h d i o) (j : Int) ∧ rd (faceGo t h d i o) (j : Int) ≤ 1250
  | 0, i, o, hi, hl, hj => by
    intro j h1
    have := hj j h1
    simp only [faceGo]
    omega
  | d + 1, i, o, hi, hl, hj => by
    intro j h1
    have hc := stripC_in t h i
    have ha := areas_in i (by omega)
    have ho := hj (stripC t h i) (by omega)
    simp only [faceGo]
    refine faceGo_in t h d (i + 1) _ (by omega) (by rw [List.length_set]; exact hl) ?_ j (by rw [List.length_set]; exact h1)
    intro m hm
    rw [List.length_set] at hm
    have hm2 := hj m hm
    rw [rd_setF _ _ _ _ (by omega)]
    split
    · rw [w64 _ (by omega) (by omega)]
      omega
    · omega
theorem faceOf_in (t : List Int) (h : Int) (j : Nat) (hj : j < t.length + 1) : 0 ≤ rd (faceOf t h) (j : Int) ∧ rd (faceOf t h) (j : Int) ≤ 1250 := by
  unfold faceOf
  refine faceGo_in t h 10 0 _ (by omega) (by rw [List.length_replicate]) ?_ j (by rw [List.length_replicate]; exact hj)
  intro m hm
  rw [List.length_replicate] at hm
  rw [rd_at _ m (by rw [List.length_replicate]; exact hm), List.getElem_replicate]
  omega
theorem implFace_l0 (ds : List Int) (hs : List S59) (a h : Int) (hg : grOk ds hs = true) : ∀ (d k i : Nat) (o : List Int), i + d = 10 → d + 3000000 < k → o.length = ds.length + 1 → impl_Ground_face.l0 k a h o areas areas.length i ds hs = some (faceGo (topsAt hs a) h d i o) := by
  intro d
  have hl := topsAt_len hg a
  have hin := (grOk_in hg).1
  have h10 : (areas.length : Int) = 10 := rfl
  induction d with
  | zero =>
    intro k i o hi hk ho
    obtain ⟨k, rfl⟩ : ∃ m, k = m + 1 := ⟨k - 1, by omega⟩
    simp only [impl_Ground_face.l0, faceGo]
    rw [if_neg (by omega)]
  | succ d ih =>
    intro k i o hi hk ho
    obtain ⟨k, rfl⟩ : ∃ m, k = m + 1 := ⟨k - 1, by omega⟩
    have hc := classOf_in (topsAt hs a) (stripH h i)
    have hz := ih k (i + 1) (o.set (stripC (topsAt hs a) h i) (wrap64 (rd o (stripC (topsAt hs a) h i : Int) + rd areas (i : Int)))) (by omega) (by omega) (by rw [List.length_set]; exact ho)
    have ec := implClass_is k ds hs a (stripH h i) hg (by omega)
    unfold stripH at ec hc
    simp only [impl_Ground_face.l0, faceGo]
    rw [if_pos (by omega), if_pos (by omega), if_pos (by omega), ec, bind_some_, w64s i (by omega)]
    by_cases q : classOf (topsAt hs a) (wrap64 (h + wrap64 (300 * wrap64 (wrap64 (2 * (i : Int)) - 9)))) < 0
    · have es : stripC (topsAt hs a) h i = ds.length := by unfold stripC stripH; rw [if_pos q, hl]
      rw [if_pos q, if_pos (by omega), if_pos (by omega), Int.toNat_natCast, ← hz, es]
    · have es : ((stripC (topsAt hs a) h i : Nat) : Int) = classOf (topsAt hs a) (wrap64 (h + wrap64 (300 * wrap64 (wrap64 (2 * (i : Int)) - 9)))) := by unfold stripC stripH; rw [if_neg q]; omega
      rw [if_neg q, if_pos (by omega), if_pos (by omega), ← hz, ← es, Int.toNat_natCast]
theorem implFace_is (k : Nat) (ds : List Int) (hs : List S59) (a h : Int) (hg : grOk ds hs = true) (hk : 4000000 < k) : impl_Ground_face.f k ds hs a h = some (faceOf (topsAt hs a) h) := by
  have hl := topsAt_len hg a
  have hin := (grOk_in hg).1
  have e : wrap64 ((ds.length : Int) + 1) = ((ds.length + 1 : Nat) : Int) := w64s _ (by omega)
  unfold impl_Ground_face.f faceOf
  rw [e, if_pos (by omega), Int.toNat_natCast, if_pos (by omega), bind_some_, hl]
  exact implFace_l0 ds hs a h hg 10 k 0 _ (by omega) (by omega) (by rw [List.length_replicate])
theorem specFace_l0 (t : List Int) (h : Int) (hb : t.length ≤ 1048576) : ∀ (d k i : Nat) (o : List Int), i + d = 10 → d + 3000000 < k → o.length = t.length + 1 → spec_l06Face.l0 k h areas t o i = some (faceGo t h d i o) := by
  intro d
  have h10 : (areas.length : Int) = 10 := rfl
  induction d with
  | zero =>
    intro k i o hi hk ho
    obtain ⟨k, rfl⟩ : ∃ m, k = m + 1 := ⟨k - 1, by omega⟩
    simp only [spec_l06Face.l0, faceGo]
    rw [if_neg (by omega)]
  | succ d ih =>
    intro k i o hi hk ho
    obtain ⟨k, rfl⟩ : ∃ m, k = m + 1 := ⟨k - 1, by omega⟩
    have hc := classOf_in t (stripH h i)
    have hz := ih k (i + 1) (o.set (stripC t h i) (wrap64 (rd o (stripC t h i : Int) + rd areas (i : Int)))) (by omega) (by omega) (by rw [List.length_set]; exact ho)
    have ec := specClass_is k t (stripH h i) hb (by omega)
    unfold stripH at ec hc
    simp only [spec_l06Face.l0, faceGo]
    rw [if_pos (by omega), ec, bind_some_, w64s i (by omega)]
    by_cases q : classOf t (wrap64 (h + wrap64 (300 * wrap64 (wrap64 (2 * (i : Int)) - 9)))) < 0
    · have es : stripC t h i = t.length := by unfold stripC stripH; rw [if_pos q]
      rw [if_pos q, if_pos (by omega), if_pos (by omega), if_pos (by omega), if_pos (by omega), Int.toNat_natCast, ← hz, es]
    · have es : ((stripC t h i : Nat) : Int) = classOf t (wrap64 (h + wrap64 (300 * wrap64 (wrap64 (2 * (i : Int)) - 9)))) := by unfold stripC stripH; rw [if_neg q]; omega
      rw [if_neg q, if_pos (by omega), if_pos (by omega), if_pos (by omega), if_pos (by omega), ← hz, ← es, Int.toNat_natCast]
theorem specFace_is (k : Nat) (ds : List Int) (hs : List S59) (a h : Int) (hg : grOk ds hs = true) (hk : 4000000 < k) : spec_l06Face.f k ds hs a h = some (faceOf (topsAt hs a) h) := by
  have hl := topsAt_len hg a
  have hin := (grOk_in hg).1
  have e : wrap64 (((topsAt hs a).length : Int) + 1) = (((topsAt hs a).length + 1 : Nat) : Int) := w64s _ (by omega)
  unfold spec_l06Face.f faceOf
  rw [specAt_is k ds hs a hg (by omega), bind_some_, e, if_pos (by omega), Int.toNat_natCast, if_pos (by omega)]
  exact specFace_l0 _ h (by omega) 10 k 0 _ (by omega) (by omega) (by rw [List.length_replicate])

/- What the reference asks of a ground. -/
theorem specTops_l0 (l : List Int) (n : Int) (hb : l.length ≤ 1048576) : ∀ (d k i : Nat), i + d = l.length → d < k → spec_l06Tops.l0 k l n i = some (upTo (fun j => decide (-100000 ≤ rd l (j : Int) ∧ rd l (j : Int) ≤ 100000) && dnOk l j) d i && decide ((l.length : Int) = n)) := by
  intro d
  induction d with
  | zero =>
    intro k i hi hk
    obtain ⟨k, rfl⟩ : ∃ m, k = m + 1 := ⟨k - 1, by omega⟩
    simp only [spec_l06Tops.l0]
    rw [if_neg (by omega)]
    by_cases h : (l.length : Int) = n <;> simp [upTo, h]
  | succ d ih =>
    intro k i hi hk
    obtain ⟨k, rfl⟩ : ∃ m, k = m + 1 := ⟨k - 1, by omega⟩
    have hz := ih k (i + 1) (by omega) (by omega)
    simp only [spec_l06Tops.l0, in_is, bind_some_]
    rw [if_pos (by omega), if_pos (by omega), w64s i (by omega), hz]
    simp only [upTo, dnOk]
    by_cases h : i = 0
    · rw [if_neg (show ¬ (i : Int) > 0 by omega), decide_eq_true h, ite_tt]
      simp [Bool.and_assoc]
    · have e : wrap64 ((i : Int) - 1) = ((i - 1 : Nat) : Int) := by rw [w64 _ (by omega) (by omega)]; omega
      have e2 : (!decide (rd l ((i - 1 : Nat) : Int) < rd l (i : Int))) = decide (rd l (i : Int) ≤ rd l ((i - 1 : Nat) : Int)) := by
        by_cases c : rd l ((i - 1 : Nat) : Int) < rd l (i : Int)
        · rw [decide_eq_true c, decide_eq_false (show ¬ rd l (i : Int) ≤ rd l ((i - 1 : Nat) : Int) by omega)]
          rfl
        · rw [decide_eq_false c, decide_eq_true (show rd l (i : Int) ≤ rd l ((i - 1 : Nat) : Int) by omega)]
          rfl
      rw [if_pos (show (i : Int) > 0 by omega), e, if_pos (show (0 : Int) ≤ ((i - 1 : Nat) : Int) by omega), if_pos (show ((i - 1 : Nat) : Int) < (l.length : Int) by omega), ite_ff, e2, ite_tt, decide_eq_false h, Bool.false_or]
      simp only [Bool.and_assoc]
theorem specTops_is (k : Nat) (l : List Int) (n : Int) (hb : l.length ≤ 1048576) (hk : l.length < k) : spec_l06Tops.f k l n = some (topsOk n l) := by
  unfold spec_l06Tops.f topsOk
  have h := specTops_l0 l n hb l.length k 0 (by omega) hk
  rw [show ((0 : Nat) : Int) = 0 from rfl] at h
  rw [h, upTo_and, all_upTo]
  congr 1
  ac_rfl
theorem specGround_l1 (ds : List Int) (hs : List S59) (hp : shortH hs) : ∀ (d k i : Nat), i + d = hs.length → d + 1048580 < k → spec_l06Is.l1 k i ds hs = some (upTo (holeOk ds.length hs) d i) := by
  intro d
  have hb := hp.1
  induction d with
  | zero =>
    intro k i hi hk
    obtain ⟨k, rfl⟩ : ∃ m, k = m + 1 := ⟨k - 1, by omega⟩
    simp only [spec_l06Is.l1]
    rw [if_neg (by omega)]
    rfl
  | succ d ih =>
    intro k i hi hk
    obtain ⟨k, rfl⟩ : ∃ m, k = m + 1 := ⟨k - 1, by omega⟩
    have h1 := shortH_at hp i (by omega)
    have hz := ih k (i + 1) (by omega) (by omega)
    simp only [spec_l06Is.l1, in_is, bind_some_]
    rw [if_pos (by omega), if_pos (by omega), specTops_is k _ _ h1 (by omega), bind_some_, w64s i (by omega), hz, ite_tt]
    simp only [upTo, holeOk]
    by_cases h : i = 0
    · rw [if_neg (show ¬ (i : Int) > 0 by omega), decide_eq_true h, ite_tt]
      simp [Bool.and_assoc]
    · have e : wrap64 ((i : Int) - 1) = ((i - 1 : Nat) : Int) := by rw [w64 _ (by omega) (by omega)]; omega
      rw [if_pos (show (i : Int) > 0 by omega), e, if_pos (show (0 : Int) ≤ ((i - 1 : Nat) : Int) by omega), if_pos (show ((i - 1 : Nat) : Int) < (hs.length : Int) by omega), ite_ff, not_ge_dec, ite_tt, decide_eq_false h, Bool.false_or]
      congr 1
      ac_rfl
theorem specGround_l0 (ds : List Int) (hs : List S59) (hp : shortH hs) (hd : ds.length ≤ 1048576) : ∀ (d k i : Nat), i + d = ds.length → d + 2200000 < k → spec_l06Is.l0 k i ds hs = some (upTo (fun j => decide (1 ≤ rd ds (j : Int) ∧ rd ds (j : Int) ≤ 3000)) d i && upTo (holeOk ds.length hs) hs.length 0) := by
  intro d
  have hb := hp.1
  induction d with
  | zero =>
    intro k i hi hk
    obtain ⟨k, rfl⟩ : ∃ m, k = m + 1 := ⟨k - 1, by omega⟩
    have h1 := specGround_l1 ds hs hp hs.length k 0 (by omega) (by omega)
    simp only [spec_l06Is.l0]
    rw [if_neg (by omega)]
    simpa [upTo] using h1
  | succ d ih =>
    intro k i hi hk
    obtain ⟨k, rfl⟩ : ∃ m, k = m + 1 := ⟨k - 1, by omega⟩
    have hz := ih k (i + 1) (by omega) (by omega)
    simp only [spec_l06Is.l0, in_is, bind_some_]
    rw [if_pos (by omega), if_pos (by omega), w64s i (by omega), hz, ite_tt]
    simp only [upTo, Bool.and_assoc]
theorem specGround_is (k : Nat) (ds : List Int) (hs : List S59) (hd : ds.length ≤ 1048576) (hp : shortH hs) (hk : 5000000 < k) : spec_l06Is.f k ds hs = some (grOk ds hs) := by
  have hb := hp.1
  obtain ⟨k, rfl⟩ : ∃ m, k = m + 1 := ⟨k - 1, by omega⟩
  have h0 := specGround_l0 ds hs hp hd ds.length k 0 (by omega) (by omega)
  unfold spec_l06Is.f grOk
  rw [in_is, bind_some_, in_is, bind_some_, all_upTo]
  simp only [spec_l06Is.j0]
  rw [show ((0 : Nat) : Int) = 0 from rfl] at h0
  rw [h0]
  generalize upTo (holeOk (ds.length : Int) hs) hs.length 0 = b1
  generalize upTo (fun j => decide (1 ≤ rd ds (j : Int) ∧ rd ds (j : Int) ≤ 3000)) ds.length 0 = b2
  generalize decide (1 ≤ (ds.length : Int) ∧ (ds.length : Int) ≤ 4) = b3
  generalize decide (1 ≤ (hs.length : Int) ∧ (hs.length : Int) ≤ 6) = b4
  cases b1 <;> cases b2 <;> cases b3 <;> cases b4 <;> rfl



/- The face and the weight of a ring, as both sides answer. -/
def weightGo (f ds : List Int) : Nat → Nat → Int → Int
  | 0, _, s => s
  | d + 1, i, s => weightGo f ds d (i + 1) (wrap64 (s + wrap64 (rd f (i : Int) * rd ds (i : Int))))
def round20 (s : Int) : Int := if Int.tmod s 20 ≥ wrap64 (20 - Int.tmod s 20) then wrap64 (wrap64 (Int.tdiv s 20) + 1) else wrap64 (Int.tdiv s 20)
def weightOf (ds : List Int) (hs : List S59) (r h : Int) : Int := round20 (weightGo (faceOf (topsAt hs r) h) ds ds.length 0 0)
theorem weightGo_in (f ds : List Int) (hf : ∀ j : Nat, j < ds.length → 0 ≤ rd f (j : Int) ∧ rd f (j : Int) ≤ 1250) (hd : ∀ j : Nat, j < ds.length → 1 ≤ rd ds (j : Int) ∧ rd ds (j : Int) ≤ 3000) (h4 : ds.length ≤ 4) : ∀ (d i : Nat) (s : Int), i + d = ds.length → 0 ≤ s → s ≤ 3750000 * (i : Int) → 0 ≤ weightGo f ds d i s
  | 0, i, s, _, h0, _ => h0
  | d + 1, i, s, hi, h0, h1 => by
    have a1 := hf i (by omega)
    have a2 := hd i (by omega)
    have b1 : 0 ≤ rd f (i : Int) * rd ds (i : Int) := Int.mul_nonneg a1.1 (by omega)
    have b2 : rd f (i : Int) * rd ds (i : Int) ≤ 1250 * rd ds (i : Int) := Int.mul_le_mul_of_nonneg_right a1.2 (by omega)
    have e1 := w64 (rd f (i : Int) * rd ds (i : Int)) (by omega) (by omega)
    have e2 := w64 (s + rd f (i : Int) * rd ds (i : Int)) (by omega) (by omega)
    simp only [weightGo]
    rw [e1, e2]
    clear e1 e2
    exact weightGo_in f ds hf hd h4 d (i + 1) _ (by omega) (by omega) (by omega)
theorem implRound_is (k : Nat) (s : Int) (hs : 0 ≤ s) (hk : 0 < k) : impl_roundOf.f k s 20 = some (round20 s) := by
  obtain ⟨k, rfl⟩ : ∃ m, k = m + 1 := ⟨k - 1, by omega⟩
  unfold round20
  simp only [impl_roundOf.f]
  rw [if_neg (by omega), if_neg (by decide)]
  split <;> rfl
theorem specRound_is (k : Nat) (s : Int) (hs : 0 ≤ s) (hk : 0 < k) : spec_l01Round.f k s 20 = some (round20 s) := by
  obtain ⟨k, rfl⟩ : ∃ m, k = m + 1 := ⟨k - 1, by omega⟩
  have h0 : Int.tmod s 20 ≥ 0 := Int.tmod_nonneg _ hs
  unfold round20 spec_l01Round.f
  simp only [spec_l01Round.j0]
  rw [if_neg (by decide), if_pos h0]
  by_cases c : Int.tmod s 20 ≥ wrap64 (20 - Int.tmod s 20)
  · rw [if_pos (decide_eq_true c), if_pos c]
  · rw [if_neg (by simpa using c), if_neg c, if_neg (by omega)]
theorem weight_nonneg (ds : List Int) (hs : List S59) (r h : Int) (hg : grOk ds hs = true) : 0 ≤ weightGo (faceOf (topsAt hs r) h) ds ds.length 0 0 := by
  obtain ⟨h1, h2, h3, h4⟩ := grOk_in hg
  have hl := topsAt_len hg r
  exact weightGo_in _ ds (fun j hj => faceOf_in _ h j (by omega)) h3 h1.2 ds.length 0 0 (by omega) (by omega) (by omega)
theorem implWeight_l0 (f ds : List Int) (hb : ds.length ≤ 1048576) (hf : ds.length ≤ f.length) (hnn : 0 ≤ weightGo f ds ds.length 0 0) : ∀ (d k i : Nat) (s : Int), i + d = ds.length → d + 10 < k → weightGo f ds d i s = weightGo f ds ds.length 0 0 → impl_Ground_weight.l0 k s f ds ds.length i = some (round20 (weightGo f ds ds.length 0 0)) := by
  intro d
  induction d with
  | zero =>
    intro k i s hi hk he
    obtain ⟨k, rfl⟩ : ∃ m, k = m + 1 := ⟨k - 1, by omega⟩
    simp only [impl_Ground_weight.l0]
    simp only [weightGo] at he
    rw [if_neg (by omega), he, implRound_is k _ hnn (by omega), bind_some_]
  | succ d ih =>
    intro k i s hi hk he
    obtain ⟨k, rfl⟩ : ∃ m, k = m + 1 := ⟨k - 1, by omega⟩
    simp only [impl_Ground_weight.l0]
    simp only [weightGo] at he
    rw [if_pos (by omega), if_pos (by omega), if_pos (by omega), if_pos (by omega), w64s i (by omega)]
    exact ih k (i + 1) _ (by omega) (by omega) he
theorem implWeight_is (k : Nat) (ds : List Int) (hs : List S59) (r h : Int) (hg : grOk ds hs = true) (hk : 5000000 < k) : impl_Ground_weight.f k ds hs r h = some (weightOf ds hs r h) := by
  have hin := (grOk_in hg).1
  have hl := topsAt_len hg r
  unfold impl_Ground_weight.f weightOf
  rw [implFace_is k ds hs r h hg (by omega), bind_some_]
  exact implWeight_l0 _ ds (by omega) (by rw [faceOf_len]; omega) (weight_nonneg ds hs r h hg) ds.length k 0 0 (by omega) (by omega) rfl
theorem specWeight_l0 (f ds : List Int) (hs : List S59) (hb : ds.length ≤ 1048576) (hf : ds.length ≤ f.length) (hnn : 0 ≤ weightGo f ds ds.length 0 0) : ∀ (d k i : Nat) (s : Int), i + d = ds.length → d + 10 < k → weightGo f ds d i s = weightGo f ds ds.length 0 0 → spec_l06Weight.l0 k f s i ds hs = some (round20 (weightGo f ds ds.length 0 0)) := by
  intro d
  induction d with
  | zero =>
    intro k i s hi hk he
    obtain ⟨k, rfl⟩ : ∃ m, k = m + 1 := ⟨k - 1, by omega⟩
    simp only [spec_l06Weight.l0]
    simp only [weightGo] at he
    rw [if_neg (by omega), he, specRound_is k _ hnn (by omega), bind_some_]
  | succ d ih =>
    intro k i s hi hk he
    obtain ⟨k, rfl⟩ : ∃ m, k = m + 1 := ⟨k - 1, by omega⟩
    simp only [spec_l06Weight.l0]
    simp only [weightGo] at he
    rw [if_pos (by omega), if_pos (by omega), if_pos (by omega), w64s i (by omega)]
    exact ih k (i + 1) _ (by omega) (by omega) he
theorem specWeight_is (k : Nat) (ds : List Int) (hs : List S59) (r h : Int) (hg : grOk ds hs = true) (hk : 5000000 < k) : spec_l06Weight.f k ds hs r h = some (weightOf ds hs r h) := by
  have hin := (grOk_in hg).1
  have hl := topsAt_len hg r
  unfold spec_l06Weight.f weightOf
  rw [specFace_is k ds hs r h hg (by omega), bind_some_]
  exact specWeight_l0 _ ds hs (by omega) (by rw [faceOf_len]; omega) (weight_nonneg ds hs r h hg) ds.length k 0 0 (by omega) (by omega) rfl
/- The poses of an axis, as the reference reckons them. -/
theorem specAx_l1 (a b u v : Int) (cs : List S124) (n : Int) (c : S124) (h1 : 1 ≤ c.f0) (i : Int) : ∀ (d k j : Nat) (p : S44), j + d = c.f0.toNat → c.f0 ≤ 60 → d < k → spec_l02Is.l1 k n i j a b u v cs p.f0 p.f1 p.f2 p.f3 c.f0 c.f1 c.f2 = if (walkT p (repsT d c)).all poseOk = true then spec_l02Is.l0 (k - (d + 1)) n (wrap64 (i + 1)) a b u v cs (endT p (repsT d c)).f0 (endT p (repsT d c)).f1 (endT p (repsT d c)).f2 (endT p (repsT d c)).f3 else some false := by
  intro d
  induction d with
  | zero =>
    intro k j p hj h60 hk
    obtain ⟨k, rfl⟩ : ∃ m, k = m + 1 := ⟨k - 1, by omega⟩
    simp only [spec_l02Is.l1]
    rw [if_neg (by omega)]
    simp [repsT, walkT, endT]
  | succ d ih =>
    intro k j p hj h60 hk
    obtain ⟨k, rfl⟩ : ∃ m, k = m + 1 := ⟨k - 1, by omega⟩
    simp only [spec_l02Is.l1, spec_l02Next.f, bind_some_, specPose_is]
    rw [if_pos (by omega), repsT_succ]
    have hq : nextP p ⟨1, c.f1, c.f2⟩ = ⟨wrap64 (p.f0 + p.f2), wrap64 (p.f1 + p.f3), wrap64 (p.f2 + c.f1), wrap64 (p.f3 + c.f2)⟩ := rfl
    simp only [walkT, endT, List.all_cons, Bool.and_eq_true]
    have hz := ih k (j + 1) (nextP p ⟨1, c.f1, c.f2⟩) (by omega) h60 (by omega)
    rw [← hq]
    by_cases q : poseOk (nextP p ⟨1, c.f1, c.f2⟩) = true
    · rw [if_pos q, w64s j (by omega)]
      have e : spec_l02Is.l1 k n i ((j + 1 : Nat) : Int) a b u v cs (wrap64 (p.f0 + p.f2)) (wrap64 (p.f1 + p.f3)) (wrap64 (p.f2 + c.f1)) (wrap64 (p.f3 + c.f2)) c.f0 c.f1 c.f2 = spec_l02Is.l1 k n i ((j + 1 : Nat) : Int) a b u v cs (nextP p ⟨1, c.f1, c.f2⟩).f0 (nextP p ⟨1, c.f1, c.f2⟩).f1 (nextP p ⟨1, c.f1, c.f2⟩).f2 (nextP p ⟨1, c.f1, c.f2⟩).f3 c.f0 c.f1 c.f2 := rfl
      rw [e, hz]
      simp only [q, true_and, Nat.add_sub_add_right]
    · rw [if_neg q, if_neg (by simp [q])]
theorem specAx_l0 (a b u v : Int) (cs : List S124) (h8 : cs.length ≤ 8) : ∀ (d k i : Nat) (n : Int) (p : S44), i + d = cs.length → 100 * d + 2 < k → 0 ≤ n → n ≤ 60 → spec_l02Is.l0 k n i a b u v cs p.f0 p.f1 p.f2 p.f3 = some (curvesOk (cs.drop i) n p) := by
  intro d
  induction d with
  | zero =>
    intro k i n p hi hk hn hn2
    obtain ⟨k, rfl⟩ : ∃ m, k = m + 1 := ⟨k - 1, by omega⟩
    simp only [spec_l02Is.l0]
    rw [if_neg (by omega), List.drop_of_length_le (by omega)]
    simp [curvesOk]
  | succ d ih =>
    intro k i n p hi hk hn hn2
    obtain ⟨k, rfl⟩ : ∃ m, k = m + 2 := ⟨k - 2, by omega⟩
    rw [dropCurve_at cs i (by omega)]
    generalize hc : rd_T124 cs (i : Int) = c
    simp only [spec_l02Is.l0, curvesOk]
    rw [if_pos (by omega), if_pos (by omega), hc, w64 (60 - n) (by omega) (by omega), in_is, bind_some_, specTurn_is, bind_some_]
    by_cases c1 : 1 ≤ c.f0 ∧ c.f0 ≤ 60 - n
    · rw [if_pos (decide_eq_true c1), decide_eq_true c1, Bool.true_and]
      cases c2 : turnOk c.f1 c.f2 with
      | false =>
        simp only [spec_l02Is.j2]
        rw [if_pos (by simp), Bool.false_and]
      | true =>
        simp only [spec_l02Is.j2]
        have hz := specAx_l1 a b u v cs (wrap64 (n + c.f0)) c c1.1 i c.f0.toNat k 0 p (by omega) (by omega) (by omega)
        rw [show ((0 : Nat) : Int) = 0 from rfl] at hz
        rw [if_neg (by simp), hz, Bool.true_and]
        by_cases q : (walkT p (repsT c.f0.toNat c)).all poseOk = true
        · rw [if_pos q, q, Bool.true_and, w64s i (by omega), w64 (n + c.f0) (by omega) (by omega)]
          exact ih (k - (c.f0.toNat + 1)) (i + 1) (n + c.f0) _ (by omega) (by omega) (by omega) (by omega)
        · rw [if_neg q]
          simp only [Bool.not_eq_true] at q
          rw [q, Bool.false_and]
    · simp only [spec_l02Is.j2]
      rw [if_neg (by simpa using c1), if_pos trivial, decide_eq_false c1, Bool.false_and, Bool.false_and]
theorem specAxis_is (k : Nat) (a b u v : Int) (cs : List S124) (hb : cs.length ≤ 1048576) (hk : 5000 < k) : spec_l02Is.f k a b u v cs = some (axOk ⟨a, b, u, v⟩ cs) := by
  obtain ⟨k, rfl⟩ : ∃ m, k = m + 1 := ⟨k - 1, by omega⟩
  unfold spec_l02Is.f axOk
  rw [specPose_is, bind_some_, in_is, bind_some_]
  by_cases c1 : poseOk ⟨a, b, u, v⟩ = true
  · rw [if_pos c1, c1, Bool.true_and]
    by_cases c2 : 1 ≤ (cs.length : Int) ∧ (cs.length : Int) ≤ 8
    · simp only [spec_l02Is.j0]
      rw [decide_eq_true c2, if_neg (by simp), Bool.true_and]
      have hz := specAx_l0 a b u v cs (by omega) cs.length k 0 0 ⟨a, b, u, v⟩ (by omega) (by omega) (by omega) (by omega)
      simpa using hz
    · simp only [spec_l02Is.j0]
      rw [decide_eq_false c2, if_pos (by simp), Bool.false_and]
  · simp only [spec_l02Is.j0]
    simp only [Bool.not_eq_true] at c1
    rw [c1, if_neg (by simp), if_pos trivial, Bool.false_and]
theorem specTurns_l1 (a b u v : Int) (cs : List S124) (i : Nat) (hi : i < cs.length) (h8 : cs.length ≤ 8) (h60 : ∀ c ∈ cs, 1 ≤ c.f0 ∧ c.f0 ≤ 60) : ∀ (d k j : Nat) (acc : List S124), j + d = (rd_T124 cs (i : Int)).f0.toNat → d < k → acc.length + d ≤ 10000 → spec_l02Turns.l1 k acc i j a b u v cs = spec_l02Turns.l0 (k - (d + 1)) (acc ++ repsT d (rd_T124 cs (i : Int))) ((i + 1 : Nat) : Int) a b u v cs := by
  intro d
  have hm : 1 ≤ (rd_T124 cs (i : Int)).f0 ∧ (rd_T124 cs (i : Int)).f0 ≤ 60 := by
    rw [rdCurve_at cs i hi]
    exact h60 _ (List.getElem_mem hi)
  induction d with
  | zero =>
    intro k j acc hj hk hl
    obtain ⟨k, rfl⟩ : ∃ m, k = m + 1 := ⟨k - 1, by omega⟩
    simp only [spec_l02Turns.l1]
    rw [if_pos (by omega), if_pos (by omega), if_neg (by omega), w64s i (by omega)]
    simp [repsT]
  | succ d ih =>
    intro k j acc hj hk hl
    obtain ⟨k, rfl⟩ : ∃ m, k = m + 1 := ⟨k - 1, by omega⟩
    simp only [spec_l02Turns.l1]
    rw [if_pos (by omega), if_pos (by omega), if_pos (by omega), if_pos (by omega), w64s j (by omega), ih k (j + 1) _ (by omega) (by omega) (by simp; omega), repsT_succ]
    simp only [List.append_assoc, List.singleton_append, Nat.add_sub_add_right]
theorem specTurns_l0 (a b u v : Int) (cs : List S124) (h8 : cs.length ≤ 8) (h60 : ∀ c ∈ cs, 1 ≤ c.f0 ∧ c.f0 ≤ 60) : ∀ (d k i : Nat) (acc : List S124), i + d = cs.length → 100 * d + 2 < k → acc.length ≤ 60 * i → spec_l02Turns.l0 k acc i a b u v cs = some (acc ++ turnsOf (cs.drop i)) := by
  intro d
  induction d with
  | zero =>
    intro k i acc hi hk hl
    obtain ⟨k, rfl⟩ : ∃ m, k = m + 1 := ⟨k - 1, by omega⟩
    simp only [spec_l02Turns.l0]
    rw [if_neg (by omega), List.drop_of_length_le (by omega)]
    simp [turnsOf]
  | succ d ih =>
    intro k i acc hi hk hl
    obtain ⟨k, rfl⟩ : ∃ m, k = m + 1 := ⟨k - 1, by omega⟩
    have hm : 1 ≤ (rd_T124 cs (i : Int)).f0 ∧ (rd_T124 cs (i : Int)).f0 ≤ 60 := by
      rw [rdCurve_at cs i (by omega)]
      exact h60 _ (List.getElem_mem (by omega))
    have e3 : (repsT (rd_T124 cs (i : Int)).f0.toNat (rd_T124 cs (i : Int))).length = (rd_T124 cs (i : Int)).f0.toNat := by simp [repsT]
    have hz := specTurns_l1 a b u v cs i (by omega) h8 h60 (rd_T124 cs (i : Int)).f0.toNat k 0 acc (by omega) (by omega) (by omega)
    rw [show ((0 : Nat) : Int) = 0 from rfl] at hz
    simp only [spec_l02Turns.l0]
    rw [if_pos (by omega), hz, ih _ (i + 1) _ (by omega) (by omega) (by rw [List.length_append]; omega), dropCurve_at cs i (by omega)]
    simp only [turnsOf, List.append_assoc]
theorem specPoses_l0 (ts : List S124) (hb : ts.length ≤ 10000) : ∀ (d k i : Nat) (pre : List S44) (p : S44), i + d = ts.length → d < k → pre.length = i → spec_l02Poses.l0 k (pre ++ [p]) ts i = some (pre ++ p :: walkT p (ts.drop i)) := by
  intro d
  induction d with
  | zero =>
    intro k i pre p hi hk hl
    obtain ⟨k, rfl⟩ : ∃ m, k = m + 1 := ⟨k - 1, by omega⟩
    simp only [spec_l02Poses.l0]
    rw [if_neg (by omega), List.drop_of_length_le (by omega)]
    simp [walkT]
  | succ d ih =>
    intro k i pre p hi hk hl
    obtain ⟨k, rfl⟩ : ∃ m, k = m + 1 := ⟨k - 1, by omega⟩
    have hlen : (pre ++ [p]).length = pre.length + 1 := by simp
    have er := rdPose_last pre p
    rw [hl] at er
    have hz := ih k (i + 1) (pre ++ [p]) (nextP p (rd_T124 ts (i : Int))) (by omega) (by omega) (by omega)
    simp only [spec_l02Poses.l0, er, spec_l02Next.f, bind_some_]
    rw [if_pos (by omega), if_pos (by omega), if_pos (by omega), if_pos (by omega), w64s i (by omega), dropCurve_at ts i (by omega)]
    unfold nextP at hz
    rw [hz]
    simp [walkT, nextP]
theorem specPoses_is (k : Nat) (a b u v : Int) (cs : List S124) (h : axOk ⟨a, b, u, v⟩ cs = true) (hk : 5000 < k) : spec_l02Poses.f k a b u v cs = some (posesOf ⟨a, b, u, v⟩ cs) := by
  unfold axOk at h
  simp only [Bool.and_eq_true, decide_eq_true_eq] at h
  obtain ⟨_, h8, h3⟩ := h
  obtain ⟨i1, i2⟩ := curves_short cs 0 _ (by omega) h3
  have i3 := i2 (by omega)
  unfold spec_l02Poses.f spec_l02Turns.f posesOf
  have hz := specTurns_l0 a b u v cs (by omega) i1 cs.length k 0 [] (by omega) (by omega) (by simp)
  rw [show ((0 : Nat) : Int) = 0 from rfl, List.drop_zero, List.nil_append] at hz
  rw [hz, bind_some_]
  have hy := specPoses_l0 (turnsOf cs) (by omega) (turnsOf cs).length k 0 [] ⟨a, b, u, v⟩ (by omega) (by omega) rfl
  simpa using hy

/- The classes and the weights along an axis, and the mixed rings, as both sides reckon them. -/
def prognosisOf (ds : List Int) (hs : List S59) (P : List S44) : List Int := alongGo (fun a h => weightOf ds hs a h) P (P.length - 1) 0
theorem implPrognosis_l0 (ds : List Int) (hs : List S59) (hg : grOk ds hs = true) (P : List S44) (n : Nat) (hn : n ≤ P.length) (hb : n ≤ 1000) : ∀ (d k i : Nat) (acc : List Int), i + d = n → 6000000 + d < k → acc.length = i → impl_PrognosisOf.l0 k acc (P.take n) n i ds hs = some (acc ++ alongGo (fun a h => weightOf ds hs a h) P d i, true) := by
  intro d
  have hl : (P.take n).length = n := by rw [List.length_take]; omega
  induction d with
  | zero =>
    intro k i acc hi hk ha
    obtain ⟨k, rfl⟩ : ∃ m, k = m + 1 := ⟨k - 1, by omega⟩
    simp only [impl_PrognosisOf.l0, alongGo]
    rw [if_neg (by omega), List.append_nil]
  | succ d ih =>
    intro k i acc hi hk ha
    obtain ⟨k, rfl⟩ : ∃ m, k = m + 1 := ⟨k - 1, by omega⟩
    simp only [impl_PrognosisOf.l0, alongGo]
    rw [if_pos (by omega), if_pos (by omega), if_pos (by omega), rdPose_take P n i (by omega) hn, implWeight_is k ds hs i _ hg (by omega), bind_some_, if_pos (by omega), w64s i (by omega), ih k (i + 1) _ (by omega) (by omega) (by simp; omega)]
    simp
theorem specPrognosis_l0 (ds : List Int) (hs : List S59) (hg : grOk ds hs = true) (P : List S44) (n : Nat) (hn : P.length = n + 1) (hb : n ≤ 1000) : ∀ (d k i : Nat) (acc : List Int), i + d = n → 6000000 + d < k → acc.length = i → spec_PrognosisOf.l0 k P acc i ds hs = some (acc ++ alongGo (fun a h => weightOf ds hs a h) P d i, true) := by
  intro d
  have e : wrap64 ((P.length : Int) - 1) = (n : Int) := by rw [w64 _ (by omega) (by omega)]; omega
  induction d with
  | zero =>
    intro k i acc hi hk ha
    obtain ⟨k, rfl⟩ : ∃ m, k = m + 1 := ⟨k - 1, by omega⟩
    simp only [spec_PrognosisOf.l0, alongGo]
    rw [if_neg (by omega), List.append_nil]
  | succ d ih =>
    intro k i acc hi hk ha
    obtain ⟨k, rfl⟩ : ∃ m, k = m + 1 := ⟨k - 1, by omega⟩
    simp only [spec_PrognosisOf.l0, alongGo]
    rw [if_pos (by omega), if_pos (by omega), if_pos (by omega), specWeight_is k ds hs i _ hg (by omega), bind_some_, if_pos (by omega), w64s i (by omega), ih k (i + 1) _ (by omega) (by omega) (by simp; omega)]
    simp
theorem implPrognosis_is (k : Nat) (ds : List Int) (hs : List S59) (a b u v : Int) (cs : List S124) (hp : shortH hs) (hb : cs.length ≤ 1048576) (hk : 7000000 < k) : impl_PrognosisOf.f k ds hs a b u v cs = some (alongP (prognosisOf ds hs) ds hs ⟨a, b, u, v⟩ cs) := by
  unfold impl_PrognosisOf.f alongP
  rw [implAlong_is k ds hs a b u v cs hp hb (by omega), bind_some_]
  by_cases c : (grOk ds hs && axOk ⟨a, b, u, v⟩ cs) = true
  · have c2 := c
    rw [Bool.and_eq_true] at c2
    have hl := posesOf_len c2.2
    rw [if_pos c, if_pos c]
    try dsimp only
    have hlt : ((posesOf ⟨a, b, u, v⟩ cs).take ((posesOf ⟨a, b, u, v⟩ cs).length - 1)).length = (posesOf ⟨a, b, u, v⟩ cs).length - 1 := by rw [List.length_take]; omega
    have hz := implPrognosis_l0 ds hs c2.1 (posesOf ⟨a, b, u, v⟩ cs) ((posesOf ⟨a, b, u, v⟩ cs).length - 1) (by omega) (by omega) ((posesOf ⟨a, b, u, v⟩ cs).length - 1) k 0 [] (by omega) (by omega) rfl
    rw [show ((0 : Nat) : Int) = 0 from rfl, List.nil_append] at hz
    rw [if_pos rfl, hlt, hz]
    rfl
  · rw [if_neg c, if_neg c]
    try dsimp only
    rw [if_neg (by simp)]
theorem specPrognosis_is (k : Nat) (ds : List Int) (hs : List S59) (a b u v : Int) (cs : List S124) (hd : ds.length ≤ 1048576) (hp : shortH hs) (hb : cs.length ≤ 1048576) (hk : 7000000 < k) : spec_PrognosisOf.f k ds hs a b u v cs = some (alongP (prognosisOf ds hs) ds hs ⟨a, b, u, v⟩ cs) := by
  obtain ⟨k, rfl⟩ : ∃ m, k = m + 1 := ⟨k - 1, by omega⟩
  unfold spec_PrognosisOf.f alongP
  rw [specGround_is _ ds hs hd hp (by omega), bind_some_, specAxis_is _ a b u v cs hb (by omega), bind_some_]
  simp only [spec_PrognosisOf.j0]
  by_cases c1 : grOk ds hs = true
  · by_cases c2 : axOk ⟨a, b, u, v⟩ cs = true
    · have hl := posesOf_len c2
      have hz := specPrognosis_l0 ds hs c1 (posesOf ⟨a, b, u, v⟩ cs) ((posesOf ⟨a, b, u, v⟩ cs).length - 1) (by omega) (by omega) ((posesOf ⟨a, b, u, v⟩ cs).length - 1) k 0 [] (by omega) (by omega) rfl
      rw [show ((0 : Nat) : Int) = 0 from rfl, List.nil_append] at hz
      rw [if_pos c1, c1, c2, if_neg (by simp), specPoses_is k a b u v cs c2 (by omega), bind_some_, hz, if_pos (by simp)]
      rfl
    · rw [if_pos c1, if_pos (by simp [c2]), if_neg (by simp [c2])]
  · rw [if_neg c1, if_pos trivial, if_neg (by simp [c1])]

/- A list that was marked still holds its marks. -/
theorem heldInt_loop (n : Nat) (hb : n ≤ 4000000000000000000) (m : Int) (hm : 0 ≤ m ∧ m ≤ 4000000000000000000) : ∀ (d k i : Nat), i + d = n → d < k → laws_heldInt64S.l0 k (iota m n) (m + i) i = some (m + n) := by
  intro d
  induction d with
  | zero =>
    intro k i hi hk
    obtain ⟨k, rfl⟩ : ∃ m, k = m + 1 := ⟨k - 1, by omega⟩
    simp only [laws_heldInt64S.l0]
    rw [if_neg (by rw [iota_length]; omega), show i = n by omega]
  | succ d ih =>
    intro k i hi hk
    obtain ⟨k, rfl⟩ : ∃ m, k = m + 1 := ⟨k - 1, by omega⟩
    simp only [laws_heldInt64S.l0]
    have hr : rd (iota m n) i = m + i := by rw [rd_at _ i (by rw [iota_length]; omega), iota_get]
    rw [if_pos (by rw [iota_length]; omega), if_pos (by omega), if_pos hr, w64s i (by omega), w64 (m + i + 1) (by omega) (by omega), show m + (i : Int) + 1 = m + ((i + 1 : Nat) : Int) by omega]
    exact ih k (i + 1) (by omega) (by omega)
theorem heldInt_is (k : Nat) (n : Nat) (m : Int) (hm : 0 ≤ m ∧ m ≤ 4000000000000000000) (hb : n ≤ 4000000000000000000) (hk : n < k) : laws_heldInt64S.f k (iota m n) m = some (m + n) := by
  unfold laws_heldInt64S.f
  have := heldInt_loop n hb m hm n k 0 (by omega) hk
  simpa using this

/- A list of structs is equal to itself. -/
theorem eqCurveS_loop (a : List S124) (hb : a.length ≤ 9223372036854775807) : ∀ (d k i : Nat), i + d = a.length → d < k → laws_eqCurveS.l0 k a a i = some true := by
  intro d
  induction d with
  | zero =>
    intro k i hi hk
    obtain ⟨k, rfl⟩ : ∃ m, k = m + 1 := ⟨k - 1, by omega⟩
    simp only [laws_eqCurveS.l0]
    rw [if_neg (by omega)]
  | succ d ih =>
    intro k i hi hk
    obtain ⟨k, rfl⟩ : ∃ m, k = m + 1 := ⟨k - 1, by omega⟩
    simp only [laws_eqCurveS.l0, laws_eqCurve.f, if_true, bind_some_]
    rw [if_pos (by omega), if_pos (by omega), if_pos (by omega), w64s i (by omega)]
    exact ih k (i + 1) (by omega) (by omega)
theorem eqCurveS_refl (k : Nat) (a : List S124) (hb : a.length ≤ 9223372036854775807) (hk : a.length < k) : laws_eqCurveS.f k a a = some true := by
  unfold laws_eqCurveS.f
  rw [if_pos rfl]
  exact eqCurveS_loop a hb a.length k 0 (by omega) hk

/- A list of structs is marked with rising numbers, and still holds them. -/
def iotaCurve (m : Int) (c : Nat) : List S124 := (List.range c).map fun (i : Nat) => ⟨m + 3 * (i : Int), m + 3 * (i : Int) + 1, m + 3 * (i : Int) + 2⟩
theorem iotaCurve_len (m : Int) (c : Nat) : (iotaCurve m c).length = c := by simp [iotaCurve]
theorem iotaCurve_get (m : Int) (c i : Nat) (h : i < (iotaCurve m c).length) : (iotaCurve m c)[i] = ⟨m + 3 * (i : Int), m + 3 * (i : Int) + 1, m + 3 * (i : Int) + 2⟩ := by simp [iotaCurve]
theorem rdCurve_set (l : List S124) (i : Nat) (x : S124) (h : i < l.length) : rd_T124 (l.set i x) (i : Int) = x := by
  rw [rdCurve_at _ i (by rw [List.length_set]; exact h), List.getElem_set_self]
theorem markCurveS_loop (c : Nat) (hb : c ≤ 4000000000000000) (m : Int) (hm : 0 ≤ m ∧ m ≤ 4000000000000000) : ∀ (d k i : Nat) (l : List S124), i + d = c → d < k → l.length = c → l.take i = (iotaCurve m c).take i → laws_markCurveS.l0 k l (m + 3 * (i : Int)) i = some (m + 3 * c, iotaCurve m c) := by
  intro d
  induction d with
  | zero =>
    intro k i l hi hk hl ht
    obtain ⟨k, rfl⟩ : ∃ m, k = m + 1 := ⟨k - 1, by omega⟩
    simp only [laws_markCurveS.l0]
    rw [if_neg (by omega)]
    rw [List.take_of_length_le (by omega), List.take_of_length_le (by rw [iotaCurve_len]; omega)] at ht
    rw [ht, show i = c by omega]
  | succ d ih =>
    intro k i l hi hk hl ht
    obtain ⟨k, rfl⟩ : ∃ m, k = m + 1 := ⟨k - 1, by omega⟩
    have e1 : wrap64 (m + 3 * (i : Int) + 1) = m + 3 * (i : Int) + 1 := by
      rw [w64 _ (by omega) (by omega)] <;> omega
    have e2 : wrap64 (m + 3 * (i : Int) + 1 + 1) = m + 3 * (i : Int) + 2 := by
      rw [w64 _ (by omega) (by omega)] <;> omega
    have e3 : wrap64 (m + 3 * (i : Int) + 2 + 1) = m + 3 * ((i + 1 : Nat) : Int) := by
      rw [w64 _ (by omega) (by omega)] <;> omega
    simp only [laws_markCurveS.l0, bind_some_, Int.toNat_natCast, List.set_set, rdCurve_set l i _ (show i < l.length by omega)]
    rw [if_pos (by omega), if_pos (by omega), w64s i (by omega)]
    simp only [Int.add_assoc, Int.reduceAdd] at *
    simp only [e1, e2, e3, Int.add_assoc, Int.reduceAdd]
    have ht2 := fill_step (iotaCurve m c) l i ⟨m + 3 * (i : Int), m + 3 * (i : Int) + 1, m + 3 * (i : Int) + 2⟩ (by rw [iotaCurve_len]; omega) (by rw [iotaCurve_len]; exact hl) ht (iotaCurve_get m c i (by rw [iotaCurve_len]; omega))
    have hz := ih k (i + 1) _ (by omega) (by omega) (by rw [List.length_set]; exact hl) ht2
    simp only [Int.add_assoc, Int.reduceAdd, List.set_set] at hz ⊢
    exact hz
theorem markCurveS_is (k : Nat) (l : List S124) (m : Int) (hm : 0 ≤ m ∧ m ≤ 4000000000000000) (hb : l.length ≤ 4000000000000000) (hk : l.length < k) : laws_markCurveS.f k l m = some (m + 3 * l.length, iotaCurve m l.length) := by
  unfold laws_markCurveS.f
  have := markCurveS_loop l.length hb m hm l.length k 0 l (by omega) hk rfl (by simp)
  simpa using this

/- A list is marked with rising numbers, and still holds them. -/
theorem markInt_loop (n : Nat) (hb : n ≤ 4000000000000000000) (m : Int) (hm : 0 ≤ m ∧ m ≤ 4000000000000000000) : ∀ (d k i : Nat) (l : List Int), i + d = n → d < k → l.length = n → l.take i = (iota m n).take i → laws_markInt64S.l0 k l (m + i) i = some (m + n, iota m n) := by
  intro d
  induction d with
  | zero =>
    intro k i l hi hk hl ht
    obtain ⟨k, rfl⟩ : ∃ m, k = m + 1 := ⟨k - 1, by omega⟩
    simp only [laws_markInt64S.l0]
    rw [if_neg (by omega)]
    rw [List.take_of_length_le (by omega), List.take_of_length_le (by rw [iota_length]; omega)] at ht
    rw [ht, show i = n by omega]
  | succ d ih =>
    intro k i l hi hk hl ht
    obtain ⟨k, rfl⟩ : ∃ m, k = m + 1 := ⟨k - 1, by omega⟩
    simp only [laws_markInt64S.l0]
    rw [if_pos (by omega), if_pos (by omega), w64s i (by omega), Int.toNat_natCast, w64 (m + i + 1) (by omega) (by omega), show m + (i : Int) + 1 = m + ((i + 1 : Nat) : Int) by omega]
    exact ih k (i + 1) _ (by omega) (by omega) (by rw [List.length_set]; exact hl) (fill_step (iota m n) l i _ (by rw [iota_length]; omega) (by rw [iota_length]; exact hl) ht (iota_get m n i (by rw [iota_length]; omega)))
theorem markInt_is (k : Nat) (l : List Int) (m : Int) (hm : 0 ≤ m ∧ m ≤ 4000000000000000000) (hb : l.length ≤ 4000000000000000000) (hk : l.length < k) : laws_markInt64S.f k l m = some (m + l.length, iota m l.length) := by
  unfold laws_markInt64S.f
  have := markInt_loop l.length hb m hm l.length k 0 l (by omega) hk rfl (by simp)
  simpa using this

/- Holes are marked with rising numbers. -/
def iotaHole : Int → List S59 → List S59
  | _, [] => []
  | m, r :: rs => ⟨m, iota (m + 1) r.f1.length⟩ :: iotaHole (m + 1 + r.f1.length) rs
def cntHole : List S59 → Nat
  | [] => 0
  | r :: rs => 1 + r.f1.length + cntHole rs
theorem cntHole_le : ∀ rs : List S59, (∀ s ∈ rs, s.f1.length ≤ 1048576) → cntHole rs ≤ 1048577 * rs.length
  | [], _ => by simp [cntHole]
  | r :: rs, h => by
    have h1 := h r (by simp)
    have h2 := cntHole_le rs (fun s hs => h s (by simp [hs]))
    simp only [cntHole, List.length_cons]
    omega
theorem markHole_loop : ∀ (todo : List S59) (k : Nat) (pre : List S59) (m : Int), (pre.length + todo.length : Int) ≤ 4000000000000000000 → (∀ s ∈ todo, s.f1.length ≤ 1048576) → 1048577 + todo.length < k → 0 ≤ m → m + cntHole todo ≤ 3000000000000000000 → laws_markHoleS.l0 k (pre ++ todo) m pre.length = some (m + cntHole todo, pre ++ iotaHole m todo) := by
  intro todo
  induction todo with
  | nil =>
    intro k pre m h1 hr h2 h3 h4
    obtain ⟨k, rfl⟩ : ∃ m, k = m + 1 := ⟨k - 1, by omega⟩
    simp only [laws_markHoleS.l0]
    rw [if_neg (by simp)]
    simp [cntHole, iotaHole]
  | cons r rs ih =>
    intro k pre m h1 hr h2 h3 h4
    obtain ⟨k, rfl⟩ : ∃ m, k = m + 1 := ⟨k - 1, by omega⟩
    have hl := hr r (by simp)
    simp only [cntHole, List.length_cons] at h1 h2 h4
    have e1 : rd_T59 (pre ++ r :: rs) (pre.length : Int) = r := by
      unfold rd_T59
      rw [Int.toNat_natCast, List.getD_eq_getElem?_getD, List.getElem?_append_right (Nat.le_refl _), Nat.sub_self]
      rfl
    have e2 : ∀ v : S59, (pre ++ r :: rs).set ((pre.length : Int)).toNat v = (pre ++ [v]) ++ rs := by
      intro v
      rw [Int.toNat_natCast, List.set_append_right _ _ (Nat.le_refl _), Nat.sub_self]
      simp
    have e3 : pre.length + 1 = (pre ++ [(⟨m, iota (m + 1) r.f1.length⟩ : S59)]).length := by simp
    simp only [laws_markHoleS.l0]
    rw [if_pos (by simp; omega), if_pos (by omega), e1, w64 (m + 1) (by omega) (by omega), markInt_is k r.f1 (m + 1) (by omega) (by omega) (by omega), bind_some_, e2, w64s pre.length (by omega), e3, ih k _ (m + 1 + r.f1.length) (by simp; omega) (fun s hs => hr s (by simp [hs])) (by omega) (by omega) (by omega)]
    simp only [cntHole, iotaHole, List.append_assoc, List.singleton_append, Int.natCast_add, Int.add_assoc]
    rfl
theorem markHole_is (k : Nat) (rs : List S59) (m : Int) (hp : shortH rs) (hm : 0 ≤ m ∧ m ≤ 1000000000) (hk : 3000000 < k) : laws_markHoleS.f k rs m = some (m + (cntHole rs : Int), iotaHole m rs) := by
  have h1 := hp.1
  have h2 := cntHole_le rs hp.2
  have h3 : 1048577 * rs.length ≤ 1048577 * 1048576 := Nat.mul_le_mul (Nat.le_refl _) h1
  have e1 := markHole_loop rs k [] m (by simp; omega) hp.2 (by omega) (by omega) (by omega)
  exact e1

/- A list of the law's own structs is copied into the program's. -/
def toCurve (x : S133) : S124 := ⟨x.f0, x.f1, x.f2⟩
theorem rdLCurve_at (l : List S133) (i : Nat) (h : i < l.length) : rd_T133 l (i : Int) = l[i] := by
  unfold rd_T133
  rw [Int.toNat_natCast, List.getD_eq_getElem?_getD, List.getElem?_eq_getElem h]
  rfl
theorem toCurveS_loop (l : List S133) (hb : l.length ≤ 9223372036854775807) : ∀ (d k i : Nat) (acc : List S124), i + d = l.length → d < k → acc.length = l.length → acc.take i = (l.map toCurve).take i → laws_toCurveS.l0 k l acc i = some (l.map toCurve) := by
  intro d
  induction d with
  | zero =>
    intro k i acc hi hk ha ht
    obtain ⟨k, rfl⟩ : ∃ m, k = m + 1 := ⟨k - 1, by omega⟩
    simp only [laws_toCurveS.l0]
    rw [if_neg (by omega)]
    rw [List.take_of_length_le (by omega), List.take_of_length_le (by rw [List.length_map]; omega)] at ht
    rw [ht]
  | succ d ih =>
    intro k i acc hi hk ha ht
    obtain ⟨k, rfl⟩ : ∃ m, k = m + 1 := ⟨k - 1, by omega⟩
    simp only [laws_toCurveS.l0, laws_toCurve.f, bind_some_]
    rw [if_pos (by omega), if_pos (by omega), if_pos (by omega), w64s i (by omega), Int.toNat_natCast]
    refine ih k (i + 1) _ (by omega) (by omega) (by rw [List.length_set]; exact ha) (fill_step (l.map toCurve) acc i _ (by rw [List.length_map]; omega) (by rw [List.length_map]; exact ha) ht ?_)
    rw [List.getElem_map, rdLCurve_at l i (by omega)]
    rfl
theorem toCurveS_is (k : Nat) (l : List S133) (hb : l.length ≤ 1048576) (hk : l.length < k) : laws_toCurveS.f k l = some (l.map toCurve) := by
  unfold laws_toCurveS.f
  rw [if_pos (by omega), if_pos (by omega)]
  exact toCurveS_loop l (by omega) l.length k 0 _ (by omega) hk (by simp) (by simp)

/- An axis is copied, measured, marked, and equal to itself; a ground's marks are bounded. -/
theorem szAxis_is (a b u v : Int) (cs : List S133) (q : Int) (hb : cs.length ≤ 9223372036854775807) (h0 : 0 ≤ q) (h1 : q ≤ 1048576) : ∃ r, laws_szAxis.f a b u v cs q = some r ∧ (r < 0 ∨ cs.length ≤ 1048576) := by
  unfold laws_szAxis.f laws_szCurveS.f
  rw [w64 (q - (cs.length : Int)) (by omega) (by omega)]
  by_cases c : q - (cs.length : Int) < 0
  · rw [if_pos c, bind_some_, if_pos (by omega)]
    exact ⟨_, rfl, Or.inl (by omega)⟩
  · rw [if_neg c, bind_some_, if_neg c]
    exact ⟨_, rfl, Or.inr (by omega)⟩
theorem toAxis_is (k : Nat) (a b u v : Int) (cs : List S133) (hb : cs.length ≤ 1048576) (hk : cs.length < k) : laws_toAxis.f k a b u v cs = some (a, b, u, v, cs.map toCurve) := by
  unfold laws_toAxis.f laws_toPose.f
  rw [bind_some_]
  try dsimp only
  rw [toCurveS_is k cs hb hk, bind_some_]
theorem eqAxis_refl (k : Nat) (a b u v : Int) (cs : List S124) (hb : cs.length ≤ 1048576) (hk : cs.length < k) : laws_eqAxis.f k a b u v cs a b u v cs = some true := by
  unfold laws_eqAxis.f laws_eqPose.f
  rw [if_pos rfl, if_pos rfl, if_pos rfl, if_pos rfl, bind_some_, if_pos rfl, eqCurveS_refl k cs (by omega) hk, bind_some_, if_pos rfl]
theorem markAxis_ok (k : Nat) (a b u v : Int) (cs : List S124) (m : Int) (hm : 0 ≤ m ∧ m ≤ 4000000000000000) (hb : cs.length ≤ 1048576) (hk : cs.length < k) : ∃ r, laws_markAxis.f k a b u v cs m = some r ∧ 0 ≤ r.1 := by
  unfold laws_markAxis.f
  rw [markCurveS_is k cs m hm (by omega) hk, bind_some_]
  exact ⟨_, rfl, by dsimp only; omega⟩
theorem markGround_up (k : Nat) (ds : List Int) (hs : List S59) (m : Int) (hm : 0 ≤ m ∧ m ≤ 100000000) (hd : ds.length ≤ 1048576) (hp : shortH hs) (hk : 3000000 < k) : ∃ b, laws_markGround.f k ds hs m = some b ∧ 0 ≤ b.1 ∧ b.1 ≤ 4000000000000000 := by
  have h1 := hp.1
  have h2 := cntHole_le hs hp.2
  unfold laws_markGround.f
  rw [markInt_is k ds m (by omega) (by omega) (by omega), bind_some_]
  try dsimp only
  rw [markHole_is k hs (m + ds.length) hp ⟨by omega, by omega⟩ (by omega), bind_some_]
  exact ⟨_, rfl, by dsimp only; omega, by dsimp only; omega⟩

/- A ground is copied, measured, marked, and equal to itself. -/
theorem toGround_is (k : Nat) (ds : List Int) (hs : List S55) (hd : ds.length ≤ 1048576) (hb : hs.length ≤ 1048576) (hw : ∀ s ∈ hs, s.f1.length ≤ 1048576) (hk : 3000000 < k) : laws_toGround.f k ds hs = some (ds, hs.map toHole) := by
  unfold laws_toGround.f
  rw [toInt_is k ds (by omega) (by omega), bind_some_, toHoleS_is k hs hb hw (by omega), bind_some_]
theorem eqGround_refl (k : Nat) (ds : List Int) (hs : List S59) (hd : ds.length ≤ 1048576) (hp : shortH hs) (hk : 3000000 < k) : laws_eqGround.f k ds hs ds hs = some true := by
  have := hp.1
  unfold laws_eqGround.f
  rw [eqInt_is k ds ds (by omega) (by omega), bind_some_, if_pos (decide_eq_true rfl), eqHoleS_refl k hs hp (by omega), bind_some_, if_pos rfl]
theorem szGround_is (k : Nat) (ds : List Int) (hs : List S55) (hd : ds.length ≤ 9223372036854775807) (hb : hs.length ≤ 9223372036854775807) (hw : ∀ s ∈ hs, s.f1.length ≤ 9223372036854775807) (hk : 3000000 < k) : ∃ r, laws_szGround.f k ds hs 1048576 = some r ∧ r ≤ 1048576 ∧ (r < 0 ∨ (ds.length ≤ 1048576 ∧ hs.length ≤ 1048576 ∧ ∀ s ∈ hs, s.f1.length ≤ 1048576)) := by
  unfold laws_szGround.f laws_szInt64S.f
  rw [w64 (1048576 - (ds.length : Int)) (by omega) (by omega)]
  by_cases h1 : 1048576 - (ds.length : Int) < 0
  · rw [if_pos h1, bind_some_, if_pos (by omega)]
    exact ⟨_, rfl, by omega, Or.inl (by omega)⟩
  · obtain ⟨r, hr, hs2⟩ := szHoleS_is k hs (1048576 - (ds.length : Int)) hb hw (by omega) (by omega) (by omega)
    rw [if_neg h1, bind_some_, if_neg h1, hr, bind_some_]
    by_cases h2 : r < 0
    · rw [if_pos h2]
      exact ⟨_, rfl, by omega, Or.inl (by omega)⟩
    · rw [if_neg h2]
      have h3 := hs2.resolve_left h2
      by_cases h4 : r ≤ 1048576
      · exact ⟨_, rfl, h4, Or.inr ⟨by omega, h3⟩⟩
      · exact absurd (szHoleS_le k hs _ hb hw (by omega) (by omega) (by omega) r hr) h4
end Go.Proofs.Ytgfpbiaocokdeaa.P
