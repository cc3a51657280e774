-- Walks of this claim's functions, laid by a program of this session.
import Derived.Test.YtegjebiocgbmpaaPx0
namespace Go.Proofs.Ytegjebiocgbmpaa.P
open Go.RowKit Go.Proofs.YtegjebiocgbmpaaW.PrintWords Go.Proofs.YtegjebiocgbmpaaW.PrintLast Go.Proofs.YtegjebiocgbmpaaW.PrintMore
attribute [local go_sem] max2_int min2_int max_two min_two max_three min_three max_four min_four   -- for this text's walks alone
set_option linter.unusedVariables false
set_option linter.unusedSimpArgs false

/-! ### spec_l07Goes: function 26 -/
def spec_l07Goes.f (l0 : List Int) (l1 : List (List (List Int))) (a2 : Int) (l3 : List Int) (a4 : Int) (a5 : Int) (a6 : Int) : Option (Bool) := if a2 > 0 then (if a2 > 1 then (if 0 ≤ (wrap64 (a2 - 2)) then (if (wrap64 (a2 - 2)) < (l3.length : Int) then (if 0 ≤ (wrap64 (a2 - 1)) then (if (wrap64 (a2 - 1)) < (l0.length : Int) then (if (wrap64 ((wrap64 ((rd l3 (wrap64 (a2 - 2))) + (wrap64 (2 * a4)))) + a5)) < (rd l0 (wrap64 (a2 - 1))) then (some false) else (if 0 ≤ a2 then (if a2 < (l1.length : Int) then (if 0 ≤ a4 then (if a4 < ((rd_L3 l1 a2).length : Int) then (if 0 ≤ a5 then (if a5 < ((rd_L2 (rd_L3 l1 a2) a4).length : Int) then (some ((rd (rd_L2 (rd_L3 l1 a2) a4) a5) == a6)) else (none)) else (none)) else (none)) else (none)) else (none)) else (none))) else (none)) else (none)) else (none)) else (none)) else (if 0 ≤ (wrap64 (a2 - 1)) then (if (wrap64 (a2 - 1)) < (l0.length : Int) then (if (wrap64 ((wrap64 (0 + (wrap64 (2 * a4)))) + a5)) < (rd l0 (wrap64 (a2 - 1))) then (some false) else (if 0 ≤ a2 then (if a2 < (l1.length : Int) then (if 0 ≤ a4 then (if a4 < ((rd_L3 l1 a2).length : Int) then (if 0 ≤ a5 then (if a5 < ((rd_L2 (rd_L3 l1 a2) a4).length : Int) then (some ((rd (rd_L2 (rd_L3 l1 a2) a4) a5) == a6)) else (none)) else (none)) else (none)) else (none)) else (none)) else (none))) else (none)) else (none))) else (if 0 ≤ a2 then (if a2 < (l1.length : Int) then (if 0 ≤ a4 then (if a4 < ((rd_L3 l1 a2).length : Int) then (if 0 ≤ a5 then (if a5 < ((rd_L2 (rd_L3 l1 a2) a4).length : Int) then (some ((rd (rd_L2 (rd_L3 l1 a2) a4) a5) == a6)) else (none)) else (none)) else (none)) else (none)) else (none)) else (none))
set_option maxHeartbeats 8000000 in
set_option maxRecDepth 100000 in
theorem spec_l07Goes.calls (A0 : Option Addr) (c0 : Nat) (l0 : List Int) (A1 : Option Addr) (c1 : Nat) (l1 : List (List (List Int))) (a2 : Int) (A3 : Option Addr) (c3 : Nat) (l3 : List Int) (a4 : Int) (a5 : Int) (a6 : Int) (r : Bool) (w : World) (hr0 : Kd.C (Kd.int .i64) w A0 l0.length l0) (hc0 : l0.length ≤ c0) (hr1 : Kd.C (Kd.slice 24 (Kd.slice 2 (Kd.int .i64))) w A1 l1.length l1) (hc1 : l1.length ≤ c1) (hr3 : Kd.C (Kd.int .i64) w A3 l3.length l3) (hc3 : l3.length ≤ c3) (h : spec_l07Goes.f l0 l1 a2 l3 a4 a5 a6 = some r) :
    Calls Try.prog 26 #[.slice A0 l0.length c0, .slice A1 l1.length c1, .int .i64 a2, .slice A3 l3.length c3, .int .i64 a4, .int .i64 a5, .int .i64 a6] w fun e w' => e = .returned (.bool r) ∧ Drawn0 w w' := by
  have HR0 := Aside0.mk hr0
  have HC0 := Aside0.mk hc0
  clear hr0 hc0
  have HR1 := Aside0.mk hr1
  have HC1 := Aside0.mk hc1
  clear hr1 hc1
  have HR3 := Aside0.mk hr3
  have HC3 := Aside0.mk hc3
  clear hr3 hc3
  have H : (if a2 > 0 then (if a2 > 1 then (if 0 ≤ (wrap64 (a2 - 2)) then (if (wrap64 (a2 - 2)) < (l3.length : Int) then (if 0 ≤ (wrap64 (a2 - 1)) then (if (wrap64 (a2 - 1)) < (l0.length : Int) then (if (wrap64 ((wrap64 ((rd l3 (wrap64 (a2 - 2))) + (wrap64 (2 * a4)))) + a5)) < (rd l0 (wrap64 (a2 - 1))) then (some false) else (if 0 ≤ a2 then (if a2 < (l1.length : Int) then (if 0 ≤ a4 then (if a4 < ((rd_L3 l1 a2).length : Int) then (if 0 ≤ a5 then (if a5 < ((rd_L2 (rd_L3 l1 a2) a4).length : Int) then (some ((rd (rd_L2 (rd_L3 l1 a2) a4) a5) == a6)) else (none)) else (none)) else (none)) else (none)) else (none)) else (none))) else (none)) else (none)) else (none)) else (none)) else (if 0 ≤ (wrap64 (a2 - 1)) then (if (wrap64 (a2 - 1)) < (l0.length : Int) then (if (wrap64 ((wrap64 (0 + (wrap64 (2 * a4)))) + a5)) < (rd l0 (wrap64 (a2 - 1))) then (some false) else (if 0 ≤ a2 then (if a2 < (l1.length : Int) then (if 0 ≤ a4 then (if a4 < ((rd_L3 l1 a2).length : Int) then (if 0 ≤ a5 then (if a5 < ((rd_L2 (rd_L3 l1 a2) a4).length : Int) then (some ((rd (rd_L2 (rd_L3 l1 a2) a4) a5) == a6)) else (none)) else (none)) else (none)) else (none)) else (none)) else (none))) else (none)) else (none))) else (if 0 ≤ a2 then (if a2 < (l1.length : Int) then (if 0 ≤ a4 then (if a4 < ((rd_L3 l1 a2).length : Int) then (if 0 ≤ a5 then (if a5 < ((rd_L2 (rd_L3 l1 a2) a4).length : Int) then (some ((rd (rd_L2 (rd_L3 l1 a2) a4) a5) == a6)) else (none)) else (none)) else (none)) else (none)) else (none)) else (none))) = some r := h
  clear h
  by_cases c8 : a2 > 0
  · rw [if_pos c8] at H
    have c8b0 : decide (0 < a2) = true := decide_eq_true c8
    clear c8
    by_cases c9 : a2 > 1
    · rw [if_pos c9] at H
      have c9b0 : decide (1 < a2) = true := decide_eq_true c9
      clear c9
      obtain ⟨ji10, hji10⟩ : ∃ j_ : Int, (wrap64 (a2 - 2)) = j_ := ⟨_, rfl⟩
      replace H : (if 0 ≤ (ji10) then (if (ji10) < (l3.length : Int) then (if 0 ≤ (wrap64 (a2 - 1)) then (if (wrap64 (a2 - 1)) < (l0.length : Int) then (if (wrap64 ((wrap64 ((rd l3 (ji10)) + (wrap64 (2 * a4)))) + a5)) < (rd l0 (wrap64 (a2 - 1))) then (some false) else (if 0 ≤ a2 then (if a2 < (l1.length : Int) then (if 0 ≤ a4 then (if a4 < ((rd_L3 l1 a2).length : Int) then (if 0 ≤ a5 then (if a5 < ((rd_L2 (rd_L3 l1 a2) a4).length : Int) then (some ((rd (rd_L2 (rd_L3 l1 a2) a4) a5) == a6)) else (none)) else (none)) else (none)) else (none)) else (none)) else (none))) else (none)) else (none)) else (none)) else (none)) = some r := by first | (rw [hji10] at H; exact H) | (simp only [hji10] at H ⊢; exact H)
      have hji10w : (IntKind.i64.wrap (a2 - 2)) = ji10 := (i64_w _).trans hji10
      by_cases c11 : 0 ≤ (ji10)
      · rw [if_pos c11] at H
        have c11b0 : decide (0 ≤ (ji10)) = true := decide_eq_true c11
        clear c11
        by_cases c12 : (ji10) < (l3.length : Int)
        · rw [if_pos c12] at H
          have c12b0 : decide ((ji10) < (l3.length : Int)) = true := decide_eq_true c12
          clear c12
          obtain ⟨ji13, hji13⟩ : ∃ j_ : Int, (wrap64 (a2 - 1)) = j_ := ⟨_, rfl⟩
          replace H : (if 0 ≤ (ji13) then (if (ji13) < (l0.length : Int) then (if (wrap64 ((wrap64 ((rd l3 (ji10)) + (wrap64 (2 * a4)))) + a5)) < (rd l0 (ji13)) then (some false) else (if 0 ≤ a2 then (if a2 < (l1.length : Int) then (if 0 ≤ a4 then (if a4 < ((rd_L3 l1 a2).length : Int) then (if 0 ≤ a5 then (if a5 < ((rd_L2 (rd_L3 l1 a2) a4).length : Int) then (some ((rd (rd_L2 (rd_L3 l1 a2) a4) a5) == a6)) else (none)) else (none)) else (none)) else (none)) else (none)) else (none))) else (none)) else (none)) = some r := by first | (rw [hji13] at H; exact H) | (simp only [hji13] at H ⊢; exact H)
          have hji13w : (IntKind.i64.wrap (a2 - 1)) = ji13 := (i64_w _).trans hji13
          by_cases c14 : 0 ≤ (ji13)
          · rw [if_pos c14] at H
            have c14b0 : decide (0 ≤ (ji13)) = true := decide_eq_true c14
            clear c14
            by_cases c15 : (ji13) < (l0.length : Int)
            · rw [if_pos c15] at H
              have c15b0 : decide ((ji13) < (l0.length : Int)) = true := decide_eq_true c15
              clear c15
              by_cases c16 : (wrap64 ((wrap64 ((rd l3 (ji10)) + (wrap64 (2 * a4)))) + a5)) < (rd l0 (ji13))
              · rw [if_pos c16] at H
                have c16b0 : decide ((wrap64 ((wrap64 ((rd l3 (ji10)) + (wrap64 (2 * a4)))) + a5)) < (rd l0 (ji13))) = true := decide_eq_true c16
                clear c16
                obtain rfl := Option.some.inj H
                have p231 : 0 ≤ ((ji10) : Int) := of_decide_eq_true (by first | (with_reducible assumption) | assumption)
                have q231 : (ji10) < (l3.length : Int) := of_decide_eq_true (by first | (with_reducible assumption) | assumption)
                obtain ⟨ad231, e231, hx231_0⟩ := Kd.at_int HR3.out (ji10) p231 q231
                cases e231
                replace p231 := eq_true p231
                replace q231 := eq_true q231
                have p232 : 0 ≤ ((ji13) : Int) := of_decide_eq_true (by first | (with_reducible assumption) | assumption)
                have q232 : (ji13) < (l0.length : Int) := of_decide_eq_true (by first | (with_reducible assumption) | assumption)
                obtain ⟨ad232, e232, hx232_0⟩ := Kd.at_int HR0.out (ji13) p232 q232
                cases e232
                replace p232 := eq_true p232
                replace q232 := eq_true q232
                go_enter Try.func26, Try.ntmps26
                go_wp2
                go_ret
                exact ⟨by first | rfl | (simp; done) | (simp only [← hji10, ← hji13] <;> (first | rfl | simp)) | (simp [*]; done), by repeat (first | exact Drawn0.refl _ | apply Drawn0.step)⟩
              · rw [if_neg c16] at H
                have c16b0 : decide ((wrap64 ((wrap64 ((rd l3 (ji10)) + (wrap64 (2 * a4)))) + a5)) < (rd l0 (ji13))) = false := decide_eq_false c16
                clear c16
                by_cases c17 : 0 ≤ a2
                · rw [if_pos c17] at H
                  have c17b0 : decide (0 ≤ a2) = true := decide_eq_true c17
                  clear c17
                  by_cases c18 : a2 < (l1.length : Int)
                  · rw [if_pos c18] at H
                    have c18b0 : decide (a2 < (l1.length : Int)) = true := decide_eq_true c18
                    clear c18
                    by_cases c19 : 0 ≤ a4
                    · rw [if_pos c19] at H
                      have c19b0 : decide (0 ≤ a4) = true := decide_eq_true c19
                      clear c19
                      by_cases c20 : a4 < ((rd_L3 l1 a2).length : Int)
                      · rw [if_pos c20] at H
                        have c20b0 : decide (a4 < ((rd_L3 l1 a2).length : Int)) = true := decide_eq_true c20
                        clear c20
                        by_cases c21 : 0 ≤ a5
                        · rw [if_pos c21] at H
                          have c21b0 : decide (0 ≤ a5) = true := decide_eq_true c21
                          clear c21
                          by_cases c22 : a5 < ((rd_L2 (rd_L3 l1 a2) a4).length : Int)
                          · rw [if_pos c22] at H
                            have c22b0 : decide (a5 < ((rd_L2 (rd_L3 l1 a2) a4).length : Int)) = true := decide_eq_true c22
                            clear c22
                            obtain rfl := Option.some.inj H
                            have p231 : 0 ≤ ((ji10) : Int) := of_decide_eq_true (by first | (with_reducible assumption) | assumption)
                            have q231 : (ji10) < (l3.length : Int) := of_decide_eq_true (by first | (with_reducible assumption) | assumption)
                            obtain ⟨ad231, e231, hx231_0⟩ := Kd.at_int HR3.out (ji10) p231 q231
                            cases e231
                            replace p231 := eq_true p231
                            replace q231 := eq_true q231
                            have p232 : 0 ≤ ((ji13) : Int) := of_decide_eq_true (by first | (with_reducible assumption) | assumption)
                            have q232 : (ji13) < (l0.length : Int) := of_decide_eq_true (by first | (with_reducible assumption) | assumption)
                            obtain ⟨ad232, e232, hx232_0⟩ := Kd.at_int HR0.out (ji13) p232 q232
                            cases e232
                            replace p232 := eq_true p232
                            replace q232 := eq_true q232
                            have p233 : 0 ≤ (a2 : Int) := of_decide_eq_true (by first | (with_reducible assumption) | assumption)
                            have q233 : a2 < (l1.length : Int) := of_decide_eq_true (by first | (with_reducible assumption) | assumption)
                            obtain ⟨ad233, A233_0, c233_0, e233, hx233_0, hl233_0, hi233_0⟩ := at_L3 HR1.out a2 p233 q233
                            cases e233
                            have HR233_0 := Aside0.mk hi233_0
                            have HC233_0 := Aside0.mk hl233_0
                            clear hi233_0 hl233_0
                            replace p233 := eq_true p233
                            replace q233 := eq_true q233
                            have p234 : 0 ≤ (a4 : Int) := of_decide_eq_true (by first | (with_reducible assumption) | assumption)
                            have q234 : a4 < ((rd_L3 l1 a2).length : Int) := of_decide_eq_true (by first | (with_reducible assumption) | assumption)
                            obtain ⟨ad234, A234_0, c234_0, e234, hx234_0, hl234_0, hi234_0⟩ := at_L2 HR233_0.out a4 p234 q234
                            cases e234
                            have HR234_0 := Aside0.mk hi234_0
                            have HC234_0 := Aside0.mk hl234_0
                            clear hi234_0 hl234_0
                            replace p234 := eq_true p234
                            replace q234 := eq_true q234
                            have p235 : 0 ≤ (a5 : Int) := of_decide_eq_true (by first | (with_reducible assumption) | assumption)
                            have q235 : a5 < ((rd_L2 (rd_L3 l1 a2) a4).length : Int) := of_decide_eq_true (by first | (with_reducible assumption) | assumption)
                            obtain ⟨ad235, e235, hx235_0⟩ := Kd.at_int HR234_0.out a5 p235 q235
                            cases e235
                            replace p235 := eq_true p235
                            replace q235 := eq_true q235
                            go_enter Try.func26, Try.ntmps26
                            go_wp2
                            go_ret
                            exact ⟨by first | rfl | (simp; done) | (simp only [← hji10, ← hji13] <;> (first | rfl | simp)) | (simp [*]; done), by repeat (first | exact Drawn0.refl _ | apply Drawn0.step)⟩
                          · rw [if_neg c22] at H
                            exact absurd H (by simp)
                        · rw [if_neg c21] at H
                          exact absurd H (by simp)
                      · rw [if_neg c20] at H
                        exact absurd H (by simp)
                    · rw [if_neg c19] at H
                      exact absurd H (by simp)
                  · rw [if_neg c18] at H
                    exact absurd H (by simp)
                · rw [if_neg c17] at H
                  exact absurd H (by simp)
            · rw [if_neg c15] at H
              exact absurd H (by simp)
          · rw [if_neg c14] at H
            exact absurd H (by simp)
        · rw [if_neg c12] at H
          exact absurd H (by simp)
      · rw [if_neg c11] at H
        exact absurd H (by simp)
    · rw [if_neg c9] at H
      have c9b0 : decide (1 < a2) = false := decide_eq_false c9
      clear c9
      obtain ⟨ji23, hji23⟩ : ∃ j_ : Int, (wrap64 (a2 - 1)) = j_ := ⟨_, rfl⟩
      replace H : (if 0 ≤ (ji23) then (if (ji23) < (l0.length : Int) then (if (wrap64 ((wrap64 (0 + (wrap64 (2 * a4)))) + a5)) < (rd l0 (ji23)) then (some false) else (if 0 ≤ a2 then (if a2 < (l1.length : Int) then (if 0 ≤ a4 then (if a4 < ((rd_L3 l1 a2).length : Int) then (if 0 ≤ a5 then (if a5 < ((rd_L2 (rd_L3 l1 a2) a4).length : Int) then (some ((rd (rd_L2 (rd_L3 l1 a2) a4) a5) == a6)) else (none)) else (none)) else (none)) else (none)) else (none)) else (none))) else (none)) else (none)) = some r := by first | (rw [hji23] at H; exact H) | (simp only [hji23] at H ⊢; exact H)
      have hji23w : (IntKind.i64.wrap (a2 - 1)) = ji23 := (i64_w _).trans hji23
      by_cases c24 : 0 ≤ (ji23)
      · rw [if_pos c24] at H
        have c24b0 : decide (0 ≤ (ji23)) = true := decide_eq_true c24
        clear c24
        by_cases c25 : (ji23) < (l0.length : Int)
        · rw [if_pos c25] at H
          have c25b0 : decide ((ji23) < (l0.length : Int)) = true := decide_eq_true c25
          clear c25
          by_cases c26 : (wrap64 ((wrap64 (0 + (wrap64 (2 * a4)))) + a5)) < (rd l0 (ji23))
          · rw [if_pos c26] at H
            have c26b0 : decide ((wrap64 ((wrap64 (0 + (wrap64 (2 * a4)))) + a5)) < (rd l0 (ji23))) = true := decide_eq_true c26
            (try (have c26z0 := c26b0; simp only [Int.zero_add] at c26z0))
            clear c26
            obtain rfl := Option.some.inj H
            have p236 : 0 ≤ ((ji23) : Int) := of_decide_eq_true (by first | (with_reducible assumption) | assumption)
            have q236 : (ji23) < (l0.length : Int) := of_decide_eq_true (by first | (with_reducible assumption) | assumption)
            obtain ⟨ad236, e236, hx236_0⟩ := Kd.at_int HR0.out (ji23) p236 q236
            cases e236
            replace p236 := eq_true p236
            replace q236 := eq_true q236
            go_enter Try.func26, Try.ntmps26
            go_wp2
            go_ret
            exact ⟨by first | rfl | (simp; done) | (simp only [← hji23] <;> (first | rfl | simp)) | (simp [*]; done), by repeat (first | exact Drawn0.refl _ | apply Drawn0.step)⟩
          · rw [if_neg c26] at H
            have c26b0 : decide ((wrap64 ((wrap64 (0 + (wrap64 (2 * a4)))) + a5)) < (rd l0 (ji23))) = false := decide_eq_false c26
            (try (have c26z0 := c26b0; simp only [Int.zero_add] at c26z0))
            clear c26
            by_cases c27 : 0 ≤ a2
            · rw [if_pos c27] at H
              have c27b0 : decide (0 ≤ a2) = true := decide_eq_true c27
              clear c27
              by_cases c28 : a2 < (l1.length : Int)
              · rw [if_pos c28] at H
                have c28b0 : decide (a2 < (l1.length : Int)) = true := decide_eq_true c28
                clear c28
                by_cases c29 : 0 ≤ a4
                · rw [if_pos c29] at H
                  have c29b0 : decide (0 ≤ a4) = true := decide_eq_true c29
                  clear c29
                  by_cases c30 : a4 < ((rd_L3 l1 a2).length : Int)
                  · rw [if_pos c30] at H
                    have c30b0 : decide (a4 < ((rd_L3 l1 a2).length : Int)) = true := decide_eq_true c30
                    clear c30
                    by_cases c31 : 0 ≤ a5
                    · rw [if_pos c31] at H
                      have c31b0 : decide (0 ≤ a5) = true := decide_eq_true c31
                      clear c31
                      by_cases c32 : a5 < ((rd_L2 (rd_L3 l1 a2) a4).length : Int)
                      · rw [if_pos c32] at H
                        have c32b0 : decide (a5 < ((rd_L2 (rd_L3 l1 a2) a4).length : Int)) = true := decide_eq_true c32
                        clear c32
                        obtain rfl := Option.some.inj H
                        have p236 : 0 ≤ ((ji23) : Int) := of_decide_eq_true (by first | (with_reducible assumption) | assumption)
                        have q236 : (ji23) < (l0.length : Int) := of_decide_eq_true (by first | (with_reducible assumption) | assumption)
                        obtain ⟨ad236, e236, hx236_0⟩ := Kd.at_int HR0.out (ji23) p236 q236
                        cases e236
                        replace p236 := eq_true p236
                        replace q236 := eq_true q236
                        have p237 : 0 ≤ (a2 : Int) := of_decide_eq_true (by first | (with_reducible assumption) | assumption)
                        have q237 : a2 < (l1.length : Int) := of_decide_eq_true (by first | (with_reducible assumption) | assumption)
                        obtain ⟨ad237, A237_0, c237_0, e237, hx237_0, hl237_0, hi237_0⟩ := at_L3 HR1.out a2 p237 q237
                        cases e237
                        have HR237_0 := Aside0.mk hi237_0
                        have HC237_0 := Aside0.mk hl237_0
                        clear hi237_0 hl237_0
                        replace p237 := eq_true p237
                        replace q237 := eq_true q237
                        have p238 : 0 ≤ (a4 : Int) := of_decide_eq_true (by first | (with_reducible assumption) | assumption)
                        have q238 : a4 < ((rd_L3 l1 a2).length : Int) := of_decide_eq_true (by first | (with_reducible assumption) | assumption)
                        obtain ⟨ad238, A238_0, c238_0, e238, hx238_0, hl238_0, hi238_0⟩ := at_L2 HR237_0.out a4 p238 q238
                        cases e238
                        have HR238_0 := Aside0.mk hi238_0
                        have HC238_0 := Aside0.mk hl238_0
                        clear hi238_0 hl238_0
                        replace p238 := eq_true p238
                        replace q238 := eq_true q238
                        have p239 : 0 ≤ (a5 : Int) := of_decide_eq_true (by first | (with_reducible assumption) | assumption)
                        have q239 : a5 < ((rd_L2 (rd_L3 l1 a2) a4).length : Int) := of_decide_eq_true (by first | (with_reducible assumption) | assumption)
                        obtain ⟨ad239, e239, hx239_0⟩ := Kd.at_int HR238_0.out a5 p239 q239
                        cases e239
                        replace p239 := eq_true p239
                        replace q239 := eq_true q239
                        go_enter Try.func26, Try.ntmps26
                        go_wp2
                        go_ret
                        exact ⟨by first | rfl | (simp; done) | (simp only [← hji23] <;> (first | rfl | simp)) | (simp [*]; done), by repeat (first | exact Drawn0.refl _ | apply Drawn0.step)⟩
                      · rw [if_neg c32] at H
                        exact absurd H (by simp)
                    · rw [if_neg c31] at H
                      exact absurd H (by simp)
                  · rw [if_neg c30] at H
                    exact absurd H (by simp)
                · rw [if_neg c29] at H
                  exact absurd H (by simp)
              · rw [if_neg c28] at H
                exact absurd H (by simp)
            · rw [if_neg c27] at H
              exact absurd H (by simp)
        · rw [if_neg c25] at H
          exact absurd H (by simp)
      · rw [if_neg c24] at H
        exact absurd H (by simp)
  · rw [if_neg c8] at H
    have c8b0 : decide (0 < a2) = false := decide_eq_false c8
    clear c8
    by_cases c33 : 0 ≤ a2
    · rw [if_pos c33] at H
      have c33b0 : decide (0 ≤ a2) = true := decide_eq_true c33
      clear c33
      by_cases c34 : a2 < (l1.length : Int)
      · rw [if_pos c34] at H
        have c34b0 : decide (a2 < (l1.length : Int)) = true := decide_eq_true c34
        clear c34
        by_cases c35 : 0 ≤ a4
        · rw [if_pos c35] at H
          have c35b0 : decide (0 ≤ a4) = true := decide_eq_true c35
          clear c35
          by_cases c36 : a4 < ((rd_L3 l1 a2).length : Int)
          · rw [if_pos c36] at H
            have c36b0 : decide (a4 < ((rd_L3 l1 a2).length : Int)) = true := decide_eq_true c36
            clear c36
            by_cases c37 : 0 ≤ a5
            · rw [if_pos c37] at H
              have c37b0 : decide (0 ≤ a5) = true := decide_eq_true c37
              clear c37
              by_cases c38 : a5 < ((rd_L2 (rd_L3 l1 a2) a4).length : Int)
              · rw [if_pos c38] at H
                have c38b0 : decide (a5 < ((rd_L2 (rd_L3 l1 a2) a4).length : Int)) = true := decide_eq_true c38
                clear c38
                obtain rfl := Option.some.inj H
                have p240 : 0 ≤ (a2 : Int) := of_decide_eq_true (by first | (with_reducible assumption) | assumption)
                have q240 : a2 < (l1.length : Int) := of_decide_eq_true (by first | (with_reducible assumption) | assumption)
                obtain ⟨ad240, A240_0, c240_0, e240, hx240_0, hl240_0, hi240_0⟩ := at_L3 HR1.out a2 p240 q240
                cases e240
                have HR240_0 := Aside0.mk hi240_0
                have HC240_0 := Aside0.mk hl240_0
                clear hi240_0 hl240_0
                replace p240 := eq_true p240
                replace q240 := eq_true q240
                have p241 : 0 ≤ (a4 : Int) := of_decide_eq_true (by first | (with_reducible assumption) | assumption)
                have q241 : a4 < ((rd_L3 l1 a2).length : Int) := of_decide_eq_true (by first | (with_reducible assumption) | assumption)
                obtain ⟨ad241, A241_0, c241_0, e241, hx241_0, hl241_0, hi241_0⟩ := at_L2 HR240_0.out a4 p241 q241
                cases e241
                have HR241_0 := Aside0.mk hi241_0
                have HC241_0 := Aside0.mk hl241_0
                clear hi241_0 hl241_0
                replace p241 := eq_true p241
                replace q241 := eq_true q241
                have p242 : 0 ≤ (a5 : Int) := of_decide_eq_true (by first | (with_reducible assumption) | assumption)
                have q242 : a5 < ((rd_L2 (rd_L3 l1 a2) a4).length : Int) := of_decide_eq_true (by first | (with_reducible assumption) | assumption)
                obtain ⟨ad242, e242, hx242_0⟩ := Kd.at_int HR241_0.out a5 p242 q242
                cases e242
                replace p242 := eq_true p242
                replace q242 := eq_true q242
                go_enter Try.func26, Try.ntmps26
                go_wp2
                go_ret
                exact ⟨by first | rfl | (simp; done) | (simp [*]; done) | (simp [Int.tdiv_eq_ediv_of_nonneg, *]; done), by repeat (first | exact Drawn0.refl _ | apply Drawn0.step)⟩
              · rw [if_neg c38] at H
                exact absurd H (by simp)
            · rw [if_neg c37] at H
              exact absurd H (by simp)
          · rw [if_neg c36] at H
            exact absurd H (by simp)
        · rw [if_neg c35] at H
          exact absurd H (by simp)
      · rw [if_neg c34] at H
        exact absurd H (by simp)
    · rw [if_neg c33] at H
      exact absurd H (by simp)

end Go.Proofs.Ytegjebiocgbmpaa.P
