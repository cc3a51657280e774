/- What the claim of FnExactClassesAlong bears, part 4: functions of the program as plain Lean functions, with proofs that the code comes to their answers, and lemmas on them. -/
import Derived.Test.YtgfpbiaocokdeaaCFnExactClassesAlong0
import Derived.Test.YtgfpbiaocokdeaaCFnExactClassesAlong3
import Derived.Test.YtgfpbiaocokdeaaCFnExactClassesAlong2
import Derived.Test.YtgfpbiaocokdeaaCFnExactClassesAlong1
set_option linter.unusedVariables false
set_option linter.unusedSimpArgs false
namespace Go.Proofs.Ytgfpbiaocokdeaa.P
open Go.RowKit Go.Proofs.YtgfpbiaocokdeaaW.PrintWords Go.Proofs.YtgfpbiaocokdeaaW.PrintLast Go.Proofs.YtgfpbiaocokdeaaW.PrintMore
attribute [local go_sem] max2_int min2_int max_two min_two max_three min_three max_four min_four   -- for this text's walks alone

mutual
def spec_l06At.j1 : Nat → Int → Int → List Int → List (S59) → Option (List Int)
 | 0, _, _, _, _ => none
 | k + 1, x1, x5, x1000, x1001 => spec_l06At.l1 k x1 x5 (wrap64 ((x1001.length : Int) - 1)) x1000 x1001
def spec_l06At.j3 : Nat → Int → Int → Int → List Int → List (S59) → Option (List Int)
 | 0, _, _, _, _, _ => none
 | k + 1, x1, x5, x6, x1000, x1001 => if 0 ≤ x5 then (if x5 < (x1001.length : Int) then (if 0 ≤ x6 then (if x6 < (x1001.length : Int) then (if ((rd_T59 x1001 x5).f0) > x1 then (spec_l06At.j4 k x1 x5 x6 true x1000 x1001) else (spec_l06At.j4 k x1 x5 x6 (decide (((rd_T59 x1001 x5).f0) ≥ ((rd_T59 x1001 x6).f0))) x1000 x1001)) else (none)) else (none)) else (none)) else (none)
def spec_l06At.j4 : Nat → Int → Int → Int → Bool → List Int → List (S59) → Option (List Int)
 | 0, _, _, _, _, _, _ => none
 | k + 1, x1, x5, x6, x85, x1000, x1001 => if x85 = true then (if 0 ≤ x5 then (if x5 < (x1001.length : Int) then ((spec_l00Own.f ((rd_T59 x1001 x5).f1)).bind fun t138 => (some t138)) else (none)) else (none)) else (spec_l06At.l2 k x1 x5 x6 (([] : List Int)) 0 x1000 x1001)
def spec_l06At.l2 : Nat → Int → Int → Int → List Int → Int → List Int → List (S59) → Option (List Int)
 | 0, _, _, _, _, _, _, _ => none
 | k + 1, x1, x5, x6, x9, x10, x1000, x1001 => if 0 ≤ x5 then (if x5 < (x1001.length : Int) then (if x10 < (((rd_T59 x1001 x5).f1).length : Int) then (if 0 ≤ x10 then (if 0 ≤ x6 then (if x6 < (x1001.length : Int) then (if x10 < (((rd_T59 x1001 x6).f1).length : Int) then ((spec_l01Floor.f (wrap64 ((wrap64 ((rd ((rd_T59 x1001 x6).f1) x10) - (rd ((rd_T59 x1001 x5).f1) x10))) * (wrap64 (x1 - ((rd_T59 x1001 x5).f0))))) (wrap64 (((rd_T59 x1001 x6).f0) - ((rd_T59 x1001 x5).f0)))).bind fun t150 => (if x9.length < 17592186044416 then (spec_l06At.l2 k x1 x5 x6 (x9 ++ [wrap64 ((rd ((rd_T59 x1001 x5).f1) x10) + t150)]) (wrap64 (x10 + 1)) x1000 x1001) else (none))) else (none)) else (none)) else (none)) else (none)) else (some x9)) else (none)) else (none)
def spec_l06At.l1 : Nat → Int → Int → Int → List Int → List (S59) → Option (List Int)
 | 0, _, _, _, _, _ => none
 | k + 1, x1, x5, x6, x1000, x1001 => if x6 > 0 then (if 0 ≤ (wrap64 (x6 - 1)) then (if (wrap64 (x6 - 1)) < (x1001.length : Int) then (if ((rd_T59 x1001 (wrap64 (x6 - 1))).f0) ≥ x1 then (spec_l06At.l1 k x1 x5 (wrap64 (x6 - 1)) x1000 x1001) else (spec_l06At.j3 k x1 x5 x6 x1000 x1001)) else (none)) else (none)) else (spec_l06At.j3 k x1 x5 x6 x1000 x1001)
def spec_l06At.l0 : Nat → Int → Int → List Int → List (S59) → Option (List Int)
 | 0, _, _, _, _ => none
 | k + 1, x1, x5, x1000, x1001 => if (wrap64 (x5 + 1)) < (x1001.length : Int) then (if 0 ≤ (wrap64 (x5 + 1)) then (if ((rd_T59 x1001 (wrap64 (x5 + 1))).f0) ≤ x1 then (spec_l06At.l0 k x1 (wrap64 (x5 + 1)) x1000 x1001) else (spec_l06At.j1 k x1 x5 x1000 x1001)) else (none)) else (spec_l06At.j1 k x1 x5 x1000 x1001)
end
def spec_l06At.f (k : Nat) (l0_0 : List Int) (l0_1 : List (S59)) (a1 : Int) : Option (List Int) := spec_l06At.l0 k a1 0 l0_0 l0_1
def spec_l06At.T9 : Bool × List (List Nat × List Nat) := (true, [([], []), ([0], [0]), ([1], [1]), ([2], [2]), ([], []), ([3, 4], [3, 4]), ([5], [5]), ([6], [6]), ([7, 6], [6, 7]), ([8, 6], [6, 8]), ([9, 6], [6, 9]), ([6], [6]), ([11, 6], [6, 11]), ([12, 6], [6, 12]), ([13, 6], [6, 13]), ([10, 14, 6], [6, 10, 14]), ([6, 15], [6, 15])])
def spec_l06At.B9 : List Nat := [0, 1, 3, 7, 0, 31, 63, 127, 255, 511, 1023, 127, 2175, 6271, 14463, 32767, 65535]
theorem spec_l06At.tab9 : rtab .any (opsOf Try.f79 9) = spec_l06At.T9 := by kernel_rfl
theorem spec_l06At.bits9 : waitsOk spec_l06At.T9.2 spec_l06At.B9 = true := by kernel_rfl
def spec_l06At.T15 : Bool × List (List Nat × List Nat) := (true, [([], []), ([], []), ([1], [1]), ([2], [2]), ([3], [3]), ([], []), ([4, 5], [4, 5]), ([6], [6]), ([], []), ([8], [8]), ([9], [9]), ([10], [10]), ([], []), ([11, 12], [11, 12]), ([13], [13]), ([], []), ([15], [15]), ([16], [16]), ([17], [17]), ([], []), ([18, 19], [18, 19]), ([20], [20]), ([14, 21], [14, 21]), ([], []), ([], []), ([24], [24]), ([25], [25]), ([26], [26]), ([23, 27], [23, 27]), ([22, 28], [22, 28]), ([], []), ([30], [30]), ([31], [31]), ([32], [32]), ([], []), ([34], [34]), ([35], [35]), ([36], [36]), ([33, 37], [33, 37]), ([29, 38], [29, 38]), ([7, 39], [7, 39]), ([40], [40]), ([0, 41, 39], [0, 41]), ([42, 42, 0, 1, 2, 3, 4, 5, 6, 7, 8, 9, 10, 11, 12, 13, 14, 15, 16, 17, 18, 19, 20, 21, 22, 23, 24, 25, 26, 27, 28, 29, 30, 31, 32, 33, 34, 35, 36, 37, 38, 39, 40, 41, 42], [0, 42])])
def spec_l06At.B15 : List Nat := [0, 0, 2, 6, 14, 0, 62, 126, 0, 256, 768, 1792, 0, 7936, 16128, 0, 32768, 98304, 229376, 0, 1015808, 2064384, 4194048, 0, 0, 16777216, 50331648, 117440512, 260046848, 536870656, 0, 1073741824, 3221225472, 7516192768, 0, 17179869184, 51539607552, 120259084288, 273804165120, 549755813632, 1099511627774, 2199023255550, 4398046511103, 8796093022207]
theorem spec_l06At.tab15 : rtab .any (opsOf Try.f79 15) = spec_l06At.T15 := by kernel_rfl
theorem spec_l06At.bits15 : waitsOk spec_l06At.T15.2 spec_l06At.B15 = true := by kernel_rfl
abbrev p12_16000 : Array Bool := (fl_ 17 0).toArray
abbrev p12_16001 : Array Bool := (fl_ 17 1).toArray
abbrev p12_16002 : Array Bool := (fl_ 17 3).toArray
abbrev p12_16003 : Array Bool := (fl_ 17 7).toArray
abbrev p12_16004 : Array Bool := (fl_ 17 23).toArray
abbrev p12_16005 : Array Bool := (fl_ 17 31).toArray
abbrev p12_16006 : Array Bool := (fl_ 17 63).toArray
abbrev p12_16007 : Array Bool := (fl_ 17 127).toArray
abbrev p12_16008 : Array Bool := (fl_ 17 255).toArray
abbrev p12_16009 : Array Bool := (fl_ 17 511).toArray
abbrev p12_16010 : Array Bool := (fl_ 17 1023).toArray
abbrev p12_16011 : Array Bool := (fl_ 17 2047).toArray
abbrev p12_16012 : Array Bool := (fl_ 17 4095).toArray
abbrev p12_16013 : Array Bool := (fl_ 17 8191).toArray
abbrev p12_16014 : Array Bool := (fl_ 17 16383).toArray
abbrev p12_16015 : Array Bool := (fl_ 17 32767).toArray
abbrev p12_16016 : Array Bool := (fl_ 17 65535).toArray
abbrev p12_16017 : Array Bool := (fl_ 17 131071).toArray
abbrev p12_16018 : Array Bool := (fl_ 17 3071).toArray
abbrev p12_16019 : Array Bool := (fl_ 17 7167).toArray
abbrev p12_16020 : Array Bool := (fl_ 17 15359).toArray
abbrev p12_16021 : Array Bool := (fl_ 44 0).toArray
abbrev p12_16022 : Array Bool := (fl_ 44 1).toArray
abbrev p12_16023 : Array Bool := (fl_ 44 3).toArray
abbrev p12_16024 : Array Bool := (fl_ 44 7).toArray
abbrev p12_16025 : Array Bool := (fl_ 44 15).toArray
abbrev p12_16026 : Array Bool := (fl_ 44 47).toArray
abbrev p12_16027 : Array Bool := (fl_ 44 303).toArray
abbrev p12_16028 : Array Bool := (fl_ 44 815).toArray
abbrev p12_16029 : Array Bool := (fl_ 44 1839).toArray
abbrev p12_16030 : Array Bool := (fl_ 44 5935).toArray
abbrev p12_16031 : Array Bool := (fl_ 44 38703).toArray
abbrev p12_16032 : Array Bool := (fl_ 44 104239).toArray
abbrev p12_16033 : Array Bool := (fl_ 44 235311).toArray
abbrev p12_16034 : Array Bool := (fl_ 44 759599).toArray
abbrev p12_16035 : Array Bool := (fl_ 44 9148207).toArray
abbrev p12_16036 : Array Bool := (fl_ 44 25925423).toArray
abbrev p12_16037 : Array Bool := (fl_ 44 59479855).toArray
abbrev p12_16038 : Array Bool := (fl_ 44 126588719).toArray
abbrev p12_16039 : Array Bool := (fl_ 44 1200330543).toArray
abbrev p12_16040 : Array Bool := (fl_ 44 3347814191).toArray
abbrev p12_16041 : Array Bool := (fl_ 44 7642781487).toArray
abbrev p12_16042 : Array Bool := (fl_ 44 24822650671).toArray
abbrev p12_16043 : Array Bool := (fl_ 44 59182389039).toArray
abbrev p12_16044 : Array Bool := (fl_ 44 127901865775).toArray
abbrev p12_16045 : Array Bool := (fl_ 44 127901865791).toArray
abbrev p12_16046 : Array Bool := (fl_ 44 127901865855).toArray
abbrev p12_16047 : Array Bool := (fl_ 44 127901865983).toArray
abbrev p12_16048 : Array Bool := (fl_ 44 127901868031).toArray
abbrev p12_16049 : Array Bool := (fl_ 44 127901876223).toArray
abbrev p12_16050 : Array Bool := (fl_ 44 127901892607).toArray
abbrev p12_16051 : Array Bool := (fl_ 44 127902154751).toArray
abbrev p12_16052 : Array Bool := (fl_ 44 127903203327).toArray
abbrev p12_16053 : Array Bool := (fl_ 44 127905300479).toArray
abbrev p12_16054 : Array Bool := (fl_ 44 127909494783).toArray
abbrev p12_16055 : Array Bool := (fl_ 44 128043712511).toArray
abbrev p12_16056 : Array Bool := (fl_ 44 128312147967).toArray
abbrev p12_16057 : Array Bool := (fl_ 44 128849018879).toArray
abbrev p12_16058 : Array Bool := (fl_ 44 137438953471).toArray
abbrev p12_16059 : Array Bool := (fl_ 44 274877906943).toArray
abbrev p12_16060 : Array Bool := (fl_ 44 549755813887).toArray
abbrev p12_16061 : Array Bool := (fl_ 44 1099511627775).toArray
abbrev p12_16062 : Array Bool := (fl_ 44 2199023255551).toArray
abbrev p12_16063 : Array Bool := (fl_ 44 4398046511103).toArray
abbrev p12_16064 : Array Bool := (fl_ 44 8796093022207).toArray
abbrev p12_16065 : Array Bool := (fl_ 44 17592186044415).toArray
set_option maxHeartbeats 8000000 in
set_option maxRecDepth 100000 in
theorem spec_l06At.calls (k : Nat) (g0_ : Nat) (A0_0 : Option Addr) (c0_0 : Nat) (l0_0 : List Int) (A0_1 : Option Addr) (c0_1 : Nat) (l0_1 : List (S59)) (a1 : Int) (r : List Int) (w : World) (hr0_0 : Kd.C (Kd.int .i64) w A0_0 l0_0.length l0_0) (hc0_0 : l0_0.length ≤ c0_0) (hr0_1 : Kd.C k59 w A0_1 l0_1.length l0_1) (hc0_1 : l0_1.length ≤ c0_1) (hb0_ : w.heap[g0_]? = some (.cells #[.slice A0_0 l0_0.length c0_0, .slice A0_1 l0_1.length c0_1] 31 (0, 0))) (h : spec_l06At.f k l0_0 l0_1 a1 = some r) :
  Calls Try.prog 79 #[.pointer (some ⟨g0_, 0, none⟩), .int .i64 a1] w fun e w' => ∃ v0_ : Value, e = .returned (v0_) ∧ Kd.R (Kd.int .i64) 2 w' w.heap.size (fun _ => True) v0_ r ∧ Below w.heap.size w w' := by
 have HR0_0 := Aside0.mk hr0_0; have HC0_0 := Aside0.mk hc0_0; clear hr0_0 hc0_0; have HR0_1 := Aside0.mk hr0_1; have HC0_1 := Aside0.mk hc0_1; clear hr0_1 hc0_1; have BK0 := Aside0.mk hb0_; clear hb0_; have HB := Aside0.mk (Below.refl w.heap.size w); have H : (spec_l06At.l0 k a1 0 l0_0 l0_1) = some r := h; clear h; have HC3 := Aside0.mk H; clear H
 go_enter Try.func79, Try.ntmps79
 go_upto_block 0 with (fail)
 go_cut [5] (fun v5 wc => ∃ (kq : Nat) (x5_2 : Int), v5 = .int .i64 x5_2 ∧ Aside0 (spec_l06At.j1 kq a1 x5_2 l0_0 l0_1 = some r) ∧ Aside0 (kq ≤ k) ∧ Aside0 (wc.heap[g0_]? = some (.cells #[(.slice A0_0 l0_0.length c0_0), (.slice A0_1 l0_1.length c0_1)] 31 (0, 0))) ∧ Aside0 (Below w.heap.size w wc))
 case first =>
  have H := HC3.out; clear HC3; have H' := Aside0.mk H; clear H
  go_wp2
  go_loopg [5] k (fun kq v5 w' => ∃ (x5_1 : Int), v5 = .int .i64 x5_1 ∧ Aside0 (spec_l06At.l0 kq a1 x5_1 l0_0 l0_1 = some r) ∧ Aside0 (kq ≤ k) ∧ Aside0 (w'.heap[g0_]? = some (.cells #[(.slice A0_0 l0_0.length c0_0), (.slice A0_1 l0_1.length c0_1)] 31 (0, 0))) ∧ Aside0 (Below w.heap.size w w'))
  case atStart => exact ⟨(0), ks_, H', ⟨Nat.le_refl _⟩, ⟨kb0_ BK0.out⟩, ⟨ke_ HB.out⟩⟩
  case round =>
   clear H'; (try clear p2); obtain ⟨x5_1, rfl, HA, HK1, BK0, HB⟩ := hrel
   cases gk with
   | zero => exact absurd HA.out (by simp [spec_l06At.l0])
   | succ k1 =>
    have H := HA.out; clear HA; simp only [spec_l06At.l0] at H
    by_cases c4 : (wrap64 (x5_1 + 1)) < (l0_1.length : Int)
    ·rw [if_pos c4] at H; have c4b0 : decide ((wrap64 (x5_1 + 1)) < (l0_1.length : Int)) = true := decide_eq_true c4; clear c4
     (first | rw [c4b0] | (simp only [i64_w, i32_w]; rw [c4b0]) | skip)
     obtain ⟨ji5, hji5⟩ : ∃ j_ : Int, (wrap64 (x5_1 + 1)) = j_ := ⟨_, rfl⟩; replace H : (if 0 ≤ (ji5) then (if ((rd_T59 l0_1 (ji5)).f0) ≤ a1 then (spec_l06At.l0 k1 a1 ji5 l0_0 l0_1) else (spec_l06At.j1 k1 a1 x5_1 l0_0 l0_1)) else (none)) = some r := by first | (rw [hji5] at H; exact H) | (simp only [hji5] at H ⊢; exact H)
     (try rw [hji5] at c4b0)
     have hji5w : (IntKind.i64.wrap (x5_1 + 1)) = ji5 := (i64_w _).trans hji5
     by_cases c6 : 0 ≤ (ji5)
     ·rw [if_pos c6] at H; have c6b0 : decide (0 ≤ (ji5)) = true := decide_eq_true c6; clear c6
      by_cases c7 : ((rd_T59 l0_1 (ji5)).f0) ≤ a1
      ·rw [if_pos c7] at H; have c7b0 : decide (((rd_T59 l0_1 (ji5)).f0) ≤ a1) = true := decide_eq_true c7; clear c7; have H' := Aside0.mk H; clear H; have hcz8_0 : wr.cell? ⟨g0_, 0, none⟩ = some (.slice A0_0 l0_0.length c0_0) := (blk_cell BK0.out 0).trans rfl; have hcz8_1 : wr.cell? ⟨g0_, 1, none⟩ = some (.slice A0_1 l0_1.length c0_1) := (blk_cell BK0.out 1).trans rfl; have hfz8_0 := blk_frozen BK0.out 0; have hfz8_1 := blk_frozen BK0.out 1; have p131 : 0 ≤ ((ji5) : Int) := of_decide_eq_true (by assumption); have q131 : (ji5) < (l0_1.length : Int) := of_decide_eq_true (by assumption); obtain ⟨ad131, A131_1, c131_1, e131, hx131_0, hx131_1, hl131_1, hi131_1⟩ := at_T59 HR0_1.out (ji5) p131 q131
       cases e131
       replace hx131_0 := (HB.out.cell (World.block_lt_of_cell? w _ hx131_0)).trans hx131_0; replace hx131_1 := (HB.out.cell (World.block_lt_of_cell? w _ hx131_1)).trans hx131_1; have HR131_1 := Aside0.mk hi131_1; have HC131_1 := Aside0.mk hl131_1; clear hi131_1 hl131_1; replace p131 := eq_true p131; replace q131 := eq_true q131
       go_wp2
       go_roundg k1
       case measure => have := HK1.out; omega
       case rel => exact ⟨(ji5), (by first | rfl | (simp; done) | (simp only [← hji5] <;> (first | rfl | simp)) | (simp [*]; done)), H', ⟨by have := HK1.out; omega⟩, ⟨kb0_ BK0.out⟩, ⟨ke_ HB.out⟩⟩
      ·rw [if_neg c7] at H; have c7b0 : decide (((rd_T59 l0_1 (ji5)).f0) ≤ a1) = false := decide_eq_false c7; clear c7; have H' := Aside0.mk H; clear H; have hcz9_0 : wr.cell? ⟨g0_, 0, none⟩ = some (.slice A0_0 l0_0.length c0_0) := (blk_cell BK0.out 0).trans rfl; have hcz9_1 : wr.cell? ⟨g0_, 1, none⟩ = some (.slice A0_1 l0_1.length c0_1) := (blk_cell BK0.out 1).trans rfl; have hfz9_0 := blk_frozen BK0.out 0; have hfz9_1 := blk_frozen BK0.out 1; have p131 : 0 ≤ ((ji5) : Int) := of_decide_eq_true (by assumption); have q131 : (ji5) < (l0_1.length : Int) := of_decide_eq_true (by assumption); obtain ⟨ad131, A131_1, c131_1, e131, hx131_0, hx131_1, hl131_1, hi131_1⟩ := at_T59 HR0_1.out (ji5) p131 q131
       cases e131
       replace hx131_0 := (HB.out.cell (World.block_lt_of_cell? w _ hx131_0)).trans hx131_0; replace hx131_1 := (HB.out.cell (World.block_lt_of_cell? w _ hx131_1)).trans hx131_1; have HR131_1 := Aside0.mk hi131_1; have HC131_1 := Aside0.mk hl131_1; clear hi131_1 hl131_1; replace p131 := eq_true p131; replace q131 := eq_true q131
       go_wp2
       go_meet
       case rel => exact ⟨_, (x5_1), ks_, H', ⟨by have := HK1.out; first | omega | exact Nat.le_refl _⟩, ⟨kb0_ BK0.out⟩, ⟨ke_ HB.out⟩⟩
     ·rw [if_neg c6] at H; exact absurd H (by simp)
    ·rw [if_neg c4] at H; have c4b0 : decide ((wrap64 (x5_1 + 1)) < (l0_1.length : Int)) = false := decide_eq_false c4; clear c4
     (first | rw [c4b0] | (simp only [i64_w, i32_w]; rw [c4b0]) | skip)
     have H' := Aside0.mk H; clear H; have hcz10_0 : wr.cell? ⟨g0_, 0, none⟩ = some (.slice A0_0 l0_0.length c0_0) := (blk_cell BK0.out 0).trans rfl; have hcz10_1 : wr.cell? ⟨g0_, 1, none⟩ = some (.slice A0_1 l0_1.length c0_1) := (blk_cell BK0.out 1).trans rfl; have hfz10_0 := blk_frozen BK0.out 0; have hfz10_1 := blk_frozen BK0.out 1
     go_wp2
     go_meet
     case rel => exact ⟨_, (x5_1), ks_, H', ⟨by have := HK1.out; first | omega | exact Nat.le_refl _⟩, ⟨kb0_ BK0.out⟩, ⟨ke_ HB.out⟩⟩
 case rest =>
  clear HC3; (try clear c1); (try clear p1); (try clear q1); (try clear hx1); (try clear p2); (try clear c4); (try clear c4b0); (try clear c6); (try clear c6b0); (try clear p6); (try clear c7); (try clear c7b0); (try clear hcz10_0); (try clear hcz10_1); (try clear hcz8_0); (try clear hcz8_1); (try clear hcz9_0); (try clear hcz9_1); (try clear hfz10_0); (try clear hfz10_1); (try clear hfz8_0); (try clear hfz8_1); (try clear hfz9_0); (try clear hfz9_1); (try clear hx131_0); (try clear hx131_1); (try clear p131); (try clear p2); (try clear q131); obtain ⟨kq, x5_2, rfl, HA, HJ2, BK0, HB⟩ := hcut
  cases kq with
  | zero => exact absurd HA.out (by simp [spec_l06At.j1])
  | succ kj2 =>
   have H := HA.out; clear HA; simp only [spec_l06At.j1] at H; have HC11 := Aside0.mk H; clear H; have hcz12_0 : wc.cell? ⟨g0_, 0, none⟩ = some (.slice A0_0 l0_0.length c0_0) := (blk_cell BK0.out 0).trans rfl; have hcz12_1 : wc.cell? ⟨g0_, 1, none⟩ = some (.slice A0_1 l0_1.length c0_1) := (blk_cell BK0.out 1).trans rfl; have hfz12_0 := blk_frozen BK0.out 0; have hfz12_1 := blk_frozen BK0.out 1
   go_upto_block 2 with (fail)
   go_cut [6] (fun v6 wc => ∃ (kq : Nat) (x6_10 : Int), v6 = .int .i64 x6_10 ∧ Aside0 (spec_l06At.j3 kq a1 x5_2 x6_10 l0_0 l0_1 = some r) ∧ Aside0 (kq ≤ kj2) ∧ Aside0 (wc.heap[g0_]? = some (.cells #[(.slice A0_0 l0_0.length c0_0), (.slice A0_1 l0_1.length c0_1)] 31 (0, 0))) ∧ Aside0 (Below w.heap.size w wc))
   case first =>
    have H := HC11.out; clear HC11; have H' := Aside0.mk H; clear H
    go_wp2
    go_loopg [6] kj2 (fun kq v6 w' => ∃ (x6_2 : Int), v6 = .int .i64 x6_2 ∧ Aside0 (spec_l06At.l1 kq a1 x5_2 x6_2 l0_0 l0_1 = some r) ∧ Aside0 (kq ≤ kj2) ∧ Aside0 (w'.heap[g0_]? = some (.cells #[(.slice A0_0 l0_0.length c0_0), (.slice A0_1 l0_1.length c0_1)] 31 (0, 0))) ∧ Aside0 (Below w.heap.size w w'))
    case atStart => exact ⟨(wrap64 ((l0_1.length : Int) - 1)), ks_, H', ⟨Nat.le_refl _⟩, ⟨kb0_ BK0.out⟩, ⟨ke_ HB.out⟩⟩
    case round =>
     clear H'; (try clear c1); (try clear p1); (try clear q1); (try clear hx1); (try clear p2); (try clear c4); (try clear c4b0); (try clear c6); (try clear c6b0); (try clear p6); (try clear c7); (try clear c7b0); (try clear hcz10_0); (try clear hcz10_1); (try clear hcz12_0); (try clear hcz12_1); (try clear hcz8_0); (try clear hcz8_1); (try clear hcz9_0); (try clear hcz9_1); (try clear hfz10_0); (try clear hfz10_1); (try clear hfz12_0); (try clear hfz12_1); (try clear hfz8_0); (try clear hfz8_1); (try clear hfz9_0); (try clear hfz9_1); (try clear hx131_0); (try clear hx131_1); (try clear p1); (try clear p131); (try clear p2); (try clear p6); (try clear q1); (try clear q131); obtain ⟨x6_2, rfl, HA, HK2, BK0, HB⟩ := hrel
     cases gk with
     | zero => exact absurd HA.out (by simp [spec_l06At.l1])
     | succ k2 =>
      have H := HA.out; clear HA; simp only [spec_l06At.l1] at H
      by_cases c13 : x6_2 > 0
      ·rw [if_pos c13] at H; have c13b0 : decide (0 < x6_2) = true := decide_eq_true c13; clear c13
       (first | rw [c13b0] | (simp only [i64_w, i32_w]; rw [c13b0]) | skip)
       obtain ⟨ji14, hji14⟩ : ∃ j_ : Int, (wrap64 (x6_2 - 1)) = j_ := ⟨_, rfl⟩; (replace H : (if 0 ≤ (ji14) then (if (ji14) < (l0_1.length : Int) then (if ((rd_T59 l0_1 (ji14)).f0) ≥ a1 then (spec_l06At.l1 k2 a1 x5_2 ji14 l0_0 l0_1) else (spec_l06At.j3 k2 a1 x5_2 x6_2 l0_0 l0_1)) else (none)) else (none)) = some r := by first | (rw [hji14] at H; exact H) | (simp only [hji14] at H ⊢; exact H)); have hji14w : (IntKind.i64.wrap (x6_2 - 1)) = ji14 := (i64_w _).trans hji14
       by_cases c15 : 0 ≤ (ji14)
       ·rw [if_pos c15] at H; have c15b0 : decide (0 ≤ (ji14)) = true := decide_eq_true c15; clear c15
        by_cases c16 : (ji14) < (l0_1.length : Int)
        ·rw [if_pos c16] at H; have c16b0 : decide ((ji14) < (l0_1.length : Int)) = true := decide_eq_true c16; clear c16
         by_cases c17 : ((rd_T59 l0_1 (ji14)).f0) ≥ a1
         ·rw [if_pos c17] at H; have c17b0 : decide (a1 ≤ ((rd_T59 l0_1 (ji14)).f0)) = true := decide_eq_true c17; clear c17; have H' := Aside0.mk H; clear H; have hcz18_0 : wr.cell? ⟨g0_, 0, none⟩ = some (.slice A0_0 l0_0.length c0_0) := (blk_cell BK0.out 0).trans rfl; have hcz18_1 : wr.cell? ⟨g0_, 1, none⟩ = some (.slice A0_1 l0_1.length c0_1) := (blk_cell BK0.out 1).trans rfl; have hfz18_0 := blk_frozen BK0.out 0; have hfz18_1 := blk_frozen BK0.out 1; have p132 : 0 ≤ ((ji14) : Int) := of_decide_eq_true (by assumption); have q132 : (ji14) < (l0_1.length : Int) := of_decide_eq_true (by assumption); obtain ⟨ad132, A132_1, c132_1, e132, hx132_0, hx132_1, hl132_1, hi132_1⟩ := at_T59 HR0_1.out (ji14) p132 q132
          cases e132
          replace hx132_0 := (HB.out.cell (World.block_lt_of_cell? w _ hx132_0)).trans hx132_0; replace hx132_1 := (HB.out.cell (World.block_lt_of_cell? w _ hx132_1)).trans hx132_1; have HR132_1 := Aside0.mk hi132_1; have HC132_1 := Aside0.mk hl132_1; clear hi132_1 hl132_1; replace p132 := eq_true p132; replace q132 := eq_true q132
          go_wp2
          go_roundg k2
          case measure => have := HJ2.out; have := HK2.out; omega
          case rel => exact ⟨(ji14), (by first | rfl | (simp; done) | (simp only [← hji14] <;> (first | rfl | simp)) | (simp [*]; done)), H', ⟨by have := HJ2.out; have := HK2.out; omega⟩, ⟨kb0_ BK0.out⟩, ⟨ke_ HB.out⟩⟩
         ·rw [if_neg c17] at H; have c17b0 : decide (a1 ≤ ((rd_T59 l0_1 (ji14)).f0)) = false := decide_eq_false c17; clear c17; have H' := Aside0.mk H; clear H; have hcz19_0 : wr.cell? ⟨g0_, 0, none⟩ = some (.slice A0_0 l0_0.length c0_0) := (blk_cell BK0.out 0).trans rfl; have hcz19_1 : wr.cell? ⟨g0_, 1, none⟩ = some (.slice A0_1 l0_1.length c0_1) := (blk_cell BK0.out 1).trans rfl; have hfz19_0 := blk_frozen BK0.out 0; have hfz19_1 := blk_frozen BK0.out 1; have p132 : 0 ≤ ((ji14) : Int) := of_decide_eq_true (by assumption); have q132 : (ji14) < (l0_1.length : Int) := of_decide_eq_true (by assumption); obtain ⟨ad132, A132_1, c132_1, e132, hx132_0, hx132_1, hl132_1, hi132_1⟩ := at_T59 HR0_1.out (ji14) p132 q132
          cases e132
          replace hx132_0 := (HB.out.cell (World.block_lt_of_cell? w _ hx132_0)).trans hx132_0; replace hx132_1 := (HB.out.cell (World.block_lt_of_cell? w _ hx132_1)).trans hx132_1; have HR132_1 := Aside0.mk hi132_1; have HC132_1 := Aside0.mk hl132_1; clear hi132_1 hl132_1; replace p132 := eq_true p132; replace q132 := eq_true q132
          go_wp2
          go_meet
          case rel => exact ⟨_, (x6_2), ks_, H', ⟨by have := HJ2.out; have := HK2.out; first | omega | exact Nat.le_refl _⟩, ⟨kb0_ BK0.out⟩, ⟨ke_ HB.out⟩⟩
        ·rw [if_neg c16] at H; exact absurd H (by simp)
       ·rw [if_neg c15] at H; exact absurd H (by simp)
      ·rw [if_neg c13] at H; have c13b0 : decide (0 < x6_2) = false := decide_eq_false c13; clear c13
       (first | rw [c13b0] | (simp only [i64_w, i32_w]; rw [c13b0]) | skip)
       have H' := Aside0.mk H; clear H
       go_wp2
       go_meet
       case rel => exact ⟨_, (x6_2), ks_, H', ⟨by have := HJ2.out; have := HK2.out; first | omega | exact Nat.le_refl _⟩, ⟨kb0_ BK0.out⟩, ⟨ke_ HB.out⟩⟩
   case rest =>
    clear HC11; (try clear c1); (try clear p1); (try clear q1); (try clear hx1); (try clear p2); (try clear c4); (try clear c4b0); (try clear c6); (try clear c6b0); (try clear p6); (try clear c7); (try clear c7b0); (try clear c13); (try clear c13b0); (try clear p13); (try clear q13); (try clear hx13); (try clear c15); (try clear c15b0); (try clear c16); (try clear c16b0); (try clear c17); (try clear c17b0); (try clear hcz10_0); (try clear hcz10_1); (try clear hcz12_0); (try clear hcz12_1); (try clear hcz18_0); (try clear hcz18_1); (try clear hcz19_0); (try clear hcz19_1); (try clear hcz8_0); (try clear hcz8_1); (try clear hcz9_0); (try clear hcz9_1); (try clear hfz10_0); (try clear hfz10_1); (try clear hfz12_0); (try clear hfz12_1); (try clear hfz18_0); (try clear hfz18_1); (try clear hfz19_0); (try clear hfz19_1); (try clear hfz8_0); (try clear hfz8_1); (try clear hfz9_0); (try clear hfz9_1); (try clear hx131_0); (try clear hx131_1); (try clear hx132_0); (try clear hx132_1); (try clear p1); (try clear p131); (try clear p132); (try clear p2); (try clear p6); (try clear q1); (try clear q131); (try clear q132); obtain ⟨kq, x6_10, rfl, HA, HJ10, BK0, HB⟩ := hcut
    cases kq with
    | zero => exact absurd HA.out (by simp [spec_l06At.j3])
    | succ kj10 =>
     have H := HA.out; clear HA; simp only [spec_l06At.j3] at H
     by_cases c20 : 0 ≤ x5_2
     ·rw [if_pos c20] at H; have c20b0 : decide (0 ≤ x5_2) = true := decide_eq_true c20; clear c20
      by_cases c21 : x5_2 < (l0_1.length : Int)
      ·rw [if_pos c21] at H; have c21b0 : decide (x5_2 < (l0_1.length : Int)) = true := decide_eq_true c21; clear c21
       by_cases c22 : 0 ≤ x6_10
       ·rw [if_pos c22] at H; have c22b0 : decide (0 ≤ x6_10) = true := decide_eq_true c22; clear c22
        by_cases c23 : x6_10 < (l0_1.length : Int)
        ·rw [if_pos c23] at H; have c23b0 : decide (x6_10 < (l0_1.length : Int)) = true := decide_eq_true c23; clear c23; have HC24 := Aside0.mk H; clear H; have hcz25_0 : wc.cell? ⟨g0_, 0, none⟩ = some (.slice A0_0 l0_0.length c0_0) := (blk_cell BK0.out 0).trans rfl; have hcz25_1 : wc.cell? ⟨g0_, 1, none⟩ = some (.slice A0_1 l0_1.length c0_1) := (blk_cell BK0.out 1).trans rfl; have hfz25_0 := blk_frozen BK0.out 0; have hfz25_1 := blk_frozen BK0.out 1; have p133 : 0 ≤ (x5_2 : Int) := of_decide_eq_true (by assumption); have q133 : x5_2 < (l0_1.length : Int) := of_decide_eq_true (by assumption); obtain ⟨ad133, A133_1, c133_1, e133, hx133_0, hx133_1, hl133_1, hi133_1⟩ := at_T59 HR0_1.out x5_2 p133 q133
         cases e133
         replace hx133_0 := (HB.out.cell (World.block_lt_of_cell? w _ hx133_0)).trans hx133_0; replace hx133_1 := (HB.out.cell (World.block_lt_of_cell? w _ hx133_1)).trans hx133_1; have HR133_1 := Aside0.mk hi133_1; have HC133_1 := Aside0.mk hl133_1; clear hi133_1 hl133_1; replace p133 := eq_true p133; replace q133 := eq_true q133; have p134 : 0 ≤ (x6_10 : Int) := of_decide_eq_true (by assumption); have q134 : x6_10 < (l0_1.length : Int) := of_decide_eq_true (by assumption); obtain ⟨ad134, A134_1, c134_1, e134, hx134_0, hx134_1, hl134_1, hi134_1⟩ := at_T59 HR0_1.out x6_10 p134 q134; obtain rfl : ad133 = ad134 := (by injection e134); replace hx134_0 := (HB.out.cell (World.block_lt_of_cell? w _ hx134_0)).trans hx134_0; replace hx134_1 := (HB.out.cell (World.block_lt_of_cell? w _ hx134_1)).trans hx134_1; have HR134_1 := Aside0.mk hi134_1; have HC134_1 := Aside0.mk hl134_1; clear hi134_1 hl134_1; replace p134 := eq_true p134; replace q134 := eq_true q134
         go_upto_region 9 with (fail)
         go_cut [85] (fun v85 wc => ∃ (kq : Nat) (x85_23 : Bool), v85 = .bool x85_23 ∧ Aside0 (spec_l06At.j4 kq a1 x5_2 x6_10 x85_23 l0_0 l0_1 = some r) ∧ Aside0 (kq ≤ kj10) ∧ Aside0 (wc.heap[g0_]? = some (.cells #[(.slice A0_0 l0_0.length c0_0), (.slice (some ad133) l0_1.length c0_1)] 31 (0, 0))) ∧ Aside0 (Below w.heap.size w wc))
         case first =>
          have H := HC24.out; clear HC24
          by_cases c26 : ((rd_T59 l0_1 x5_2).f0) > a1
          ·rw [if_pos c26] at H; have c26b0 : decide (a1 < ((rd_T59 l0_1 x5_2).f0)) = true := decide_eq_true c26; clear c26
           (first | rw [c26b0] | (simp only [i64_w, i32_w]; rw [c26b0]) | skip)
           have H' := Aside0.mk H; clear H; (try go_wp2); have n0_ := Aside0.mk (blk_drew BK0.out); have n1_ := Aside0.mk (below_drew1 HB.out); clear BK0; clear HB; have BK0 := n0_; have HB := n1_; clear n0_ n1_; have p135 : 0 ≤ (x5_2 : Int) := of_decide_eq_true (by assumption); have q135 : x5_2 < (l0_1.length : Int) := of_decide_eq_true (by assumption); obtain ⟨ad135, A135_1, c135_1, e135, hx135_0, hx135_1, hl135_1, hi135_1⟩ := at_T59 HR0_1.out x5_2 p135 q135; have hw135_1 := hx135_1; have hw135_0 := hx135_0; obtain rfl : ad133 = ad135 := (by injection e135); replace hx135_0 := (HB.out.cell (World.block_lt_of_cell? w _ hx135_0)).trans hx135_0; replace hx135_1 := (HB.out.cell (World.block_lt_of_cell? w _ hx135_1)).trans hx135_1; have HR135_1 := Aside0.mk hi135_1; have HC135_1 := Aside0.mk hl135_1; clear hi135_1 hl135_1; replace p135 := eq_true p135; replace q135 := eq_true q135; refine start_ (n := 17) (S := fun w' => w'.cell? (ad133.add ((x5_2).toNat * 2)) = some (.int .i64 ((rd_T59 l0_1 x5_2).f0)) ∧ w'.cell? ⟨(ad133.add ((x5_2).toNat * 2)).block, (ad133.add ((x5_2).toNat * 2)).off + 1, none⟩ = some (.slice A135_1 ((rd_T59 l0_1 x5_2).f1).length c135_1)) (ds := []) p12_16000 kr_ rfl rfl ⟨((HB.out.cell (World.block_lt_of_cell? w _ hw135_0)).trans hw135_0), ((HB.out.cell (World.block_lt_of_cell? w _ hw135_1)).trans hw135_1)⟩ (fun hHeld => ?_); refine with_tabW spec_l06At.tab9 spec_l06At.bits9 (fun HT_ HW_ => ?_); generalize wc.drew = w27 at BK0 HB HR135_1 hx135_0 hx135_1 hHeld ⊢; refine pu1_ 0 (some 69) p12_16001 rfl rfl HT_.out ?_; refine pu1_ 1 (some 70) p12_16002 rfl rfl HT_.out ?_; refine pu1_ 2 (some 71) p12_16003 rfl rfl HT_.out ?_; refine pu1_ 4 (some 73) p12_16004 rfl rfl HT_.out ?_; refine tk2_ 3 (some 72) p12_16005 rfl rfl HT_.out HW_.out hHeld ?_; refine pu1_ 5 (some 74) p12_16006 rfl rfl HT_.out ?_; refine pu1_ 6 (some 75) p12_16007 rfl rfl HT_.out ?_; refine pu0_ 7 (some 76) p12_16008 rfl rfl HT_.out ?_; refine pu0_ 8 (some 77) p12_16009 rfl rfl HT_.out ?_; refine pu0_ 9 (some 78) p12_16010 rfl rfl HT_.out ?_; refine pu0_ 10 (some 79) p12_16011 rfl rfl HT_.out ?_; refine pu0_ 11 (some 80) p12_16012 rfl rfl HT_.out ?_; refine pu0_ 12 (some 81) p12_16013 rfl rfl HT_.out ?_; refine pu0_ 13 (some 82) p12_16014 rfl rfl HT_.out ?_; refine pu0_ 14 (some 83) p12_16015 rfl rfl HT_.out ?_; refine pu0_ 15 (some 84) p12_16016 rfl rfl HT_.out ?_; refine pu1_ 16 (some 85) p12_16017 rfl rfl HT_.out ?_; refine done_ (done_of HT_.out kr_) ?_; try go_wp2
           go_meet
           case rel => exact ⟨_, (true), ks_, H', ⟨by have := HJ2.out; have := HJ10.out; first | omega | exact Nat.le_refl _⟩, ⟨kb0_ BK0.out⟩, ⟨ke_ HB.out⟩⟩
          ·rw [if_neg c26] at H; have c26b0 : decide (a1 < ((rd_T59 l0_1 x5_2).f0)) = false := decide_eq_false c26; clear c26
           (first | rw [c26b0] | (simp only [i64_w, i32_w]; rw [c26b0]) | skip)
           have H' := Aside0.mk H; clear H; (try go_wp2); have n0_ := Aside0.mk (blk_drew BK0.out); have n1_ := Aside0.mk (below_drew1 HB.out); clear BK0; clear HB; have BK0 := n0_; have HB := n1_; clear n0_ n1_; have p135 : 0 ≤ (x5_2 : Int) := of_decide_eq_true (by assumption); have q135 : x5_2 < (l0_1.length : Int) := of_decide_eq_true (by assumption); obtain ⟨ad135, A135_1, c135_1, e135, hx135_0, hx135_1, hl135_1, hi135_1⟩ := at_T59 HR0_1.out x5_2 p135 q135; have hw135_1 := hx135_1; have hw135_0 := hx135_0; obtain rfl : ad133 = ad135 := (by injection e135); replace hx135_0 := (HB.out.cell (World.block_lt_of_cell? w _ hx135_0)).trans hx135_0; replace hx135_1 := (HB.out.cell (World.block_lt_of_cell? w _ hx135_1)).trans hx135_1; have HR135_1 := Aside0.mk hi135_1; have HC135_1 := Aside0.mk hl135_1; clear hi135_1 hl135_1; replace p135 := eq_true p135; replace q135 := eq_true q135; have p136 : 0 ≤ (x6_10 : Int) := of_decide_eq_true (by assumption); have q136 : x6_10 < (l0_1.length : Int) := of_decide_eq_true (by assumption); obtain ⟨ad136, A136_1, c136_1, e136, hx136_0, hx136_1, hl136_1, hi136_1⟩ := at_T59 HR0_1.out x6_10 p136 q136; have hw136_1 := hx136_1; have hw136_0 := hx136_0; obtain rfl : ad133 = ad136 := (by injection e136); replace hx136_0 := (HB.out.cell (World.block_lt_of_cell? w _ hx136_0)).trans hx136_0; replace hx136_1 := (HB.out.cell (World.block_lt_of_cell? w _ hx136_1)).trans hx136_1; have HR136_1 := Aside0.mk hi136_1; have HC136_1 := Aside0.mk hl136_1; clear hi136_1 hl136_1; replace p136 := eq_true p136; replace q136 := eq_true q136; refine start_ (n := 17) (S := fun w' => w'.cell? (ad133.add ((x5_2).toNat * 2)) = some (.int .i64 ((rd_T59 l0_1 x5_2).f0)) ∧ w'.cell? ⟨(ad133.add ((x5_2).toNat * 2)).block, (ad133.add ((x5_2).toNat * 2)).off + 1, none⟩ = some (.slice A135_1 ((rd_T59 l0_1 x5_2).f1).length c135_1) ∧ w'.cell? (ad133.add ((x6_10).toNat * 2)) = some (.int .i64 ((rd_T59 l0_1 x6_10).f0)) ∧ w'.cell? ⟨(ad133.add ((x6_10).toNat * 2)).block, (ad133.add ((x6_10).toNat * 2)).off + 1, none⟩ = some (.slice A136_1 ((rd_T59 l0_1 x6_10).f1).length c136_1)) (ds := []) p12_16000 kr_ rfl rfl ⟨((HB.out.cell (World.block_lt_of_cell? w _ hw135_0)).trans hw135_0), ((HB.out.cell (World.block_lt_of_cell? w _ hw135_1)).trans hw135_1), ((HB.out.cell (World.block_lt_of_cell? w _ hw136_0)).trans hw136_0), ((HB.out.cell (World.block_lt_of_cell? w _ hw136_1)).trans hw136_1)⟩ (fun hHeld => ?_); refine with_tabW spec_l06At.tab9 spec_l06At.bits9 (fun HT_ HW_ => ?_); generalize wc.drew = w28 at BK0 HB HR135_1 HR136_1 hx135_0 hx135_1 hx136_0 hx136_1 hHeld ⊢; refine pu1_ 0 (some 69) p12_16001 rfl rfl HT_.out ?_; refine pu1_ 1 (some 70) p12_16002 rfl rfl HT_.out ?_; refine pu1_ 2 (some 71) p12_16003 rfl rfl HT_.out ?_; refine pu1_ 4 (some 73) p12_16004 rfl rfl HT_.out ?_; refine tk4_ 3 (some 72) p12_16005 rfl rfl HT_.out HW_.out hHeld ?_; refine pu1_ 5 (some 74) p12_16006 rfl rfl HT_.out ?_; refine pu1_ 6 (some 75) p12_16007 rfl rfl HT_.out ?_; refine pu1_ 7 (some 76) p12_16008 rfl rfl HT_.out ?_; refine pu1_ 8 (some 77) p12_16009 rfl rfl HT_.out ?_; refine pu1_ 9 (some 78) p12_16010 rfl rfl HT_.out ?_; refine pu1_ 11 (some 80) p12_16018 rfl rfl HT_.out ?_; refine pu1_ 12 (some 81) p12_16019 rfl rfl HT_.out ?_; refine pu1_ 13 (some 82) p12_16020 rfl rfl HT_.out ?_; refine tk4_ 10 (some 79) p12_16014 rfl rfl HT_.out HW_.out hHeld ?_; refine tk4_ 14 (some 83) p12_16015 rfl rfl HT_.out HW_.out hHeld ?_; refine pu1_ 15 (some 84) p12_16016 rfl rfl HT_.out ?_; refine pu1_ 16 (some 85) p12_16017 rfl rfl HT_.out ?_; refine done_ (done_of HT_.out kr_) ?_; try go_wp2
           go_meet
           case rel => exact ⟨_, (decide (((rd_T59 l0_1 x5_2).f0) ≥ ((rd_T59 l0_1 x6_10).f0))), ks_, H', ⟨by have := HJ2.out; have := HJ10.out; first | omega | exact Nat.le_refl _⟩, ⟨kb0_ BK0.out⟩, ⟨ke_ HB.out⟩⟩
         case rest =>
          clear HC24; (try clear c1); (try clear p1); (try clear q1); (try clear hx1); (try clear c2); (try clear p2); (try clear c4); (try clear c4b0); (try clear c6); (try clear c6b0); (try clear p6); (try clear c7); (try clear c7b0); (try clear c13); (try clear c13b0); (try clear p13); (try clear q13); (try clear hx13); (try clear c15); (try clear c15b0); (try clear c16); (try clear c16b0); (try clear c17); (try clear c17b0); (try clear c20); (try clear c20b0); (try clear c21); (try clear c21b0); (try clear c22); (try clear c22b0); (try clear c23); (try clear c23b0); (try clear c26); (try clear c26b0); (try clear hcz10_0); (try clear hcz10_1); (try clear hcz12_0); (try clear hcz12_1); (try clear hcz18_0); (try clear hcz18_1); (try clear hcz19_0); (try clear hcz19_1); (try clear hcz25_0); (try clear hcz25_1); (try clear hcz8_0); (try clear hcz8_1); (try clear hcz9_0); (try clear hcz9_1); (try clear hfz10_0); (try clear hfz10_1); (try clear hfz12_0); (try clear hfz12_1); (try clear hfz18_0); (try clear hfz18_1); (try clear hfz19_0); (try clear hfz19_1); (try clear hfz25_0); (try clear hfz25_1); (try clear hfz8_0); (try clear hfz8_1); (try clear hfz9_0); (try clear hfz9_1); (try clear hx131_0); (try clear hx131_1); (try clear hx132_0); (try clear hx132_1); (try clear hx133_0); (try clear hx133_1); (try clear hx134_0); (try clear hx134_1); (try clear hx135_0); (try clear hx135_1); (try clear hx136_0); (try clear hx136_1); (try clear p1); (try clear p13); (try clear p131); (try clear p132); (try clear p133); (try clear p134); (try clear p135); (try clear p136); (try clear p2); (try clear p6); (try clear q1); (try clear q13); (try clear q131); (try clear q132); (try clear q133); (try clear q134); (try clear q135); (try clear q136); obtain ⟨kq, x85_23, rfl, HA, HJ23, BK0, HB⟩ := hcut
          cases kq with
          | zero => exact absurd HA.out (by simp [spec_l06At.j4])
          | succ kj23 =>
           have H := HA.out; clear HA; simp only [spec_l06At.j4] at H
           by_cases c29 : x85_23 = true
           ·subst c29; (have H1 : (if 0 ≤ x5_2 then (if x5_2 < (l0_1.length : Int) then ((spec_l00Own.f ((rd_T59 l0_1 x5_2).f1)).bind fun t138 => (some t138)) else (none)) else (none)) = some r := by rw [if_pos rfl] at H; exact H); clear H; have H := H1; clear H1
            by_cases c30 : 0 ≤ x5_2
            ·rw [if_pos c30] at H; have c30b0 : decide (0 ≤ x5_2) = true := decide_eq_true c30; clear c30
             by_cases c31 : x5_2 < (l0_1.length : Int)
             ·rw [if_pos c31] at H; have c31b0 : decide (x5_2 < (l0_1.length : Int)) = true := decide_eq_true c31; clear c31; replace H := Option.bind_eq_some_iff.mp H; obtain ⟨t138, A320, H⟩ := H; replace H : (some t138) = some r := H; have A32 := Aside0.mk A320; clear A320; obtain rfl := Option.some.inj H; have p137 : 0 ≤ (x5_2 : Int) := of_decide_eq_true (by assumption); have q137 : x5_2 < (l0_1.length : Int) := of_decide_eq_true (by assumption); obtain ⟨ad137, A137_1, c137_1, e137, hx137_0, hx137_1, hl137_1, hi137_1⟩ := at_T59 HR0_1.out x5_2 p137 q137; obtain rfl : ad133 = ad137 := (by injection e137); replace hx137_0 := (HB.out.cell (World.block_lt_of_cell? w _ hx137_0)).trans hx137_0; replace hx137_1 := (HB.out.cell (World.block_lt_of_cell? w _ hx137_1)).trans hx137_1; have HR137_1 := Aside0.mk hi137_1; have HC137_1 := Aside0.mk hl137_1; clear hi137_1 hl137_1; replace p137 := eq_true p137; replace q137 := eq_true q137
              go_wp2_with (first | ((with_reducible refine gate_callee (f := 67) rfl ?_); refine goesL_ (some 90) rfl rfl Try.func67 kr_ rfl #[.slice A137_1 ((rd_T59 l0_1 x5_2).f1).length c137_1] rfl km_ ?_; (with_reducible refine (spec_l00Own.calls _ _ ((rd_T59 l0_1 x5_2).f1) t138 _ ?side1 ?side2 A32.out).mono ?_); (case side1 => repeat (first | exact (Kd.C_below HR137_1.out HB.out) | (with_reducible first | refine Kd.C_alloc ?_ _ | refine Kd.C_drewN ?_ _ | refine Kd.C_drew ?_))); (case side2 => exact HC137_1.out); rintro e w33 ⟨v139, rfl, ho0, hb⟩; refine ⟨_, rfl, ?_⟩; have n0_ := Aside0.mk (Kd.R_lower ho0 (below_size (ke_ HB.out))); have n1_ := Aside0.mk (blk_below (kb0_ BK0.out) hb); have n2_ := Aside0.mk (below_step (ke_ HB.out) hb); clear BK0; clear HB; have HO140 := n0_; have BK0 := n1_; have HB := n2_; clear n0_ n1_ n2_; (try clear hb hb2 hk hi ho0)))
              go_ret
              exact ⟨_, by first | rfl | (simp [errW_none, errW_some] <;> rfl) | (simp [*, errW_none, errW_some] <;> rfl) | (simp [tz_, *]; done), by (with_reducible repeat (first | apply Kd.R_alloc | apply Kd.R_drewN | apply Kd.R_drew)); exact HO140.out, ke_ HB.out⟩
             ·rw [if_neg c31] at H; exact absurd H (by simp)
            ·rw [if_neg c30] at H; exact absurd H (by simp)
           ·replace c29 := Bool.eq_false_iff.mpr c29; subst c29; (have H1 : (spec_l06At.l2 kj23 a1 x5_2 x6_10 (([] : List Int)) 0 l0_0 l0_1) = some r := by rw [if_neg (show ¬ (false = true) by decide)] at H; exact H); clear H; have H := H1; clear H1; obtain ⟨y141, hy141⟩ : ∃ y_ : List Int, y_ = (([] : List Int)) := ⟨_, rfl⟩; (replace H : (spec_l06At.l2 kj23 a1 x5_2 x6_10 y141 0 l0_0 l0_1) = some r := by first | (rw [hy141]; with_reducible exact H) | (have H2_ := (Option.bind_some _ _).symm.trans H; rw [hy141]; with_reducible exact H2_) | (have H2_ := (Option.bind_some _ _).symm.trans H; with_reducible exact H2_) | with_reducible exact H | (rw [hy141]; exact H) | exact H); have Ny141 := Aside0.mk hy141; clear hy141; have H' := Aside0.mk H; clear H
            go_wp2_with (first | ((with_reducible refine gate_dst (N := 91) rfl ?_); refine Kd.R_lit (Kd.int .i64) _ 2 ?hg (N := 91) ?hd (xs := ([] : List Int)) (inner := []) (ok := fun _ => True) (okp := fun _ => True) ?hr ?hp (fun _ hk => hk) trivial (Below.refl _ _) (Nat.le_refl _) (by simp) ?_; (case hd => rfl); (case hg => rfl); (case hr => first | (go_simp; done) | (go_simp; rfl)); (case hp => exact (Reps.none _ _)); intro v142 w34 ho35 hb hg_ hnew_; clear hg_ hnew_; (first | rw [← Ny141.out] at ho35 | (simp only [Int.reduceToNat] at ho35; rw [← Ny141.out] at ho35)); have n0_ := Aside0.mk (Kd.R_lower ho35 (below_size (ke_ HB.out))); have n1_ := Aside0.mk (blk_below (kb0_ BK0.out) hb); have n2_ := Aside0.mk (below_step (ke_ HB.out) hb); clear BK0; clear HB; have HO143 := n0_; have BK0 := n1_; have HB := n2_; clear n0_ n1_ n2_; clear hb ho35))
            go_loopg [9, 10] kj23 (fun kq v9 v10 w' => ∃ (x9_4 : List Int) (x10_4 : Int), v10 = .int .i64 x10_4 ∧ Aside0 (spec_l06At.l2 kq a1 x5_2 x6_10 x9_4 x10_4 l0_0 l0_1 = some r) ∧ Aside0 (kq ≤ kj23) ∧ Aside0 (Kd.R (Kd.int .i64) 2 w' w.heap.size (fun _ => True) v9 x9_4) ∧ Aside0 (w'.heap[g0_]? = some (.cells #[(.slice A0_0 l0_0.length c0_0), (.slice (some ad133) l0_1.length c0_1)] 31 (0, 0))) ∧ Aside0 (Below w.heap.size w w'))
            case atStart => exact ⟨(y141), (0), ks_, H', ⟨Nat.le_refl _⟩, ⟨by (with_reducible repeat (first | apply Kd.R_alloc | apply Kd.R_drewN | apply Kd.R_drew)); exact HO143.out⟩, ⟨kb0_ BK0.out⟩, ⟨ke_ HB.out⟩⟩
            case round =>
             clear H'; (try clear c1); (try clear p1); (try clear q1); (try clear hx1); (try clear c2); (try clear p2); (try clear c3); (try clear c4); (try clear c4b0); (try clear c6); (try clear c6b0); (try clear p6); (try clear c7); (try clear c7b0); (try clear c13); (try clear c13b0); (try clear p13); (try clear q13); (try clear hx13); (try clear c15); (try clear c15b0); (try clear c16); (try clear c16b0); (try clear c17); (try clear c17b0); (try clear c20); (try clear c20b0); (try clear c21); (try clear c21b0); (try clear c22); (try clear c22b0); (try clear c23); (try clear c23b0); (try clear c26); (try clear c26b0); (try clear c29); (try clear c30); (try clear c30b0); (try clear c31); (try clear c31b0); (try clear hcz10_0); (try clear hcz10_1); (try clear hcz12_0); (try clear hcz12_1); (try clear hcz18_0); (try clear hcz18_1); (try clear hcz19_0); (try clear hcz19_1); (try clear hcz25_0); (try clear hcz25_1); (try clear hcz8_0); (try clear hcz8_1); (try clear hcz9_0); (try clear hcz9_1); (try clear hfz10_0); (try clear hfz10_1); (try clear hfz12_0); (try clear hfz12_1); (try clear hfz18_0); (try clear hfz18_1); (try clear hfz19_0); (try clear hfz19_1); (try clear hfz25_0); (try clear hfz25_1); (try clear hfz8_0); (try clear hfz8_1); (try clear hfz9_0); (try clear hfz9_1); (try clear hx131_0); (try clear hx131_1); (try clear hx132_0); (try clear hx132_1); (try clear hx133_0); (try clear hx133_1); (try clear hx134_0); (try clear hx134_1); (try clear hx135_0); (try clear hx135_1); (try clear hx136_0); (try clear hx136_1); (try clear hx137_0); (try clear hx137_1); (try clear p1); (try clear p13); (try clear p131); (try clear p132); (try clear p133); (try clear p134); (try clear p135); (try clear p136); (try clear p137); (try clear p2); (try clear p6); (try clear q1); (try clear q13); (try clear q131); (try clear q132); (try clear q133); (try clear q134); (try clear q135); (try clear q136); (try clear q137); obtain ⟨x9_4, x10_4, rfl, HA, HK4, HO_9, BK0, HB⟩ := hrel
             cases gk with
             | zero => exact absurd HA.out (by simp [spec_l06At.l2])
             | succ k4 =>
              have H := HA.out; clear HA; simp only [spec_l06At.l2] at H
              by_cases c36 : 0 ≤ x5_2
              ·rw [if_pos c36] at H; have c36b0 : decide (0 ≤ x5_2) = true := decide_eq_true c36; clear c36
               by_cases c37 : x5_2 < (l0_1.length : Int)
               ·rw [if_pos c37] at H; have c37b0 : decide (x5_2 < (l0_1.length : Int)) = true := decide_eq_true c37; clear c37
                by_cases c38 : x10_4 < (((rd_T59 l0_1 x5_2).f1).length : Int)
                ·rw [if_pos c38] at H; have c38b0 : decide (x10_4 < (((rd_T59 l0_1 x5_2).f1).length : Int)) = true := decide_eq_true c38; clear c38
                 by_cases c39 : 0 ≤ x10_4
                 ·rw [if_pos c39] at H; have c39b0 : decide (0 ≤ x10_4) = true := decide_eq_true c39; clear c39
                  by_cases c40 : 0 ≤ x6_10
                  ·rw [if_pos c40] at H; have c40b0 : decide (0 ≤ x6_10) = true := decide_eq_true c40; clear c40
                   by_cases c41 : x6_10 < (l0_1.length : Int)
                   ·rw [if_pos c41] at H; have c41b0 : decide (x6_10 < (l0_1.length : Int)) = true := decide_eq_true c41; clear c41
                    by_cases c42 : x10_4 < (((rd_T59 l0_1 x6_10).f1).length : Int)
                    ·rw [if_pos c42] at H; have c42b0 : decide (x10_4 < (((rd_T59 l0_1 x6_10).f1).length : Int)) = true := decide_eq_true c42; clear c42; replace H := Option.bind_eq_some_iff.mp H; obtain ⟨t150, A430, H⟩ := H; replace H : (if x9_4.length < 17592186044416 then (spec_l06At.l2 k4 a1 x5_2 x6_10 (x9_4 ++ [wrap64 ((rd ((rd_T59 l0_1 x5_2).f1) x10_4) + t150)]) (wrap64 (x10_4 + 1)) l0_0 l0_1) else (none)) = some r := H; have A43 := Aside0.mk A430; clear A430
                     by_cases c44 : x9_4.length < 17592186044416
                     ·rw [if_pos c44] at H; have LMc44 := Aside0.mk c44; clear c44; obtain ⟨y151, hy151⟩ : ∃ y_ : List Int, y_ = (x9_4 ++ [wrap64 ((rd ((rd_T59 l0_1 x5_2).f1) x10_4) + t150)]) := ⟨_, rfl⟩; (replace H : (spec_l06At.l2 k4 a1 x5_2 x6_10 y151 (wrap64 (x10_4 + 1)) l0_0 l0_1) = some r := by first | (rw [hy151]; with_reducible exact H) | (have H2_ := (Option.bind_some _ _).symm.trans H; rw [hy151]; with_reducible exact H2_) | (have H2_ := (Option.bind_some _ _).symm.trans H; with_reducible exact H2_) | with_reducible exact H | (rw [hy151]; exact H) | exact H); have Ny151 := Aside0.mk hy151; clear hy151; have H' := Aside0.mk H; clear H; have p144 : 0 ≤ (x5_2 : Int) := of_decide_eq_true (by assumption); have q144 : x5_2 < (l0_1.length : Int) := of_decide_eq_true (by assumption); obtain ⟨ad144, A144_1, c144_1, e144, hx144_0, hx144_1, hl144_1, hi144_1⟩ := at_T59 HR0_1.out x5_2 p144 q144; obtain rfl : ad133 = ad144 := (by injection e144); replace hx144_0 := (HB.out.cell (World.block_lt_of_cell? w _ hx144_0)).trans hx144_0; replace hx144_1 := (HB.out.cell (World.block_lt_of_cell? w _ hx144_1)).trans hx144_1; have HR144_1 := Aside0.mk hi144_1; have HC144_1 := Aside0.mk hl144_1; clear hi144_1 hl144_1; replace p144 := eq_true p144; replace q144 := eq_true q144; (try go_wp2); have n0_ := Aside0.mk (Kd.R_drew HO_9.out); have n1_ := Aside0.mk (blk_drew BK0.out); have n2_ := Aside0.mk (below_drew1 HB.out); clear HO_9; clear BK0; clear HB; have HO_9 := n0_; have BK0 := n1_; have HB := n2_; clear n0_ n1_ n2_; have p145 : 0 ≤ (x5_2 : Int) := of_decide_eq_true (by assumption); have q145 : x5_2 < (l0_1.length : Int) := of_decide_eq_true (by assumption); obtain ⟨ad145, A145_1, c145_1, e145, hx145_0, hx145_1, hl145_1, hi145_1⟩ := at_T59 HR0_1.out x5_2 p145 q145; have hw145_1 := hx145_1; have hw145_0 := hx145_0; obtain rfl : ad133 = ad145 := (by injection e145); replace hx145_0 := (HB.out.cell (World.block_lt_of_cell? w _ hx145_0)).trans hx145_0; replace hx145_1 := (HB.out.cell (World.block_lt_of_cell? w _ hx145_1)).trans hx145_1; have HR145_1 := Aside0.mk hi145_1; have HC145_1 := Aside0.mk hl145_1; clear hi145_1 hl145_1; replace p145 := eq_true p145; replace q145 := eq_true q145; have p146 : 0 ≤ (x10_4 : Int) := of_decide_eq_true (by assumption); have q146 : x10_4 < (((rd_T59 l0_1 x5_2).f1).length : Int) := of_decide_eq_true (by assumption); obtain ⟨ad146, e146, hx146_0⟩ := Kd.at_int HR145_1.out x10_4 p146 q146; have hw146_0 := hx146_0
                      cases e146
                      replace hx146_0 := (HB.out.cell (World.block_lt_of_cell? w _ hx146_0)).trans hx146_0; replace p146 := eq_true p146; replace q146 := eq_true q146; have p147 : 0 ≤ (x6_10 : Int) := of_decide_eq_true (by assumption); have q147 : x6_10 < (l0_1.length : Int) := of_decide_eq_true (by assumption); obtain ⟨ad147, A147_1, c147_1, e147, hx147_0, hx147_1, hl147_1, hi147_1⟩ := at_T59 HR0_1.out x6_10 p147 q147; have hw147_1 := hx147_1; have hw147_0 := hx147_0; obtain rfl : ad133 = ad147 := (by injection e147); replace hx147_0 := (HB.out.cell (World.block_lt_of_cell? w _ hx147_0)).trans hx147_0; replace hx147_1 := (HB.out.cell (World.block_lt_of_cell? w _ hx147_1)).trans hx147_1; have HR147_1 := Aside0.mk hi147_1; have HC147_1 := Aside0.mk hl147_1; clear hi147_1 hl147_1; replace p147 := eq_true p147; replace q147 := eq_true q147; have p148 : 0 ≤ (x10_4 : Int) := of_decide_eq_true (by assumption); have q148 : x10_4 < (((rd_T59 l0_1 x6_10).f1).length : Int) := of_decide_eq_true (by assumption); obtain ⟨ad148, e148, hx148_0⟩ := Kd.at_int HR147_1.out x10_4 p148 q148; have hw148_0 := hx148_0
                      cases e148
                      replace hx148_0 := (HB.out.cell (World.block_lt_of_cell? w _ hx148_0)).trans hx148_0; replace p148 := eq_true p148; replace q148 := eq_true q148; have p149 : 0 ≤ (x10_4 : Int) := of_decide_eq_true (by assumption); have q149 : x10_4 < (((rd_T59 l0_1 x5_2).f1).length : Int) := of_decide_eq_true (by assumption); obtain ⟨ad149, e149, hx149_0⟩ := Kd.at_int HR145_1.out x10_4 p149 q149; have hw149_0 := hx149_0; obtain rfl : ad146 = ad149 := (by injection e149); replace hx149_0 := (HB.out.cell (World.block_lt_of_cell? w _ hx149_0)).trans hx149_0; replace p149 := eq_true p149; replace q149 := eq_true q149; refine start_ (n := 44) (S := fun w' => w'.cell? (ad133.add ((x5_2).toNat * 2)) = some (.int .i64 ((rd_T59 l0_1 x5_2).f0)) ∧ w'.cell? ⟨(ad133.add ((x5_2).toNat * 2)).block, (ad133.add ((x5_2).toNat * 2)).off + 1, none⟩ = some (.slice (some ad146) ((rd_T59 l0_1 x5_2).f1).length c145_1) ∧ w'.cell? (ad146.add (x10_4).toNat) = some (.int .i64 (rd ((rd_T59 l0_1 x5_2).f1) x10_4)) ∧ w'.cell? (ad133.add ((x6_10).toNat * 2)) = some (.int .i64 ((rd_T59 l0_1 x6_10).f0)) ∧ w'.cell? ⟨(ad133.add ((x6_10).toNat * 2)).block, (ad133.add ((x6_10).toNat * 2)).off + 1, none⟩ = some (.slice (some ad148) ((rd_T59 l0_1 x6_10).f1).length c147_1) ∧ w'.cell? (ad148.add (x10_4).toNat) = some (.int .i64 (rd ((rd_T59 l0_1 x6_10).f1) x10_4)) ∧ w'.cell? (ad146.add (x10_4).toNat) = some (.int .i64 (rd ((rd_T59 l0_1 x5_2).f1) x10_4))) (ds := []) p12_16021 kr_ rfl rfl ⟨((HB.out.cell (World.block_lt_of_cell? w _ hw145_0)).trans hw145_0), ((HB.out.cell (World.block_lt_of_cell? w _ hw145_1)).trans hw145_1), ((HB.out.cell (World.block_lt_of_cell? w _ hw146_0)).trans hw146_0), ((HB.out.cell (World.block_lt_of_cell? w _ hw147_0)).trans hw147_0), ((HB.out.cell (World.block_lt_of_cell? w _ hw147_1)).trans hw147_1), ((HB.out.cell (World.block_lt_of_cell? w _ hw148_0)).trans hw148_0), ((HB.out.cell (World.block_lt_of_cell? w _ hw149_0)).trans hw149_0)⟩ (fun hHeld => ?_); refine with_tabW spec_l06At.tab15 spec_l06At.bits15 (fun HT_ HW_ => ?_); generalize wr.drew = w45 at HO_9 BK0 HB HR145_1 HR147_1 hx145_0 hx145_1 hx146_0 hx147_0 hx147_1 hx148_0 hx149_0 hHeld ⊢; refine pu1_ 0 (some 101) p12_16022 rfl rfl HT_.out ?_; refine pu1_ 1 (some 102) p12_16023 rfl rfl HT_.out ?_; refine pu1_ 2 (some 103) p12_16024 rfl rfl HT_.out ?_; refine pu1_ 3 (some 104) p12_16025 rfl rfl HT_.out ?_; refine pu1_ 5 (some 106) p12_16026 rfl rfl HT_.out ?_; refine pu1_ 8 (some 109) p12_16027 rfl rfl HT_.out ?_; refine pu1_ 9 (some 110) p12_16028 rfl rfl HT_.out ?_; refine pu1_ 10 (some 111) p12_16029 rfl rfl HT_.out ?_; refine pu1_ 12 (some 113) p12_16030 rfl rfl HT_.out ?_; refine pu1_ 15 (some 116) p12_16031 rfl rfl HT_.out ?_; refine pu1_ 16 (some 117) p12_16032 rfl rfl HT_.out ?_; refine pu1_ 17 (some 118) p12_16033 rfl rfl HT_.out ?_; refine pu1_ 19 (some 120) p12_16034 rfl rfl HT_.out ?_; refine pu1_ 23 (some 124) p12_16035 rfl rfl HT_.out ?_; refine pu1_ 24 (some 125) p12_16036 rfl rfl HT_.out ?_; refine pu1_ 25 (some 126) p12_16037 rfl rfl HT_.out ?_; refine pu1_ 26 (some 127) p12_16038 rfl rfl HT_.out ?_; refine pu1_ 30 (some 131) p12_16039 rfl rfl HT_.out ?_; refine pu1_ 31 (some 132) p12_16040 rfl rfl HT_.out ?_; refine pu1_ 32 (some 133) p12_16041 rfl rfl HT_.out ?_; refine pu1_ 34 (some 135) p12_16042 rfl rfl HT_.out ?_; refine pu1_ 35 (some 136) p12_16043 rfl rfl HT_.out ?_; refine pu1_ 36 (some 137) p12_16044 rfl rfl HT_.out ?_; refine tk7_ 4 (some 105) p12_16045 rfl rfl HT_.out HW_.out hHeld ?_; refine pu1_ 6 (some 107) p12_16046 rfl rfl HT_.out ?_; refine tk7_ 7 (some 108) p12_16047 rfl rfl HT_.out HW_.out hHeld ?_; refine tk7_ 11 (some 112) p12_16048 rfl rfl HT_.out HW_.out hHeld ?_; refine pu1_ 13 (some 114) p12_16049 rfl rfl HT_.out ?_; refine tk7_ 14 (some 115) p12_16050 rfl rfl HT_.out HW_.out hHeld ?_; refine tk7_ 18 (some 119) p12_16051 rfl rfl HT_.out HW_.out hHeld ?_; refine pu1_ 20 (some 121) p12_16052 rfl rfl HT_.out ?_; refine tk7_ 21 (some 122) p12_16053 rfl rfl HT_.out HW_.out hHeld ?_; refine pu1_ 22 (some 123) p12_16054 rfl rfl HT_.out ?_; refine tk7_ 27 (some 128) p12_16055 rfl rfl HT_.out HW_.out hHeld ?_; refine pu1_ 28 (some 129) p12_16056 rfl rfl HT_.out ?_; refine pu1_ 29 (some 130) p12_16057 rfl rfl HT_.out ?_; refine tk7_ 33 (some 134) p12_16058 rfl rfl HT_.out HW_.out hHeld ?_; refine tk7_ 37 (some 138) p12_16059 rfl rfl HT_.out HW_.out hHeld ?_; refine pu1_ 38 (some 139) p12_16060 rfl rfl HT_.out ?_; refine one_ (i := 39) (N := some 140) p12_16061 rfl rfl (one_of HT_.out kr_) (by decide) (fun K hK => ?_); refine goes_ Try.func107 kr_ rfl #[.int .i64 (wrap64 ((wrap64 ((rd ((rd_T59 l0_1 x6_10).f1) x10_4) - (rd ((rd_T59 l0_1 x5_2).f1) x10_4))) * (wrap64 (a1 - ((rd_T59 l0_1 x5_2).f0))))), .int .i64 (wrap64 (((rd_T59 l0_1 x6_10).f0) - ((rd_T59 l0_1 x5_2).f0)))] (by rfl) rfl rfl km_ ?_; (with_reducible refine (spec_l01Floor.calls (wrap64 ((wrap64 ((rd ((rd_T59 l0_1 x6_10).f1) x10_4) - (rd ((rd_T59 l0_1 x5_2).f1) x10_4))) * (wrap64 (a1 - ((rd_T59 l0_1 x5_2).f0))))) (wrap64 (((rd_T59 l0_1 x6_10).f0) - ((rd_T59 l0_1 x5_2).f0))) t150 _ A43.out).mono ?_); rintro e w' ⟨rfl, ⟨nd, rfl⟩⟩; refine ⟨_, rfl, ?_⟩; refine hK.out _ _ ⟨((HB.out.cell (World.block_lt_of_cell? w _ hw145_0)).trans hw145_0), ((HB.out.cell (World.block_lt_of_cell? w _ hw145_1)).trans hw145_1), ((HB.out.cell (World.block_lt_of_cell? w _ hw146_0)).trans hw146_0), ((HB.out.cell (World.block_lt_of_cell? w _ hw147_0)).trans hw147_0), ((HB.out.cell (World.block_lt_of_cell? w _ hw147_1)).trans hw147_1), ((HB.out.cell (World.block_lt_of_cell? w _ hw148_0)).trans hw148_0), ((HB.out.cell (World.block_lt_of_cell? w _ hw149_0)).trans hw149_0)⟩ (fun hHeld => ?_); clear hK K; refine norm_ (a' := ?_) ?_ ?_; rotate_left
                      ·show Act.put _ (some 140) _ = _
                       simp only [Act.put, qa_, qz_, qs_, i64_w, i32_w]; rfl
                      refine pu1_ 40 (some 141) p12_16062 rfl rfl HT_.out ?_; refine one_ (i := 41) (N := some 142) p12_16063 rfl rfl (one_of HT_.out kr_) (by decide) (fun K hK => ?_); refine value_ (w1 := ?_) (v := ?_) (by rfl) rfl ?_ ?_
                      rotate_left 2
                      ·go_simp
                       constructor
                       ·rfl
                       ·rfl
                      refine hK.out _ _ ⟨(World.cell?_alloc_lt _ _ _ (World.block_lt_of_cell? _ _ (((HB.out.cell (World.block_lt_of_cell? w _ hw145_0)).trans hw145_0)))).trans (((HB.out.cell (World.block_lt_of_cell? w _ hw145_0)).trans hw145_0)), (World.cell?_alloc_lt _ _ _ (World.block_lt_of_cell? _ _ (((HB.out.cell (World.block_lt_of_cell? w _ hw145_1)).trans hw145_1)))).trans (((HB.out.cell (World.block_lt_of_cell? w _ hw145_1)).trans hw145_1)), (World.cell?_alloc_lt _ _ _ (World.block_lt_of_cell? _ _ (((HB.out.cell (World.block_lt_of_cell? w _ hw146_0)).trans hw146_0)))).trans (((HB.out.cell (World.block_lt_of_cell? w _ hw146_0)).trans hw146_0)), (World.cell?_alloc_lt _ _ _ (World.block_lt_of_cell? _ _ (((HB.out.cell (World.block_lt_of_cell? w _ hw147_0)).trans hw147_0)))).trans (((HB.out.cell (World.block_lt_of_cell? w _ hw147_0)).trans hw147_0)), (World.cell?_alloc_lt _ _ _ (World.block_lt_of_cell? _ _ (((HB.out.cell (World.block_lt_of_cell? w _ hw147_1)).trans hw147_1)))).trans (((HB.out.cell (World.block_lt_of_cell? w _ hw147_1)).trans hw147_1)), (World.cell?_alloc_lt _ _ _ (World.block_lt_of_cell? _ _ (((HB.out.cell (World.block_lt_of_cell? w _ hw148_0)).trans hw148_0)))).trans (((HB.out.cell (World.block_lt_of_cell? w _ hw148_0)).trans hw148_0)), (World.cell?_alloc_lt _ _ _ (World.block_lt_of_cell? _ _ (((HB.out.cell (World.block_lt_of_cell? w _ hw149_0)).trans hw149_0)))).trans (((HB.out.cell (World.block_lt_of_cell? w _ hw149_0)).trans hw149_0))⟩ (fun hHeld => ?_); clear hK K; refine norm_ (a' := ?_) ?_ ?_; rotate_left
                      ·show Act.put _ (some 142) _ = _
                       simp only [Act.put, qa_, qz_, qs_, i64_w, i32_w]; rfl
                      refine one_ (i := 42) (N := some 143) p12_16064 rfl rfl (one_of HT_.out kr_) (by decide) (fun K hK => ?_); refine Kd.R_append_step (Kd.int .i64) (w0 := w) w.heap.size (by rfl) (.tmp 101) (.tmp 142) 22 2 (.int .i64 0) 8 rfl Try.underlying22 info2 rfl (by decide) (by omega) u9 x9_4 (wrap64 ((rd ((rd_T59 l0_1 x5_2).f1) x10_4) + t150)) [.int .i64 (wrap64 ((rd ((rd_T59 l0_1 x5_2).f1) x10_4) + t150))] (fun _ => True) (fun _ => False) rfl rfl ?aP (fun _ hk => hk.elim) ?aF ?aO ?aB ?aS ?aL ?_
                      (case aP => exact rfl)
                      (case aB => exact (ke_ HB.out))
                      (case aF => exact (fun _ _ => trivial))
                      (case aO => exact (by (with_reducible repeat (first | apply Kd.R_alloc | apply Kd.R_drewN | apply Kd.R_drew)); exact HO_9.out))
                      (case aS => exact (below_size (ke_ HB.out)))
                      (case aL => have := LMc44.out; omega)
                      intro v152 w46 ho hb hg hat; rw [← Ny151.out] at ho; have n0_ := Aside0.mk (blk_grown (g := g0_) (o := .cells #[.slice A0_0 l0_0.length c0_0, .slice (some ad133) l0_1.length c0_1] 31 (0, 0)) (kb0_ BK0.out) hg (Kd.R_ne HO_9.out BK0.out (by decide))); have n1_ := Aside0.mk (hb); have n2_ := Aside0.mk (ho); clear BK0; clear HB; clear HO_9; have BK0 := n0_; have HB := n1_; have HO153 := n2_; clear n0_ n1_ n2_; clear ho hb hg hat; refine hK.out _ _ ⟨((HB.out.cell (World.block_lt_of_cell? w _ hw145_0)).trans hw145_0), ((HB.out.cell (World.block_lt_of_cell? w _ hw145_1)).trans hw145_1), ((HB.out.cell (World.block_lt_of_cell? w _ hw146_0)).trans hw146_0), ((HB.out.cell (World.block_lt_of_cell? w _ hw147_0)).trans hw147_0), ((HB.out.cell (World.block_lt_of_cell? w _ hw147_1)).trans hw147_1), ((HB.out.cell (World.block_lt_of_cell? w _ hw148_0)).trans hw148_0), ((HB.out.cell (World.block_lt_of_cell? w _ hw149_0)).trans hw149_0)⟩ (fun hHeld => ?_); clear hK K; refine norm_ (a' := ?_) ?_ ?_; rotate_left
                      ·show Act.put _ (some 143) _ = _
                       simp only [Act.put, qa_, qz_, qs_, i64_w, i32_w]; rfl
                      refine pu1_ 43 (some 9) p12_16065 rfl rfl HT_.out ?_; refine done_ (done_of HT_.out kr_) ?_; try go_wp2
                      go_roundg k4
                      case measure => have := HJ2.out; have := HJ10.out; have := HJ23.out; have := HK4.out; omega
                      case rel => exact ⟨(y151), (wrap64 (x10_4 + 1)), ks_, H', ⟨by have := HJ2.out; have := HJ10.out; have := HJ23.out; have := HK4.out; omega⟩, ⟨by (with_reducible repeat (first | apply Kd.R_alloc | apply Kd.R_drewN | apply Kd.R_drew)); exact HO153.out⟩, ⟨kb0_ BK0.out⟩, ⟨ke_ HB.out⟩⟩
                     ·rw [if_neg c44] at H; exact absurd H (by simp)
                    ·rw [if_neg c42] at H; exact absurd H (by simp)
                   ·rw [if_neg c41] at H; exact absurd H (by simp)
                  ·rw [if_neg c40] at H; exact absurd H (by simp)
                 ·rw [if_neg c39] at H; exact absurd H (by simp)
                ·rw [if_neg c38] at H; have c38b0 : decide (x10_4 < (((rd_T59 l0_1 x5_2).f1).length : Int)) = false := decide_eq_false c38; clear c38; obtain rfl := Option.some.inj H; have p144 : 0 ≤ (x5_2 : Int) := of_decide_eq_true (by assumption); have q144 : x5_2 < (l0_1.length : Int) := of_decide_eq_true (by assumption); obtain ⟨ad144, A144_1, c144_1, e144, hx144_0, hx144_1, hl144_1, hi144_1⟩ := at_T59 HR0_1.out x5_2 p144 q144; obtain rfl : ad133 = ad144 := (by injection e144); replace hx144_0 := (HB.out.cell (World.block_lt_of_cell? w _ hx144_0)).trans hx144_0; replace hx144_1 := (HB.out.cell (World.block_lt_of_cell? w _ hx144_1)).trans hx144_1; have HR144_1 := Aside0.mk hi144_1; have HC144_1 := Aside0.mk hl144_1; clear hi144_1 hl144_1; replace p144 := eq_true p144; replace q144 := eq_true q144
                 go_wp2
                 go_ret
                 exact ⟨_, by first | rfl | (simp [errW_none, errW_some] <;> rfl) | (simp [*, errW_none, errW_some] <;> rfl) | (simp [tz_, *]; done), by (with_reducible repeat (first | apply Kd.R_alloc | apply Kd.R_drewN | apply Kd.R_drew)); exact HO_9.out, ke_ HB.out⟩
               ·rw [if_neg c37] at H; exact absurd H (by simp)
              ·rw [if_neg c36] at H; exact absurd H (by simp)
        ·rw [if_neg c23] at H; exact absurd H (by simp)
       ·rw [if_neg c22] at H; exact absurd H (by simp)
      ·rw [if_neg c21] at H; exact absurd H (by simp)
     ·rw [if_neg c20] at H; exact absurd H (by simp)


def spec_l06Face.l0 : Nat → Int → List Int → List Int → List Int → Int → Option (List Int)
 | 0, _, _, _, _, _ => none
 | k + 1, x2, x7, x8, x9, x10 => if x10 < 10 then ((spec_l06Class.f k x8 (wrap64 (x2 + (wrap64 (300 * (wrap64 ((wrap64 (2 * x10)) - 9))))))).bind fun t163 => (if t163 < 0 then (if 0 ≤ (x8.length : Int) then (if (x8.length : Int) < (x9.length : Int) then (if 0 ≤ x10 then (if x10 < (x7.length : Int) then (spec_l06Face.l0 k x2 x7 x8 (x9.set ((x8.length : Int) : Int).toNat (wrap64 ((rd x9 (x8.length : Int)) + (rd x7 x10)))) (wrap64 (x10 + 1))) else (none)) else (none)) else (none)) else (none)) else (if 0 ≤ t163 then (if t163 < (x9.length : Int) then (if 0 ≤ x10 then (if x10 < (x7.length : Int) then (spec_l06Face.l0 k x2 x7 x8 (x9.set (t163 : Int).toNat (wrap64 ((rd x9 t163) + (rd x7 x10)))) (wrap64 (x10 + 1))) else (none)) else (none)) else (none)) else (none)))) else (some x9)
def spec_l06Face.f (k : Nat) (l0_0 : List Int) (l0_1 : List (S59)) (a1 : Int) (a2 : Int) : Option (List Int) := (spec_l06At.f k l0_0 l0_1 a1).bind fun t157 => (if 0 ≤ (wrap64 ((t157.length : Int) + 1)) then (if (wrap64 ((t157.length : Int) + 1) : Int).toNat ≤ 35184372088832 then (spec_l06Face.l0 k a2 (([52, 90, 111, 122, 125, 125, 122, 111, 90, 52] : List Int)) t157 (List.replicate (wrap64 ((t157.length : Int) + 1) : Int).toNat 0) 0) else (none)) else (none))





def W55 (x : S55) : Prop := (Lit.int .i64 x.f0).wf = true ∧ Opn.WfL (fun a_ => (Lit.int .i64 a_).wf = true) x.f1
theorem cut55 {α : Type} (cs : List α) (h : cs.length = 2) : cs = (cs.drop 0).take 1 ++ ((cs.drop 1).take 1) := by
 match cs, h with
 | [c0, c1], _ => rfl
theorem open55 : Opn.Opens Try.prog 55 k55 W55 := by
 intro H enc w base sp held fuel cs x h
 obtain ⟨xs, n, rfl, _, hl, hlen, hf⟩ := DataW.trod_struct Try.underlying55 h
 obtain ⟨y0, h0⟩ := Opn.field_at hlen hf 0 2 0 1 ⟨_, rfl, rfl, rfl⟩ kr_
 obtain ⟨y1, h1⟩ := Opn.field_at hlen hf 1 22 1 1 ⟨_, rfl, rfl, rfl⟩ kr_
 have hm : cs.length = 2 := hl.trans kr_
 obtain ⟨a0, K0, w0⟩ := (Opn.opens_int Try.underlying2) h0
 obtain ⟨a1, K1, w1⟩ := (Opn.opens_slice (0 : Int) Try.underlying22 kr_ (Opn.opens_int Try.underlying2)) h1
 have hcs := cut55 cs hm
 exact ⟨⟨a0, a1⟩, ⟨_, _, hcs, K0, K1⟩, ⟨w0, w1⟩⟩
def W25 (x : S25) : Prop := Opn.WfL (fun a_ => (Lit.int .i64 a_).wf = true) x.f0 ∧ Opn.WfL W55 x.f1
theorem cut25 {α : Type} (cs : List α) (h : cs.length = 2) : cs = (cs.drop 0).take 1 ++ ((cs.drop 1).take 1) := by
 match cs, h with
 | [c0, c1], _ => rfl
theorem open25 : Opn.Opens Try.prog 25 k25 W25 := by
 intro H enc w base sp held fuel cs x h
 obtain ⟨xs, n, rfl, _, hl, hlen, hf⟩ := DataW.trod_struct Try.underlying25 h
 obtain ⟨y0, h0⟩ := Opn.field_at hlen hf 0 22 0 1 ⟨_, rfl, rfl, rfl⟩ kr_
 obtain ⟨y1, h1⟩ := Opn.field_at hlen hf 1 23 1 1 ⟨_, rfl, rfl, rfl⟩ kr_
 have hm : cs.length = 2 := hl.trans kr_
 obtain ⟨a0, K0, w0⟩ := (Opn.opens_slice (0 : Int) Try.underlying22 kr_ (Opn.opens_int Try.underlying2)) h0
 obtain ⟨a1, K1, w1⟩ := (Opn.opens_slice z55 Try.underlying23 kr_ open55) h1
 have hcs := cut25 cs hm
 exact ⟨⟨a0, a1⟩, ⟨_, _, hcs, K0, K1⟩, ⟨w0, w1⟩⟩

mutual
def spec_ClassesAlong.j0 : Nat → Bool → List Int → List (S59) → Int → Int → Int → Int → List (S124) → Option (List Int × Bool)
 | 0, _, _, _, _, _, _, _, _ => none
 | k + 1, x14, x825000, x825001, x826000, x826001, x826002, x826003, x826004 => if x14 = true then (some (([] : List Int), false)) else ((spec_l02Poses.f k x826000 x826001 x826002 x826003 x826004).bind fun t828 => (spec_ClassesAlong.l0 k t828 (([] : List Int)) 0 x825000 x825001))
def spec_ClassesAlong.l0 : Nat → List (S44) → List Int → Int → List Int → List (S59) → Option (List Int × Bool)
 | 0, _, _, _, _, _ => none
 | k + 1, x6, x7, x8, x825000, x825001 => if x8 < (wrap64 ((x6.length : Int) - 1)) then ((spec_l06At.f k x825000 x825001 x8).bind fun t834 => (if 0 ≤ x8 then (if x8 < (x6.length : Int) then ((spec_l06Class.f k t834 ((rd_T44 x6 x8).f1)).bind fun t838 => (if x7.length < 17592186044416 then (spec_ClassesAlong.l0 k x6 (x7 ++ [t838]) (wrap64 (x8 + 1)) x825000 x825001) else (none))) else (none)) else (none))) else (some (x7, true))
end
def spec_ClassesAlong.f (k : Nat) (l0_0 : List Int) (l0_1 : List (S59)) (a1_0 : Int) (a1_1 : Int) (a1_2 : Int) (a1_3 : Int) (l1_4 : List (S124)) : Option (List Int × Bool) := (spec_l06Is.f k l0_0 l0_1).bind fun t826 => (if t826 = true then ((spec_l02Is.f k a1_0 a1_1 a1_2 a1_3 l1_4).bind fun t827 => (spec_ClassesAlong.j0 k (!t827) l0_0 l0_1 a1_0 a1_1 a1_2 a1_3 l1_4)) else (spec_ClassesAlong.j0 k true l0_0 l0_1 a1_0 a1_1 a1_2 a1_3 l1_4))
def spec_ClassesAlong.T8 : Bool × List (List Nat × List Nat) := (true, [([], []), ([], []), ([1], [1]), ([], []), ([], []), ([3, 4], [3, 4]), ([5], [5]), ([6], [6]), ([2, 7, 2], [2, 7]), ([8], [8]), ([0, 9, 8], [0, 9]), ([10, 10, 0, 1, 2, 3, 4, 5, 6, 7, 8, 9, 10], [0, 10])])
def spec_ClassesAlong.B8 : List Nat := [0, 0, 2, 0, 0, 24, 56, 120, 254, 510, 1023, 2047]
theorem spec_ClassesAlong.tab8 : rtab .any (opsOf Try.f39 8) = spec_ClassesAlong.T8 := by kernel_rfl
theorem spec_ClassesAlong.bits8 : waitsOk spec_ClassesAlong.T8.2 spec_ClassesAlong.B8 = true := by kernel_rfl
abbrev p40_15000 : Array Bool := (fl_ 12 0).toArray
abbrev p40_15001 : Array Bool := (fl_ 12 1).toArray
abbrev p40_15002 : Array Bool := (fl_ 12 3).toArray
abbrev p40_15003 : Array Bool := (fl_ 12 11).toArray
abbrev p40_15004 : Array Bool := (fl_ 12 27).toArray
abbrev p40_15005 : Array Bool := (fl_ 12 59).toArray
abbrev p40_15006 : Array Bool := (fl_ 12 123).toArray
abbrev p40_15007 : Array Bool := (fl_ 12 251).toArray
abbrev p40_15008 : Array Bool := (fl_ 12 255).toArray
abbrev p40_15009 : Array Bool := (fl_ 12 511).toArray
abbrev p40_15010 : Array Bool := (fl_ 12 1023).toArray
abbrev p40_15011 : Array Bool := (fl_ 12 2047).toArray
abbrev p40_15012 : Array Bool := (fl_ 12 4095).toArray
set_option maxHeartbeats 8000000 in
set_option maxRecDepth 100000 in
theorem spec_ClassesAlong.calls (k : Nat) (A0_0 : Option Addr) (c0_0 : Nat) (l0_0 : List Int) (A0_1 : Option Addr) (c0_1 : Nat) (l0_1 : List (S59)) (a1_0 : Int) (a1_1 : Int) (a1_2 : Int) (a1_3 : Int) (A1_4 : Option Addr) (c1_4 : Nat) (l1_4 : List (S124)) (r1 : List Int) (r2 : Bool) (w : World) (hr0_0 : Kd.C (Kd.int .i64) w A0_0 l0_0.length l0_0) (hc0_0 : l0_0.length ≤ c0_0) (hr0_1 : Kd.C k59 w A0_1 l0_1.length l0_1) (hc0_1 : l0_1.length ≤ c0_1) (hr1_4 : Kd.C k124 w A1_4 l1_4.length l1_4) (hc1_4 : l1_4.length ≤ c1_4) (h : spec_ClassesAlong.f k l0_0 l0_1 a1_0 a1_1 a1_2 a1_3 l1_4 = some (r1, r2)) :
  Calls Try.prog 39 #[.agg #[.slice A0_0 l0_0.length c0_0, .slice A0_1 l0_1.length c0_1], .agg #[.int .i64 a1_0, .int .i64 a1_1, .int .i64 a1_2, .int .i64 a1_3, .slice A1_4 l1_4.length c1_4]] w fun e w' => ∃ v0_ : Value, e = .returned (.tuple #[v0_, .bool r2]) ∧ Kd.R (Kd.int .i64) 2 w' w.heap.size (fun _ => True) v0_ r1 ∧ Below w.heap.size w w' := by
 have hu31 := Try.underlying31; have hu47 := Try.underlying47; have HR0_0 := Aside0.mk hr0_0; have HC0_0 := Aside0.mk hc0_0; clear hr0_0 hc0_0; have HR0_1 := Aside0.mk hr0_1; have HC0_1 := Aside0.mk hc0_1; clear hr0_1 hc0_1; have HR1_4 := Aside0.mk hr1_4; have HC1_4 := Aside0.mk hc1_4; clear hr1_4 hc1_4; have HB := Aside0.mk (Below.refl w.heap.size w); have H : ((spec_l06Is.f k l0_0 l0_1).bind fun t826 => (if t826 = true then ((spec_l02Is.f k a1_0 a1_1 a1_2 a1_3 l1_4).bind fun t827 => (spec_ClassesAlong.j0 k (!t827) l0_0 l0_1 a1_0 a1_1 a1_2 a1_3 l1_4)) else (spec_ClassesAlong.j0 k true l0_0 l0_1 a1_0 a1_1 a1_2 a1_3 l1_4))) = some (r1, r2) := h; clear h; have HC3 := Aside0.mk H; clear H
 go_enter Try.func39, Try.ntmps39
 go_upto_region 1 with (first | ((with_reducible refine gate_dst (N := 2) rfl ?_); refine box_event (by rfl) (N := 2) (by rfl) (cs := #[.slice A0_0 l0_0.length c0_0, .slice A0_1 l0_1.length c0_1]) (t := 31) kg_ ?_; intro gb824 hg w4 hbox hb; have n0_ := Aside0.mk (below_step (kh0_ HB.out) hb); have n1_ := Aside0.mk (hbox); have n2_ := kw_ (w := w) hg (kh0_ HB.out); have n3_ := kw_ (w := w) hg (kh0_ HB.out); clear HB; have HB := n0_; have BK824 := n1_; have GW824 := n2_; have GE824 := n3_; clear n0_ n1_ n2_ n3_; clear hb hbox hg) | ((with_reducible refine gate_dst (N := 3) rfl ?_); refine box_event (by rfl) (N := 3) (by rfl) (cs := #[.int .i64 a1_0, .int .i64 a1_1, .int .i64 a1_2, .int .i64 a1_3, .slice A1_4 l1_4.length c1_4]) (t := 47) kg_ ?_; intro gb825 hg w5 hbox hb; have n0_ := Aside0.mk (blk_below (kb0_ BK824.out) hb); have n1_ := Aside0.mk (below_step (ke_ HB.out) hb); have n2_ := Aside0.mk (hbox); have n3_ := kw_ (w := w) hg (ke_ HB.out); have n4_ := kw_ (w := w) hg (ke_ HB.out); have n5_ := kn_ hg (kb0_ BK824.out); have n6_ := Aside0.mk (Ne.symm n5_.out); clear BK824; clear HB; have BK824 := n0_; have HB := n1_; have BK825 := n2_; have GW825 := n3_; have GE825 := n4_; have NB824_825 := n5_; have NB825_824 := n6_; clear n0_ n1_ n2_ n3_ n4_ n5_ n6_; clear hb hbox hg))
 (try simp only [Act.put, qa_, qz_, qs_])
 go_cut [14] (fun v14 wc => ∃ (kq : Nat) (x14_2 : Bool) (x826000_2 : Int) (x826001_2 : Int) (x826002_2 : Int) (x826003_2 : Int), v14 = .bool x14_2 ∧ Aside0 (spec_ClassesAlong.j0 kq x14_2 l0_0 l0_1 x826000_2 x826001_2 x826002_2 x826003_2 l1_4 = some (r1, r2)) ∧ Aside0 (kq ≤ k) ∧ Aside0 (wc.heap[gb824]? = some (.cells #[(.slice A0_0 l0_0.length c0_0), (.slice A0_1 l0_1.length c0_1)] 31 (0, 0))) ∧ Aside0 (wc.heap[gb825]? = some (.cells #[.int .i64 x826000_2, .int .i64 x826001_2, .int .i64 x826002_2, .int .i64 x826003_2, (.slice A1_4 l1_4.length c1_4)] 47 (0, 0))) ∧ Aside0 (Below w.heap.size w wc))
 case first =>
  have H := HC3.out; clear HC3; replace H := Option.bind_eq_some_iff.mp H; obtain ⟨t826, A60, H⟩ := H; replace H : (if t826 = true then ((spec_l02Is.f k a1_0 a1_1 a1_2 a1_3 l1_4).bind fun t827 => (spec_ClassesAlong.j0 k (!t827) l0_0 l0_1 a1_0 a1_1 a1_2 a1_3 l1_4)) else (spec_ClassesAlong.j0 k true l0_0 l0_1 a1_0 a1_1 a1_2 a1_3 l1_4)) = some (r1, r2) := H; have A6 := Aside0.mk A60; clear A60
  by_cases c7 : t826 = true
  ·subst c7; (have H1 : ((spec_l02Is.f k a1_0 a1_1 a1_2 a1_3 l1_4).bind fun t827 => (spec_ClassesAlong.j0 k (!t827) l0_0 l0_1 a1_0 a1_1 a1_2 a1_3 l1_4)) = some (r1, r2) := by rw [if_pos rfl] at H; exact H); clear H; have H := H1; clear H1; replace H := Option.bind_eq_some_iff.mp H; obtain ⟨t827, A80, H⟩ := H; replace H : (spec_ClassesAlong.j0 k (!t827) l0_0 l0_1 a1_0 a1_1 a1_2 a1_3 l1_4) = some (r1, r2) := H; have A8 := Aside0.mk A80; clear A80; have H' := Aside0.mk H; clear H
   go_wp2_with (first | ((with_reducible refine gate_callee (f := 47) rfl ?_); refine goesL_ (some 9) rfl rfl Try.func47 kr_ rfl #[.pointer (some ⟨gb824, 0, none⟩)] rfl km_ ?_; (with_reducible refine (spec_l06Is.calls k gb824 A0_0 c0_0 l0_0 A0_1 c0_1 l0_1 true _ ?side1 ?side2 ?side3 ?side4 ?side5 A6.out).mono ?_); (case side1 => repeat (first | exact (Kd.C_below HR0_0.out HB.out) | (with_reducible first | refine Kd.C_alloc ?_ _ | refine Kd.C_drewN ?_ _ | refine Kd.C_drew ?_))); (case side2 => exact HC0_0.out); (case side3 => repeat (first | exact (Kd.C_below HR0_1.out HB.out) | (with_reducible first | refine Kd.C_alloc ?_ _ | refine Kd.C_drewN ?_ _ | refine Kd.C_drew ?_))); (case side4 => exact HC0_1.out); (case side5 => exact (kb0_ BK824.out)); rintro e w9 ⟨rfl, hb⟩; refine ⟨_, rfl, ?_⟩; have n0_ := Aside0.mk (blk_below (kb0_ BK824.out) hb); have n1_ := Aside0.mk (blk_below (kb0_ BK825.out) hb); have n2_ := Aside0.mk (below_step (ke_ HB.out) hb); clear BK824; clear BK825; clear HB; have BK824 := n0_; have BK825 := n1_; have HB := n2_; clear n0_ n1_ n2_; (try clear hb hb2 hk hi)) | (go_at_call 76; (with_reducible refine (spec_l02Is.calls k gb825 a1_0 a1_1 a1_2 a1_3 A1_4 c1_4 l1_4 t827 _ ?side1 ?side2 ?side3 A8.out).mono ?_); (case side1 => repeat (first | exact (Kd.C_below HR1_4.out HB.out) | (with_reducible first | refine Kd.C_alloc ?_ _ | refine Kd.C_drewN ?_ _ | refine Kd.C_drew ?_))); (case side2 => exact HC1_4.out); (case side3 => exact (kb0_ BK825.out)); rintro e w10 ⟨rfl, hb⟩; have n0_ := Aside0.mk (blk_below (kb0_ BK824.out) hb); have n1_ := Aside0.mk (blk_below (kb0_ BK825.out) hb); have n2_ := Aside0.mk (below_step (ke_ HB.out) hb); clear BK824; clear BK825; clear HB; have BK824 := n0_; have BK825 := n1_; have HB := n2_; clear n0_ n1_ n2_; (try clear hb hb2 hk hi)))
   go_meet
   case rel => exact ⟨_, (!t827), (a1_0), (a1_1), (a1_2), (a1_3), ks_, H', ⟨by first | omega | exact Nat.le_refl _⟩, ⟨kb0_ BK824.out⟩, ⟨kb0_ BK825.out⟩, ⟨ke_ HB.out⟩⟩
  ·replace c7 := Bool.eq_false_iff.mpr c7; subst c7; (have H1 : (spec_ClassesAlong.j0 k true l0_0 l0_1 a1_0 a1_1 a1_2 a1_3 l1_4) = some (r1, r2) := by rw [if_neg (show ¬ (false = true) by decide)] at H; exact H); clear H; have H := H1; clear H1; have H' := Aside0.mk H; clear H
   go_wp2_with (first | ((with_reducible refine gate_callee (f := 47) rfl ?_); refine goesL_ (some 9) rfl rfl Try.func47 kr_ rfl #[.pointer (some ⟨gb824, 0, none⟩)] rfl km_ ?_; (with_reducible refine (spec_l06Is.calls k gb824 A0_0 c0_0 l0_0 A0_1 c0_1 l0_1 false _ ?side1 ?side2 ?side3 ?side4 ?side5 A6.out).mono ?_); (case side1 => repeat (first | exact (Kd.C_below HR0_0.out HB.out) | (with_reducible first | refine Kd.C_alloc ?_ _ | refine Kd.C_drewN ?_ _ | refine Kd.C_drew ?_))); (case side2 => exact HC0_0.out); (case side3 => repeat (first | exact (Kd.C_below HR0_1.out HB.out) | (with_reducible first | refine Kd.C_alloc ?_ _ | refine Kd.C_drewN ?_ _ | refine Kd.C_drew ?_))); (case side4 => exact HC0_1.out); (case side5 => exact (kb0_ BK824.out)); rintro e w11 ⟨rfl, hb⟩; refine ⟨_, rfl, ?_⟩; have n0_ := Aside0.mk (blk_below (kb0_ BK824.out) hb); have n1_ := Aside0.mk (blk_below (kb0_ BK825.out) hb); have n2_ := Aside0.mk (below_step (ke_ HB.out) hb); clear BK824; clear BK825; clear HB; have BK824 := n0_; have BK825 := n1_; have HB := n2_; clear n0_ n1_ n2_; (try clear hb hb2 hk hi)))
   go_meet
   case rel => exact ⟨_, (true), (a1_0), (a1_1), (a1_2), (a1_3), ks_, H', ⟨by first | omega | exact Nat.le_refl _⟩, ⟨kb0_ BK824.out⟩, ⟨kb0_ BK825.out⟩, ⟨ke_ HB.out⟩⟩
 case rest =>
  clear HC3; (try clear c1); (try clear p2); (try clear c3); (try clear c4); (try clear c7); obtain ⟨kq, x14_2, x826000_2, x826001_2, x826002_2, x826003_2, rfl, HA, HJ2, BK824, BK825, HB⟩ := hcut
  cases kq with
  | zero => exact absurd HA.out (by simp [spec_ClassesAlong.j0])
  | succ kj2 =>
   have H := HA.out; clear HA; simp only [spec_ClassesAlong.j0] at H
   by_cases c12 : x14_2 = true
   ·subst c12; (have H1 : (some (([] : List Int), false)) = some (r1, r2) := by rw [if_pos rfl] at H; exact H); clear H; have H := H1; clear H1; simp only [Option.some.injEq, Prod.mk.injEq] at H; obtain ⟨rfl, rfl⟩ := H
    go_wp2
    go_ret2
    exact ⟨_, by first | rfl | (simp [errW_none, errW_some] <;> rfl) | (simp [*, errW_none, errW_some] <;> rfl) | (simp [tz_, *]; done), by first | exact Kd.R_nil _ _ _ _ _ | exact Kd.N_nil _ _ _ _ _ | exact Kd.V_nil _ _ _ _ _ | exact Kd.Q_nil _ _ _ _ _ | exact Kd.S_nil _ _ _ _ _, ke_ HB.out⟩
   ·replace c12 := Bool.eq_false_iff.mpr c12; subst c12; (have H1 : ((spec_l02Poses.f kj2 x826000_2 x826001_2 x826002_2 x826003_2 l1_4).bind fun t828 => (spec_ClassesAlong.l0 kj2 t828 (([] : List Int)) 0 l0_0 l0_1)) = some (r1, r2) := by rw [if_neg (show ¬ (false = true) by decide)] at H; exact H); clear H; have H := H1; clear H1; replace H := Option.bind_eq_some_iff.mp H; obtain ⟨t828, A130, H⟩ := H; replace H : (spec_ClassesAlong.l0 kj2 t828 (([] : List Int)) 0 l0_0 l0_1) = some (r1, r2) := H; have A13 := Aside0.mk A130; clear A130; obtain ⟨y831, hy831⟩ : ∃ y_ : List Int, y_ = (([] : List Int)) := ⟨_, rfl⟩; (replace H : (spec_ClassesAlong.l0 kj2 t828 y831 0 l0_0 l0_1) = some (r1, r2) := by first | (rw [hy831]; with_reducible exact H) | (have H2_ := (Option.bind_some _ _).symm.trans H; rw [hy831]; with_reducible exact H2_) | (have H2_ := (Option.bind_some _ _).symm.trans H; with_reducible exact H2_) | with_reducible exact H | (rw [hy831]; exact H) | exact H); have Ny831 := Aside0.mk hy831; clear hy831; have H' := Aside0.mk H; clear H
    go_wp2_with (first | ((with_reducible refine gate_callee (f := 77) rfl ?_); refine goesL_ (some 15) rfl rfl Try.func77 kr_ rfl #[.pointer (some ⟨gb825, 0, none⟩)] rfl km_ ?_; (with_reducible refine (spec_l02Poses.calls kj2 gb825 x826000_2 x826001_2 x826002_2 x826003_2 A1_4 c1_4 l1_4 t828 _ ?side1 ?side2 ?side3 A13.out).mono ?_); (case side1 => repeat (first | exact (Kd.C_below HR1_4.out HB.out) | (with_reducible first | refine Kd.C_alloc ?_ _ | refine Kd.C_drewN ?_ _ | refine Kd.C_drew ?_))); (case side2 => exact HC1_4.out); (case side3 => exact (kb0_ BK825.out)); rintro e w14 ⟨v829, rfl, ho0, hb⟩; refine ⟨_, rfl, ?_⟩; have n0_ := Aside0.mk (Kd.R_lower ho0 (below_size (ke_ HB.out))); have n1_ := Aside0.mk (blk_below (kb0_ BK824.out) hb); have n2_ := Aside0.mk (blk_below (kb0_ BK825.out) hb); have n3_ := Aside0.mk (below_step (ke_ HB.out) hb); clear BK824; clear BK825; clear HB; have HO830 := n0_; have BK824 := n1_; have BK825 := n2_; have HB := n3_; clear n0_ n1_ n2_ n3_; (try clear hb hb2 hk hi ho0)) | ((with_reducible refine gate_dst (N := 16) rfl ?_); refine Kd.R_lit (Kd.int .i64) _ 2 ?hg (N := 16) ?hd (xs := ([] : List Int)) (inner := []) (ok := fun _ => True) (okp := fun _ => True) ?hr ?hp (fun _ hk => hk) trivial (Below.refl _ _) (Nat.le_refl _) (by simp) ?_; (case hd => rfl); (case hg => rfl); (case hr => first | (go_simp; done) | (go_simp; rfl)); (case hp => exact (Reps.none _ _)); intro v832 w15 ho16 hb hg_ hnew_; clear hg_ hnew_; (first | rw [← Ny831.out] at ho16 | (simp only [Int.reduceToNat] at ho16; rw [← Ny831.out] at ho16)); have n0_ := Aside0.mk (Kd.R_below (by (with_reducible repeat (first | apply Kd.R_alloc | apply Kd.R_drewN | apply Kd.R_drew)); exact HO830.out) hb); have n1_ := Aside0.mk (Kd.R_lower ho16 (below_size (ke_ HB.out))); have n2_ := Aside0.mk (blk_below (kb0_ BK824.out) hb); have n3_ := Aside0.mk (blk_below (kb0_ BK825.out) hb); have n4_ := Aside0.mk (below_step (ke_ HB.out) hb); clear HO830; clear BK824; clear BK825; clear HB; have HO830 := n0_; have HO833 := n1_; have BK824 := n2_; have BK825 := n3_; have HB := n4_; clear n0_ n1_ n2_ n3_ n4_; clear hb ho16))
    go_loopg [7, 8] kj2 (fun kq v7 v8 w' => ∃ (x7_2 : List Int) (x8_2 : Int), v8 = .int .i64 x8_2 ∧ Aside0 (spec_ClassesAlong.l0 kq t828 x7_2 x8_2 l0_0 l0_1 = some (r1, r2)) ∧ Aside0 (kq ≤ kj2) ∧ Aside0 (Kd.R k44 44 w' w.heap.size (fun _ => True) v829 t828) ∧ Aside0 (Kd.R (Kd.int .i64) 2 w' w.heap.size (fun _ => True) v7 x7_2) ∧ Aside0 (w'.heap[gb824]? = some (.cells #[(.slice A0_0 l0_0.length c0_0), (.slice A0_1 l0_1.length c0_1)] 31 (0, 0))) ∧ Aside0 (w'.heap[gb825]? = some (.cells #[.int .i64 x826000_2, .int .i64 x826001_2, .int .i64 x826002_2, .int .i64 x826003_2, (.slice A1_4 l1_4.length c1_4)] 47 (0, 0))) ∧ Aside0 (Below w.heap.size w w'))
    case atStart => exact ⟨(y831), (0), ks_, H', ⟨Nat.le_refl _⟩, ⟨by (with_reducible repeat (first | apply Kd.R_alloc | apply Kd.R_drewN | apply Kd.R_drew)); exact HO830.out⟩, ⟨by (with_reducible repeat (first | apply Kd.R_alloc | apply Kd.R_drewN | apply Kd.R_drew)); exact HO833.out⟩, ⟨kb0_ BK824.out⟩, ⟨kb0_ BK825.out⟩, ⟨ke_ HB.out⟩⟩
    case round =>
     clear H'; (try clear c1); (try clear p2); (try clear c3); (try clear c4); (try clear c7); (try clear c12); (try clear p2); obtain ⟨x7_2, x8_2, rfl, HA, HK2, HO_6, HO_7, BK824, BK825, HB⟩ := hrel
     cases gk with
     | zero => exact absurd HA.out (by simp [spec_ClassesAlong.l0])
     | succ k2 =>
      have H := HA.out; clear HA; simp only [spec_ClassesAlong.l0] at H
      by_cases c17 : x8_2 < (wrap64 ((t828.length : Int) - 1))
      ·rw [if_pos c17] at H; have c17b0 : decide (x8_2 < (wrap64 ((t828.length : Int) - 1))) = true := decide_eq_true c17; clear c17; replace H := Option.bind_eq_some_iff.mp H; obtain ⟨t834, A180, H⟩ := H; replace H : (if 0 ≤ x8_2 then (if x8_2 < (t828.length : Int) then ((spec_l06Class.f k2 t834 ((rd_T44 t828 x8_2).f1)).bind fun t838 => (if x7_2.length < 17592186044416 then (spec_ClassesAlong.l0 k2 t828 (x7_2 ++ [t838]) (wrap64 (x8_2 + 1)) l0_0 l0_1) else (none))) else (none)) else (none)) = some (r1, r2) := H; have A18 := Aside0.mk A180; clear A180
       by_cases c19 : 0 ≤ x8_2
       ·rw [if_pos c19] at H; have c19b0 : decide (0 ≤ x8_2) = true := decide_eq_true c19; clear c19
        by_cases c20 : x8_2 < (t828.length : Int)
        ·rw [if_pos c20] at H; have c20b0 : decide (x8_2 < (t828.length : Int)) = true := decide_eq_true c20; clear c20; replace H := Option.bind_eq_some_iff.mp H; obtain ⟨t838, A210, H⟩ := H; replace H : (if x7_2.length < 17592186044416 then (spec_ClassesAlong.l0 k2 t828 (x7_2 ++ [t838]) (wrap64 (x8_2 + 1)) l0_0 l0_1) else (none)) = some (r1, r2) := H; have A21 := Aside0.mk A210; clear A210
         by_cases c22 : x7_2.length < 17592186044416
         ·rw [if_pos c22] at H; have LMc22 := Aside0.mk c22; clear c22; obtain ⟨y839, hy839⟩ : ∃ y_ : List Int, y_ = (x7_2 ++ [t838]) := ⟨_, rfl⟩; (replace H : (spec_ClassesAlong.l0 k2 t828 y839 (wrap64 (x8_2 + 1)) l0_0 l0_1) = some (r1, r2) := by first | (rw [hy839]; with_reducible exact H) | (have H2_ := (Option.bind_some _ _).symm.trans H; rw [hy839]; with_reducible exact H2_) | (have H2_ := (Option.bind_some _ _).symm.trans H; with_reducible exact H2_) | with_reducible exact H | (rw [hy839]; exact H) | exact H); have Ny839 := Aside0.mk hy839; clear hy839; have H' := Aside0.mk H; clear H; obtain ⟨Ao23, co23, eo23⟩ := Kd.R_slice HO_6.out; subst eo23; (try go_wp2); have n0_ := Aside0.mk (Kd.R_drew HO_6.out); have n1_ := Aside0.mk (Kd.R_drew HO_7.out); have n2_ := Aside0.mk (blk_drew BK824.out); have n3_ := Aside0.mk (blk_drew BK825.out); have n4_ := Aside0.mk (below_drew1 HB.out); clear HO_6; clear HO_7; clear BK824; clear BK825; clear HB; have HO_6 := n0_; have HO_7 := n1_; have BK824 := n2_; have BK825 := n3_; have HB := n4_; clear n0_ n1_ n2_ n3_ n4_; have p837 : 0 ≤ (x8_2 : Int) := of_decide_eq_true (by assumption); have q837 : x8_2 < (t828.length : Int) := of_decide_eq_true (by assumption); obtain ⟨ad837, e837, hx837_0, hx837_1, hx837_2, hx837_3⟩ := at_T44 (Kd.R_reads' HO_6.out).2.2 x8_2 p837 q837
          cases e837
          replace p837 := eq_true p837; replace q837 := eq_true q837; refine start_ (n := 12) (S := fun w' => w'.cell? (ad837.add ((x8_2).toNat * 4)) = some (.int .i64 ((rd_T44 t828 x8_2).f0)) ∧ w'.cell? ⟨(ad837.add ((x8_2).toNat * 4)).block, (ad837.add ((x8_2).toNat * 4)).off + 1, none⟩ = some (.int .i64 ((rd_T44 t828 x8_2).f1)) ∧ w'.cell? ⟨(ad837.add ((x8_2).toNat * 4)).block, (ad837.add ((x8_2).toNat * 4)).off + 2, none⟩ = some (.int .i64 ((rd_T44 t828 x8_2).f2)) ∧ w'.cell? ⟨(ad837.add ((x8_2).toNat * 4)).block, (ad837.add ((x8_2).toNat * 4)).off + 3, none⟩ = some (.int .i64 ((rd_T44 t828 x8_2).f3))) (ds := [9, 10]) p40_15000 kr_ rfl rfl ⟨hx837_0, hx837_1, hx837_2, hx837_3⟩ (fun hHeld => ?_); refine with_tabW spec_ClassesAlong.tab8 spec_ClassesAlong.bits8 (fun HT_ HW_ => ?_); generalize wr.drew = w24 at HO_6 HO_7 BK824 BK825 HB hx837_0 hx837_1 hx837_2 hx837_3 hHeld ⊢; refine pu1_ 0 (some 24) p40_15001 rfl rfl HT_.out ?_; refine pu1_ 1 (some 25) p40_15002 rfl rfl HT_.out ?_; refine pu1_ 3 (some 27) p40_15003 rfl rfl HT_.out ?_; refine pu1_ 4 (some 28) p40_15004 rfl rfl HT_.out ?_; refine pu1_ 5 (some 29) p40_15005 rfl rfl HT_.out ?_; refine pu1_ 6 (some 30) p40_15006 rfl rfl HT_.out ?_; refine tk4_ 7 (some 31) p40_15007 rfl rfl HT_.out HW_.out hHeld ?_; refine one_ (i := 2) (N := some 26) p40_15008 rfl rfl (one_of HT_.out kr_) (by decide) (fun K hK => ?_); refine goes_ Try.func79 kr_ rfl #[.pointer (some ⟨gb824, 0, none⟩), .int .i64 x8_2] (by rfl) rfl rfl km_ ?_; with_reducible refine (spec_l06At.calls k2 gb824 A0_0 c0_0 l0_0 A0_1 c0_1 l0_1 x8_2 t834 _ ?side1 ?side2 ?side3 ?side4 ?side5 A18.out).mono ?_
          (case side1 => repeat (first | exact (Kd.C_below HR0_0.out HB.out) | (with_reducible first | refine Kd.C_alloc ?_ _ | refine Kd.C_drewN ?_ _ | refine Kd.C_drew ?_)))
          (case side2 => exact HC0_0.out)
          (case side3 => repeat (first | exact (Kd.C_below HR0_1.out HB.out) | (with_reducible first | refine Kd.C_alloc ?_ _ | refine Kd.C_drewN ?_ _ | refine Kd.C_drew ?_)))
          (case side4 => exact HC0_1.out)
          (case side5 => exact (kb0_ BK824.out))
          rintro e w25 ⟨v835, rfl, ho0, hb⟩; have HS0_ := (hb.cell (World.block_lt_of_cell? _ _ (hHeld.1))).trans (hHeld.1); have HS1_ := (hb.cell (World.block_lt_of_cell? _ _ (hHeld.2.1))).trans (hHeld.2.1); have HS2_ := (hb.cell (World.block_lt_of_cell? _ _ (hHeld.2.2.1))).trans (hHeld.2.2.1); have HS3_ := (hb.cell (World.block_lt_of_cell? _ _ (hHeld.2.2.2))).trans (hHeld.2.2.2); refine ⟨_, rfl, ?_⟩; have n0_ := Aside0.mk (Kd.R_below (by (with_reducible repeat (first | apply Kd.R_alloc | apply Kd.R_drewN | apply Kd.R_drew)); exact HO_6.out) hb); have n1_ := Aside0.mk (Kd.R_elder' (by (with_reducible repeat (first | apply Kd.R_alloc | apply Kd.R_drewN | apply Kd.R_drew)); exact HO_7.out) (Kd.R_base ho0) hb); have n2_ := Aside0.mk (Kd.R_lower (Kd.R_new' ho0 (Kd.R_lt (by (with_reducible repeat (first | apply Kd.R_alloc | apply Kd.R_drewN | apply Kd.R_drew)); exact HO_7.out))) (below_size (ke_ HB.out))); have n3_ := Aside0.mk (blk_below (kb0_ BK824.out) hb); have n4_ := Aside0.mk (blk_below (kb0_ BK825.out) hb); have n5_ := Aside0.mk (below_step (ke_ HB.out) hb); clear HO_6; clear HO_7; clear BK824; clear BK825; clear HB; have HO_6 := n0_; have HO_7 := n1_; have HO836 := n2_; have BK824 := n3_; have BK825 := n4_; have HB := n5_; clear n0_ n1_ n2_ n3_ n4_ n5_
          (try clear hb)
          (try clear hb2)
          (try clear hk)
          (try clear hi)
          (try clear ho0)
          obtain ⟨Ao26, co26, eo26⟩ := Kd.R_slice HO836.out
          (first | subst eo26 | (injection eo26 with f1_ f2_ f3_; have f4_ := f1_.symm; have f5_ := f3_.symm; clear f1_ f2_ f3_; subst f4_; subst f5_))
          refine hK.out _ _ ⟨HS0_, HS1_, HS2_, HS3_⟩ (fun hHeld => ?_); clear hK K; refine norm_ (a' := ?_) ?_ ?_; rotate_left
          ·show Act.put _ (some 26) _ = _
           simp only [Act.put, qa_, qz_, qs_, i64_w, i32_w]; rfl
          refine one_ (i := 8) (N := some 32) p40_15009 rfl rfl (one_of HT_.out kr_) (by decide) (fun K hK => ?_); refine goes_ Try.func78 kr_ rfl #[.slice Ao26 t834.length co26, .int .i64 ((rd_T44 t828 x8_2).f1)] (by rfl) rfl rfl km_ ?_; with_reducible refine (spec_l06Class.calls k2 _ _ t834 ((rd_T44 t828 x8_2).f1) t838 _ ?side1 ?side2 A21.out).mono ?_
          (case side1 => repeat (first | exact (Kd.R_reads' HO836.out).2.2 | (with_reducible first | refine Kd.C_alloc ?_ _ | refine Kd.C_drewN ?_ _ | refine Kd.C_drew ?_)))
          (case side2 => exact (Kd.R_reads' HO836.out).2.1)
          rintro e w' ⟨rfl, ⟨nd, rfl⟩⟩; refine ⟨_, rfl, ?_⟩; refine hK.out _ _ ⟨hHeld.1, hHeld.2.1, hHeld.2.2.1, hHeld.2.2.2⟩ (fun hHeld => ?_); clear hK K; refine norm_ (a' := ?_) ?_ ?_; rotate_left
          ·show Act.put _ (some 32) _ = _
           simp only [Act.put, qa_, qz_, qs_, i64_w, i32_w]; rfl
          refine last_ (i := 9) (N := some 33) p40_15010 rfl rfl (one_of HT_.out kr_) (by decide) (fun K hK => ?_); refine value_ (w1 := ?_) (v := ?_) (by rfl) rfl ?_ ?_
          rotate_left 2
          ·go_simp
           constructor
           ·rfl
           ·rfl
          refine hK.out _ _ ?_; clear hK K; refine norm_ (a' := ?_) ?_ ?_; rotate_left
          ·show Act.put _ (some 33) _ = _
           simp only [Act.put, qa_, qz_, qs_, i64_w, i32_w]; rfl
          refine last_ (i := 10) (N := some 34) p40_15011 rfl rfl (one_of HT_.out kr_) (by decide) (fun K hK => ?_); refine Kd.R_append_step (Kd.int .i64) (w0 := w) w.heap.size (by rfl) (.tmp 24) (.tmp 33) 22 2 (.int .i64 0) 8 rfl Try.underlying22 info2 rfl (by decide) (by omega) u7 x7_2 t838 [.int .i64 t838] (fun k_ => some k_ ≠ (.slice Ao26 t834.length co26 : Value).ownBlock) (fun _ => False) rfl rfl ?aP (fun _ hk => hk.elim) ?aF ?aO ?aB ?aS ?aL ?_
          (case aP => exact rfl)
          (case aB => exact (ke_ HB.out))
          (case aF => exact (fun k_ hk => Kd.fresh' (Kd.R_lt (by (with_reducible repeat (first | apply Kd.R_alloc | apply Kd.R_drewN | apply Kd.R_drew)); exact HO836.out)) k_ hk))
          (case aO => exact (by (with_reducible repeat (first | apply Kd.R_alloc | apply Kd.R_drewN | apply Kd.R_drew)); exact Kd.R_mono HO_7.out (fun _ hk => hk.2)))
          (case aS => exact (below_size (ke_ HB.out)))
          (case aL => have := LMc22.out; omega)
          intro v840 w27 ho hb hg hat; rw [← Ny839.out] at ho; have n0_ := Aside0.mk (Kd.R_over' (by (with_reducible repeat (first | apply Kd.R_alloc | apply Kd.R_drewN | apply Kd.R_drew)); exact HO_6.out) (Kd.R_typed (by (with_reducible repeat (first | apply Kd.R_alloc | apply Kd.R_drewN | apply Kd.R_drew)); exact HO_7.out)) (by decide) hg); have n1_ := Aside0.mk (blk_grown (g := gb824) (o := .cells #[.slice A0_0 l0_0.length c0_0, .slice A0_1 l0_1.length c0_1] 31 (0, 0)) (kb0_ BK824.out) hg (Kd.R_ne HO_7.out BK824.out (by decide))); have n2_ := Aside0.mk (blk_grown (g := gb825) (o := .cells #[.int .i64 x826000_2, .int .i64 x826001_2, .int .i64 x826002_2, .int .i64 x826003_2, .slice A1_4 l1_4.length c1_4] 47 (0, 0)) (kb0_ BK825.out) hg (Kd.R_ne HO_7.out BK825.out (by decide))); have n3_ := Aside0.mk (Kd.R_after (ok := (fun _ => True)) (by (with_reducible repeat (first | apply Kd.R_alloc | apply Kd.R_drewN | apply Kd.R_drew)); exact HO836.out) hg hat); have n4_ := Aside0.mk (hb); have n5_ := Aside0.mk (ho); clear HO_6; clear BK824; clear BK825; clear HO836; clear HB; clear HO_7; have HO_6 := n0_; have BK824 := n1_; have BK825 := n2_; have HO836 := n3_; have HB := n4_; have HO841 := n5_; clear n0_ n1_ n2_ n3_ n4_ n5_; clear ho hb hg hat; refine hK.out _ _ ?_; clear hK K; refine norm_ (a' := ?_) ?_ ?_; rotate_left
          ·show Act.put _ (some 34) _ = _
           simp only [Act.put, qa_, qz_, qs_, i64_w, i32_w]; rfl
          refine pu1_ 11 (some 7) p40_15012 rfl rfl HT_.out ?_; refine done_ (done_of HT_.out kr_) ?_; try go_wp2
          go_roundg k2
          case measure => have := HJ2.out; have := HK2.out; omega
          case rel => exact ⟨(y839), (wrap64 (x8_2 + 1)), ks_, H', ⟨by have := HJ2.out; have := HK2.out; omega⟩, ⟨by (with_reducible repeat (first | apply Kd.R_alloc | apply Kd.R_drewN | apply Kd.R_drew)); exact HO_6.out⟩, ⟨by (with_reducible repeat (first | apply Kd.R_alloc | apply Kd.R_drewN | apply Kd.R_drew)); exact Kd.R_mono HO841.out (fun _ hk => trivial)⟩, ⟨kb0_ BK824.out⟩, ⟨kb0_ BK825.out⟩, ⟨ke_ HB.out⟩⟩
         ·rw [if_neg c22] at H; exact absurd H (by simp)
        ·rw [if_neg c20] at H; exact absurd H (by simp)
       ·rw [if_neg c19] at H; exact absurd H (by simp)
      ·rw [if_neg c17] at H; have c17b0 : decide (x8_2 < (wrap64 ((t828.length : Int) - 1))) = false := decide_eq_false c17; clear c17; simp only [Option.some.injEq, Prod.mk.injEq] at H; obtain ⟨rfl, rfl⟩ := H; obtain ⟨Ao28, co28, eo28⟩ := Kd.R_slice HO_6.out; subst eo28
       go_wp2
       go_ret2
       exact ⟨_, by first | rfl | (simp [errW_none, errW_some] <;> rfl) | (simp [*, errW_none, errW_some] <;> rfl) | (simp [tz_, *]; done), by (with_reducible repeat (first | apply Kd.R_alloc | apply Kd.R_drewN | apply Kd.R_drew)); exact HO_7.out, ke_ HB.out⟩


def laws_FnExactClassesAlong.f (k : Nat) (l0_0 : List Int) (l0_1 : List S55) (a1_0 : Int) (a1_1 : Int) (a1_2 : Int) (a1_3 : Int) (l1_4 : List S133) : Option (Bool) :=
 (laws_szGround.f k l0_0 l0_1 1048576).bind fun t0 => if t0 < 0 then some true else
 (laws_szAxis.f a1_0 a1_1 a1_2 a1_3 l1_4 t0).bind fun t1 => if t1 < 0 then some true else
 (laws_toGround.f k l0_0 l0_1).bind fun b0 =>
 (laws_toAxis.f k a1_0 a1_1 a1_2 a1_3 l1_4).bind fun b1 =>
 (spec_ClassesAlong.f k b0.1 b0.2 b1.1 b1.2.1 b1.2.2.1 b1.2.2.2.1 b1.2.2.2.2).bind fun bw => (impl_ClassesAlong.f k b0.1 b0.2 b1.1 b1.2.1 b1.2.2.1 b1.2.2.2.1 b1.2.2.2.2).bind fun bg =>
 (laws_eqInt64S.f k bg.1 bw.1).bind fun te => if te = true then (if bg.2 = bw.2 then (
 (laws_eqGround.f k b0.1 b0.2 b0.1 b0.2).bind fun tq0 => if tq0 = true then (
 (laws_eqAxis.f k b1.1 b1.2.1 b1.2.2.1 b1.2.2.2.1 b1.2.2.2.2 b1.1 b1.2.1 b1.2.2.1 b1.2.2.2.1 b1.2.2.2.2).bind fun tq1 => if tq1 = true then (
 (laws_markGround.f k b0.1 b0.2 1).bind fun bm0 =>
 (laws_markAxis.f k b1.1 b1.2.1 b1.2.2.1 b1.2.2.2.1 b1.2.2.2.2 bm0.1).bind fun bm1 =>
 if bm1.1 < 0 then none else (laws_markInt64S.f k bg.1 1).bind fun bk => (laws_heldInt64S.f k bk.2 1).bind fun th => if th < 0 then none else if th = bk.1 then some true else none
 ) else none) else none) else none) else none
abbrev p41_15000 : Array Bool := (fl_ 10 0).toArray
abbrev p41_15001 : Array Bool := (fl_ 10 1).toArray
abbrev p41_15002 : Array Bool := (fl_ 10 5).toArray
abbrev p41_15003 : Array Bool := (fl_ 10 7).toArray
abbrev p41_15004 : Array Bool := (fl_ 10 15).toArray
abbrev p41_15005 : Array Bool := (fl_ 10 31).toArray
abbrev p41_15006 : Array Bool := (fl_ 10 63).toArray
abbrev p41_15007 : Array Bool := (fl_ 10 127).toArray
abbrev p41_15008 : Array Bool := (fl_ 10 255).toArray
abbrev p41_15009 : Array Bool := (fl_ 10 511).toArray
abbrev p41_15010 : Array Bool := (fl_ 10 1023).toArray
set_option maxHeartbeats 8000000 in
set_option maxRecDepth 100000 in
theorem laws_FnExactClassesAlong.calls (k : Nat) (A0_0 : Option Addr) (c0_0 : Nat) (l0_0 : List Int) (A0_1 : Option Addr) (c0_1 : Nat) (l0_1 : List S55) (a1_0 : Int) (a1_1 : Int) (a1_2 : Int) (a1_3 : Int) (A1_4 : Option Addr) (c1_4 : Nat) (l1_4 : List S133) (r : Bool) (w : World) (hr0_0 : Kd.C (Kd.int .i64) w A0_0 l0_0.length l0_0) (hc0_0 : l0_0.length ≤ c0_0) (hr0_1 : Kd.C k55 w A0_1 l0_1.length l0_1) (hc0_1 : l0_1.length ≤ c0_1) (hr1_4 : Kd.C k133 w A1_4 l1_4.length l1_4) (hc1_4 : l1_4.length ≤ c1_4) (h : laws_FnExactClassesAlong.f k l0_0 l0_1 a1_0 a1_1 a1_2 a1_3 l1_4 = some r) :
  Calls Try.prog 7 #[.agg #[.slice A0_0 l0_0.length c0_0, .slice A0_1 l0_1.length c0_1], .agg #[.int .i64 a1_0, .int .i64 a1_1, .int .i64 a1_2, .int .i64 a1_3, .slice A1_4 l1_4.length c1_4]] w fun e w' => e = .returned (.bool r) ∧ Below w.heap.size w w' := by
 have db : ∀ {w w' : World}, Drawn0 w w' → Below w.heap.size w w' := by
  intro w w' h_; obtain ⟨n_, rfl⟩ := h_; exact pw_below_drewN (Below.refl _ _) _
 have hua0 := Try.underlying25; have hux0 := Try.underlying31; have hua1 := Try.underlying67; have hux1 := Try.underlying47; have HR0_0 := Aside0.mk hr0_0; have HC0_0 := Aside0.mk hc0_0; clear hr0_0 hc0_0; have HR0_1 := Aside0.mk hr0_1; have HC0_1 := Aside0.mk hc0_1; clear hr0_1 hc0_1; have HR1_4 := Aside0.mk hr1_4; have HC1_4 := Aside0.mk hc1_4; clear hr1_4 hc1_4; have HB := Aside0.mk (Below.refl w.heap.size w); unfold laws_FnExactClassesAlong.f at h; replace h := Option.bind_eq_some_iff.mp h; obtain ⟨t0, A_0, h⟩ := h
 by_cases ce : t0 < 0
 ·rw [if_pos ce] at h; obtain rfl := Option.some.inj h; have ceb : decide (t0 < 0) = true := decide_eq_true ce; clear ce h; have Bt0 := Aside0.mk A_0; clear A_0
  go_enter Try.func7, Try.ntmps7
  go_wp2_with (first | ((with_reducible refine gate_dst (N := 2) rfl ?_); refine box_event (by rfl) (N := 2) (by rfl) (cs := #[.slice A0_0 l0_0.length c0_0, .slice A0_1 l0_1.length c0_1]) (t := 25) kg_ ?_; intro ga0 hga0 w1 hbox hb; have BA0 := Aside0.mk hbox; skip; have HB_ := Aside0.mk (below_step HB.out hb); clear hb hbox hga0; clear HB; have HB := HB_; clear HB_; obtain ⟨hcBA00, hcBA01, hfBA00, hfBA01⟩ := cl2_ BA0.out) | ((with_reducible refine gate_dst (N := 3) rfl ?_); refine box_event (by rfl) (N := 3) (by rfl) (cs := #[.int .i64 a1_0, .int .i64 a1_1, .int .i64 a1_2, .int .i64 a1_3, .slice A1_4 l1_4.length c1_4]) (t := 67) kg_ ?_; intro ga1 hga1 w2 hbox hb; have BA1 := Aside0.mk hbox; have NA1BA0 := Aside0.mk ((by rw [hga1]; exact Nat.ne_of_lt (blk_lt BA0.out)) : ga0 ≠ ga1); have HB_ := Aside0.mk (below_step HB.out hb); have BA0_ := Aside0.mk (blk_below BA0.out hb); clear hb hbox hga1; clear HB BA0; have HB := HB_; have BA0 := BA0_; clear HB_ BA0_; clear hcBA00 hfBA00 hcBA01 hfBA01; obtain ⟨hcBA00, hcBA01, hfBA00, hfBA01⟩ := cl2_ BA0.out; obtain ⟨hcBA10, hcBA11, hcBA12, hcBA13, hcBA14, hfBA10, hfBA11, hfBA12, hfBA13, hfBA14⟩ := cl5_ BA1.out) | (go_at_call 10; (with_reducible refine (laws_szGround.calls k A0_0 c0_0 l0_0 A0_1 c0_1 l0_1 1048576 t0 _ (Kd.C_below HR0_0.out HB.out) HC0_0.out (Kd.C_below HR0_1.out HB.out) HC0_1.out Bt0.out).mono ?_); rintro e w3 ⟨rfl, hb⟩; have HB_ := Aside0.mk (below_step HB.out hb); have BA0_ := Aside0.mk (blk_below BA0.out hb); have BA1_ := Aside0.mk (blk_below BA1.out hb); clear hb; clear HB BA0 BA1; have HB := HB_; have BA0 := BA0_; have BA1 := BA1_; clear HB_ BA0_ BA1_; clear hcBA00 hfBA00 hcBA01 hfBA01 hcBA10 hfBA10 hcBA11 hfBA11 hcBA12 hfBA12 hcBA13 hfBA13 hcBA14 hfBA14; obtain ⟨hcBA00, hcBA01, hfBA00, hfBA01⟩ := cl2_ BA0.out; obtain ⟨hcBA10, hcBA11, hcBA12, hcBA13, hcBA14, hfBA10, hfBA11, hfBA12, hfBA13, hfBA14⟩ := cl5_ BA1.out))
  go_ret
  exact ⟨by first | rfl | (simp; done) | (simp [*]; done) | (simp [tz_, *]; done), kh0_ HB.out⟩
 ·rw [if_neg ce] at h; have cebt0 : decide (t0 < 0) = false := decide_eq_false ce; clear ce; replace h := Option.bind_eq_some_iff.mp h; obtain ⟨t1, A_1, h⟩ := h
  by_cases ce : t1 < 0
  ·rw [if_pos ce] at h; obtain rfl := Option.some.inj h; have ceb : decide (t1 < 0) = true := decide_eq_true ce; clear ce h; have Bt0 := Aside0.mk A_0; clear A_0; have Bt1 := Aside0.mk A_1; clear A_1
   go_enter Try.func7, Try.ntmps7
   go_wp2_with (first | ((with_reducible refine gate_dst (N := 2) rfl ?_); refine box_event (by rfl) (N := 2) (by rfl) (cs := #[.slice A0_0 l0_0.length c0_0, .slice A0_1 l0_1.length c0_1]) (t := 25) kg_ ?_; intro ga0 hga0 w1 hbox hb; have BA0 := Aside0.mk hbox; skip; have HB_ := Aside0.mk (below_step HB.out hb); clear hb hbox hga0; clear HB; have HB := HB_; clear HB_; obtain ⟨hcBA00, hcBA01, hfBA00, hfBA01⟩ := cl2_ BA0.out) | ((with_reducible refine gate_dst (N := 3) rfl ?_); refine box_event (by rfl) (N := 3) (by rfl) (cs := #[.int .i64 a1_0, .int .i64 a1_1, .int .i64 a1_2, .int .i64 a1_3, .slice A1_4 l1_4.length c1_4]) (t := 67) kg_ ?_; intro ga1 hga1 w2 hbox hb; have BA1 := Aside0.mk hbox; have NA1BA0 := Aside0.mk ((by rw [hga1]; exact Nat.ne_of_lt (blk_lt BA0.out)) : ga0 ≠ ga1); have HB_ := Aside0.mk (below_step HB.out hb); have BA0_ := Aside0.mk (blk_below BA0.out hb); clear hb hbox hga1; clear HB BA0; have HB := HB_; have BA0 := BA0_; clear HB_ BA0_; clear hcBA00 hfBA00 hcBA01 hfBA01; obtain ⟨hcBA00, hcBA01, hfBA00, hfBA01⟩ := cl2_ BA0.out; obtain ⟨hcBA10, hcBA11, hcBA12, hcBA13, hcBA14, hfBA10, hfBA11, hfBA12, hfBA13, hfBA14⟩ := cl5_ BA1.out) | (go_at_call 10; (with_reducible refine (laws_szGround.calls k A0_0 c0_0 l0_0 A0_1 c0_1 l0_1 1048576 t0 _ (Kd.C_below HR0_0.out HB.out) HC0_0.out (Kd.C_below HR0_1.out HB.out) HC0_1.out Bt0.out).mono ?_); rintro e w3 ⟨rfl, hb⟩; have HB_ := Aside0.mk (below_step HB.out hb); have BA0_ := Aside0.mk (blk_below BA0.out hb); have BA1_ := Aside0.mk (blk_below BA1.out hb); clear hb; clear HB BA0 BA1; have HB := HB_; have BA0 := BA0_; have BA1 := BA1_; clear HB_ BA0_ BA1_; clear hcBA00 hfBA00 hcBA01 hfBA01 hcBA10 hfBA10 hcBA11 hfBA11 hcBA12 hfBA12 hcBA13 hfBA13 hcBA14 hfBA14; obtain ⟨hcBA00, hcBA01, hfBA00, hfBA01⟩ := cl2_ BA0.out; obtain ⟨hcBA10, hcBA11, hcBA12, hcBA13, hcBA14, hfBA10, hfBA11, hfBA12, hfBA13, hfBA14⟩ := cl5_ BA1.out) | (go_at_call 38; (with_reducible refine (laws_szAxis.calls a1_0 a1_1 a1_2 a1_3 A1_4 c1_4 l1_4 t0 t1 _ (Kd.C_below HR1_4.out HB.out) HC1_4.out Bt1.out).mono ?_); rintro e w4 ⟨rfl, hb⟩; have HB_ := Aside0.mk (below_step HB.out hb); have BA0_ := Aside0.mk (blk_below BA0.out hb); have BA1_ := Aside0.mk (blk_below BA1.out hb); clear hb; clear HB BA0 BA1; have HB := HB_; have BA0 := BA0_; have BA1 := BA1_; clear HB_ BA0_ BA1_; clear hcBA00 hfBA00 hcBA01 hfBA01 hcBA10 hfBA10 hcBA11 hfBA11 hcBA12 hfBA12 hcBA13 hfBA13 hcBA14 hfBA14; obtain ⟨hcBA00, hcBA01, hfBA00, hfBA01⟩ := cl2_ BA0.out; obtain ⟨hcBA10, hcBA11, hcBA12, hcBA13, hcBA14, hfBA10, hfBA11, hfBA12, hfBA13, hfBA14⟩ := cl5_ BA1.out))
   go_ret
   exact ⟨by first | rfl | (simp; done) | (simp [*]; done) | (simp [tz_, *]; done), kh0_ HB.out⟩
  ·rw [if_neg ce] at h; have cebt1 : decide (t1 < 0) = false := decide_eq_false ce; clear ce; replace h := Option.bind_eq_some_iff.mp h; obtain ⟨⟨x0_0, x0_1⟩, AT0, h⟩ := h; replace h := Option.bind_eq_some_iff.mp h; obtain ⟨⟨x1_0, x1_1, x1_2, x1_3, x1_4⟩, AT1, h⟩ := h; replace h := Option.bind_eq_some_iff.mp h; obtain ⟨⟨s0, s1⟩, AW, h⟩ := h; replace h := Option.bind_eq_some_iff.mp h; obtain ⟨⟨g0, g1⟩, AG, h⟩ := h; replace h := Option.bind_eq_some_iff.mp h; obtain ⟨te, AE, h⟩ := h; dsimp only at AW AG AE h; (have h5 : te = true := by by_cases c : te = true; exact c; rw [if_neg c] at h; exact absurd h (by simp)); rw [if_pos h5] at h; subst h5; (have c6 : g1 = s1 := by by_cases c : g1 = s1; exact c; rw [if_neg c] at h; exact absurd h (by simp)); rw [if_pos c6] at h; (have cAg1 : (g1 != s1) = false := by simpa using c6); (have cBg1 : decide (g1 = s1) = true := by simpa using c6); (have cCg1 : (g1 == s1) = true := by simpa using c6); clear c6; replace h := Option.bind_eq_some_iff.mp h; obtain ⟨tq0, AQ0, h⟩ := h; (have h5 : tq0 = true := by by_cases c : tq0 = true; exact c; rw [if_neg c] at h; exact absurd h (by simp)); rw [if_pos h5] at h; subst h5; replace h := Option.bind_eq_some_iff.mp h; obtain ⟨tq1, AQ1, h⟩ := h; (have h5 : tq1 = true := by by_cases c : tq1 = true; exact c; rw [if_neg c] at h; exact absurd h (by simp)); rw [if_pos h5] at h; subst h5; replace h := Option.bind_eq_some_iff.mp h; obtain ⟨⟨q0, m0_0, m0_1⟩, AM0, h⟩ := h; dsimp only at h; replace h := Option.bind_eq_some_iff.mp h; obtain ⟨⟨q1, m1_0⟩, AM1, h⟩ := h; dsimp only at h; (have c8 : ¬ q1 < 0 := by intro c; rw [if_pos c] at h; exact absurd h (by simp)); rw [if_neg c8] at h; have c8b0 : decide (q1 < 0) = false := decide_eq_false c8; clear c8; replace h := Option.bind_eq_some_iff.mp h; obtain ⟨⟨qk, lk⟩, AK, h⟩ := h; replace h := Option.bind_eq_some_iff.mp h; obtain ⟨th, AH, h⟩ := h; dsimp only at AH h; (try dsimp only at AM1); (have c11 : ¬ th < 0 := by intro c; rw [if_pos c] at h; exact absurd h (by simp)); rw [if_neg c11] at h; have c11b0 : decide (th < 0) = false := decide_eq_false c11; clear c11; (have c12 : th = qk := by by_cases c : th = qk; exact c; rw [if_neg c] at h; exact absurd h (by simp)); rw [if_pos c12] at h; have hr := Option.some.inj h; clear h; subst c12; subst hr; have Bt0 := Aside0.mk A_0; clear A_0; have Bt1 := Aside0.mk A_1; clear A_1; have BT0 := Aside0.mk AT0; clear AT0; have BT1 := Aside0.mk AT1; clear AT1; have BW := Aside0.mk AW; clear AW; have BG := Aside0.mk AG; clear AG; have BE := Aside0.mk AE; clear AE; have BQ0 := Aside0.mk AQ0; clear AQ0; have BQ1 := Aside0.mk AQ1; clear AQ1; have BM0 := Aside0.mk AM0; clear AM0; have BM1 := Aside0.mk AM1; clear AM1; have BK := Aside0.mk AK; clear AK; have BH := Aside0.mk AH; clear AH; have DB := Aside0.mk @db; clear db
   go_enter Try.func7, Try.ntmps7
   go_wp2_with (first | ((with_reducible refine gate_dst (N := 2) rfl ?_); refine box_event (by rfl) (N := 2) (by rfl) (cs := #[.slice A0_0 l0_0.length c0_0, .slice A0_1 l0_1.length c0_1]) (t := 25) kg_ ?_; intro ga0 hga0 w1 hbox hb; have BA0 := Aside0.mk hbox; skip; have HB_ := Aside0.mk (below_step HB.out hb); clear hb hbox hga0; clear HB; have HB := HB_; clear HB_; obtain ⟨hcBA00, hcBA01, hfBA00, hfBA01⟩ := cl2_ BA0.out) | ((with_reducible refine gate_dst (N := 3) rfl ?_); refine box_event (by rfl) (N := 3) (by rfl) (cs := #[.int .i64 a1_0, .int .i64 a1_1, .int .i64 a1_2, .int .i64 a1_3, .slice A1_4 l1_4.length c1_4]) (t := 67) kg_ ?_; intro ga1 hga1 w2 hbox hb; have BA1 := Aside0.mk hbox; have NA1BA0 := Aside0.mk ((by rw [hga1]; exact Nat.ne_of_lt (blk_lt BA0.out)) : ga0 ≠ ga1); have HB_ := Aside0.mk (below_step HB.out hb); have BA0_ := Aside0.mk (blk_below BA0.out hb); clear hb hbox hga1; clear HB BA0; have HB := HB_; have BA0 := BA0_; clear HB_ BA0_; clear hcBA00 hfBA00 hcBA01 hfBA01; obtain ⟨hcBA00, hcBA01, hfBA00, hfBA01⟩ := cl2_ BA0.out; obtain ⟨hcBA10, hcBA11, hcBA12, hcBA13, hcBA14, hfBA10, hfBA11, hfBA12, hfBA13, hfBA14⟩ := cl5_ BA1.out) | (go_at_call 10; (with_reducible refine (laws_szGround.calls k A0_0 c0_0 l0_0 A0_1 c0_1 l0_1 1048576 t0 _ (Kd.C_below HR0_0.out HB.out) HC0_0.out (Kd.C_below HR0_1.out HB.out) HC0_1.out Bt0.out).mono ?_); rintro e w3 ⟨rfl, hb⟩; have HB_ := Aside0.mk (below_step HB.out hb); have BA0_ := Aside0.mk (blk_below BA0.out hb); have BA1_ := Aside0.mk (blk_below BA1.out hb); clear hb; clear HB BA0 BA1; have HB := HB_; have BA0 := BA0_; have BA1 := BA1_; clear HB_ BA0_ BA1_; clear hcBA00 hfBA00 hcBA01 hfBA01 hcBA10 hfBA10 hcBA11 hfBA11 hcBA12 hfBA12 hcBA13 hfBA13 hcBA14 hfBA14; obtain ⟨hcBA00, hcBA01, hfBA00, hfBA01⟩ := cl2_ BA0.out; obtain ⟨hcBA10, hcBA11, hcBA12, hcBA13, hcBA14, hfBA10, hfBA11, hfBA12, hfBA13, hfBA14⟩ := cl5_ BA1.out) | (go_at_call 38; (with_reducible refine (laws_szAxis.calls a1_0 a1_1 a1_2 a1_3 A1_4 c1_4 l1_4 t0 t1 _ (Kd.C_below HR1_4.out HB.out) HC1_4.out Bt1.out).mono ?_); rintro e w4 ⟨rfl, hb⟩; have HB_ := Aside0.mk (below_step HB.out hb); have BA0_ := Aside0.mk (blk_below BA0.out hb); have BA1_ := Aside0.mk (blk_below BA1.out hb); clear hb; clear HB BA0 BA1; have HB := HB_; have BA0 := BA0_; have BA1 := BA1_; clear HB_ BA0_ BA1_; clear hcBA00 hfBA00 hcBA01 hfBA01 hcBA10 hfBA10 hcBA11 hfBA11 hcBA12 hfBA12 hcBA13 hfBA13 hcBA14 hfBA14; obtain ⟨hcBA00, hcBA01, hfBA00, hfBA01⟩ := cl2_ BA0.out; obtain ⟨hcBA10, hcBA11, hcBA12, hcBA13, hcBA14, hfBA10, hfBA11, hfBA12, hfBA13, hfBA14⟩ := cl5_ BA1.out))
   (try go_wp2); have BA0_ := Aside0.mk (blk_drew BA0.out); have BA1_ := Aside0.mk (blk_drew BA1.out); have HB_ := Aside0.mk (below_drew1 HB.out); clear BA0 BA1 HB; have BA0 := BA0_; have BA1 := BA1_; have HB := HB_; clear BA0_ BA1_ HB_; clear hcBA00 hfBA00 hcBA01 hfBA01 hcBA10 hfBA10 hcBA11 hfBA11 hcBA12 hfBA12 hcBA13 hfBA13 hcBA14 hfBA14; refine start_ (n := 10) (S := fun w' => w'.cell? ⟨ga0, 0, none⟩ = some (.slice A0_0 l0_0.length c0_0) ∧ w'.cell? ⟨ga0, 1, none⟩ = some (.slice A0_1 l0_1.length c0_1) ∧ w'.cell? ⟨ga1, 0, none⟩ = some (.int .i64 a1_0) ∧ w'.cell? ⟨ga1, 1, none⟩ = some (.int .i64 a1_1) ∧ w'.cell? ⟨ga1, 2, none⟩ = some (.int .i64 a1_2) ∧ w'.cell? ⟨ga1, 3, none⟩ = some (.int .i64 a1_3) ∧ w'.cell? ⟨ga1, 4, none⟩ = some (.slice A1_4 l1_4.length c1_4)) (ds := []) p41_15000 kr_ rfl rfl ⟨(blk_cell BA0.out 0).trans rfl, (blk_cell BA0.out 1).trans rfl, (blk_cell BA1.out 0).trans rfl, (blk_cell BA1.out 1).trans rfl, (blk_cell BA1.out 2).trans rfl, (blk_cell BA1.out 3).trans rfl, (blk_cell BA1.out 4).trans rfl⟩ (fun hHeld => ?_); generalize w4.drew = w5 at BA0 BA1 HB hHeld ⊢; refine take_ (i := 0) (N := some 28) (v := ?_) (a' := ?_) p41_15001 rfl rfl kr_ (fun _ _ _ h => h) (Or.inl ⟨by rfl, ?_⟩) hHeld ?_ ?_; rotate_left
   ·rintro w' ⟨s0_, s1_, s2_, s3_, s4_, s5_, s6_⟩; go_simp; with_reducible rfl
   rotate_left
   ·simp only [Act.put, qa_, qz_, qs_, i64_w, i32_w]; rfl
   refine take_ (i := 2) (N := some 30) (v := ?_) (a' := ?_) p41_15002 rfl rfl kr_ (fun _ _ _ h => h) (Or.inl ⟨by rfl, ?_⟩) hHeld ?_ ?_; rotate_left
   ·rintro w' ⟨s0_, s1_, s2_, s3_, s4_, s5_, s6_⟩; go_simp; with_reducible rfl
   rotate_left
   ·simp only [Act.put, qa_, qz_, qs_, i64_w, i32_w]; rfl
   refine one_ (i := 1) (N := some 29) p41_15003 rfl rfl kr_ (by decide) (fun K hK => ?_); refine goes_ Try.func12 kr_ rfl #[.agg #[.slice A0_0 l0_0.length c0_0, .slice A0_1 l0_1.length c0_1]] (by rfl) rfl rfl (by (try simp only [List.map_toArray, List.map_cons, List.map_nil]); first | done | rfl | (simp only [List.length_drop, List.length_take]; rfl)) ?_
   (with_reducible refine (laws_toGround.calls k A0_0 c0_0 l0_0 A0_1 c0_1 l0_1 x0_0 x0_1 _ (Kd.C_below HR0_0.out HB.out) HC0_0.out (Kd.C_below HR0_1.out HB.out) HC0_1.out BT0.out).mono ?_)
   rintro e w6 ⟨v0, v1, rfl, ho0, ho1, hb⟩; refine ⟨_, rfl, ?_⟩; have HX0_0 := Aside0.mk ho0; have HX0_1 := Aside0.mk ho1; have HB_ := Aside0.mk (below_step HB.out hb); have BA0_ := Aside0.mk (blk_below BA0.out hb); have BA1_ := Aside0.mk (blk_below BA1.out hb); clear hb ho0 ho1; clear HB BA0 BA1; have HB := HB_; have BA0 := BA0_; have BA1 := BA1_; clear HB_ BA0_ BA1_; obtain ⟨hcBA00, hcBA01, hfBA00, hfBA01⟩ := cl2_ BA0.out; obtain ⟨hcBA10, hcBA11, hcBA12, hcBA13, hcBA14, hfBA10, hfBA11, hfBA12, hfBA13, hfBA14⟩ := cl5_ BA1.out; clear hcBA00 hfBA00 hcBA01 hfBA01 hcBA10 hfBA10 hcBA11 hfBA11 hcBA12 hfBA12 hcBA13 hfBA13 hcBA14 hfBA14; obtain ⟨Ar0_0, cr0_0, er0_0⟩ := Kd.R_slice HX0_0.out; subst er0_0; obtain ⟨Ar0_1, cr0_1, er0_1⟩ := Kd.S_slice HX0_1.out; subst er0_1; refine hK.out _ _ ⟨(blk_cell BA0.out 0).trans rfl, (blk_cell BA0.out 1).trans rfl, (blk_cell BA1.out 0).trans rfl, (blk_cell BA1.out 1).trans rfl, (blk_cell BA1.out 2).trans rfl, (blk_cell BA1.out 3).trans rfl, (blk_cell BA1.out 4).trans rfl⟩ (fun hHeld => ?_); clear hK K; refine norm_ (a' := ?_) ?_ ?_; rotate_left
   ·show Act.put _ (some 29) _ = _
    simp only [Act.put, qa_, qz_, qs_, i64_w, i32_w]; rfl
   refine one_ (i := 3) (N := some 31) p41_15004 rfl rfl kr_ (by decide) (fun K hK => ?_); refine goes_ Try.func40 kr_ rfl #[.agg #[.int .i64 a1_0, .int .i64 a1_1, .int .i64 a1_2, .int .i64 a1_3, .slice A1_4 l1_4.length c1_4]] (by rfl) rfl rfl (by (try simp only [List.map_toArray, List.map_cons, List.map_nil]); first | done | rfl | (simp only [List.length_drop, List.length_take]; rfl)) ?_
   (with_reducible refine (laws_toAxis.calls k a1_0 a1_1 a1_2 a1_3 A1_4 c1_4 l1_4 x1_0 x1_1 x1_2 x1_3 x1_4 _ (Kd.C_below HR1_4.out HB.out) HC1_4.out BT1.out).mono ?_)
   rintro e w7 ⟨v0, rfl, ho0, hb⟩; refine ⟨_, rfl, ?_⟩; have HX1_4 := Aside0.mk ho0; have HB_ := Aside0.mk (below_step HB.out hb); have BA0_ := Aside0.mk (blk_below BA0.out hb); have BA1_ := Aside0.mk (blk_below BA1.out hb); have HX0_0_ := Aside0.mk (Kd.R_below HX0_0.out hb); have HX0_1_ := Aside0.mk (Kd.S_below HX0_1.out hb); clear hb ho0; clear HB BA0 BA1 HX0_0 HX0_1; have HB := HB_; have BA0 := BA0_; have BA1 := BA1_; have HX0_0 := HX0_0_; have HX0_1 := HX0_1_; clear HB_ BA0_ BA1_ HX0_0_ HX0_1_; obtain ⟨hcBA00, hcBA01, hfBA00, hfBA01⟩ := cl2_ BA0.out; obtain ⟨hcBA10, hcBA11, hcBA12, hcBA13, hcBA14, hfBA10, hfBA11, hfBA12, hfBA13, hfBA14⟩ := cl5_ BA1.out; clear hcBA00 hfBA00 hcBA01 hfBA01 hcBA10 hfBA10 hcBA11 hfBA11 hcBA12 hfBA12 hcBA13 hfBA13 hcBA14 hfBA14; obtain ⟨Ar1_4, cr1_4, er1_4⟩ := Kd.R_slice HX1_4.out; subst er1_4; refine hK.out _ _ ⟨(blk_cell BA0.out 0).trans rfl, (blk_cell BA0.out 1).trans rfl, (blk_cell BA1.out 0).trans rfl, (blk_cell BA1.out 1).trans rfl, (blk_cell BA1.out 2).trans rfl, (blk_cell BA1.out 3).trans rfl, (blk_cell BA1.out 4).trans rfl⟩ (fun hHeld => ?_); clear hK K; refine norm_ (a' := ?_) ?_ ?_; rotate_left
   ·show Act.put _ (some 31) _ = _
    simp only [Act.put, qa_, qz_, qs_, i64_w, i32_w]; rfl
   refine one_ (i := 4) (N := some 32) p41_15005 rfl rfl kr_ (by decide) (fun K hK => ?_); refine goes_ Try.func39 kr_ rfl #[.agg #[.slice Ar0_0 x0_0.length cr0_0, .slice Ar0_1 x0_1.length cr0_1], .agg #[.int .i64 x1_0, .int .i64 x1_1, .int .i64 x1_2, .int .i64 x1_3, .slice Ar1_4 x1_4.length cr1_4]] (by rfl) rfl rfl (by (try simp only [List.map_toArray, List.map_cons, List.map_nil]); first | done | rfl | (simp only [List.length_drop, List.length_take]; rfl)) ?_
   (with_reducible refine (spec_ClassesAlong.calls k Ar0_0 cr0_0 x0_0 Ar0_1 cr0_1 x0_1 x1_0 x1_1 x1_2 x1_3 Ar1_4 cr1_4 x1_4 s0 s1 _ (Kd.R_reads' HX0_0.out).2.2 (Kd.R_reads' HX0_0.out).2.1 (Kd.S_reads' HX0_1.out).2.2 (Kd.S_reads' HX0_1.out).2.1 (Kd.R_reads' HX1_4.out).2.2 (Kd.R_reads' HX1_4.out).2.1 BW.out).mono ?_)
   rintro e w8 ⟨v0, rfl, ho, hb⟩; refine ⟨_, rfl, ?_⟩; have HO := Aside0.mk ho; have HB_ := Aside0.mk (below_step HB.out hb); have BA0_ := Aside0.mk (blk_below BA0.out hb); have BA1_ := Aside0.mk (blk_below BA1.out hb); clear hb ho HX0_0 HX0_1 HX1_4; clear HB BA0 BA1; have HB := HB_; have BA0 := BA0_; have BA1 := BA1_; clear HB_ BA0_ BA1_; obtain ⟨hcBA00, hcBA01, hfBA00, hfBA01⟩ := cl2_ BA0.out; obtain ⟨hcBA10, hcBA11, hcBA12, hcBA13, hcBA14, hfBA10, hfBA11, hfBA12, hfBA13, hfBA14⟩ := cl5_ BA1.out; clear hcBA00 hfBA00 hcBA01 hfBA01 hcBA10 hfBA10 hcBA11 hfBA11 hcBA12 hfBA12 hcBA13 hfBA13 hcBA14 hfBA14; refine hK.out _ _ ⟨(blk_cell BA0.out 0).trans rfl, (blk_cell BA0.out 1).trans rfl, (blk_cell BA1.out 0).trans rfl, (blk_cell BA1.out 1).trans rfl, (blk_cell BA1.out 2).trans rfl, (blk_cell BA1.out 3).trans rfl, (blk_cell BA1.out 4).trans rfl⟩ (fun hHeld => ?_); clear hK K; refine norm_ (a' := ?_) ?_ ?_; rotate_left
   ·show Act.put _ (some 32) _ = _
    simp only [Act.put, qa_, qz_, qs_, i64_w, i32_w]; rfl
   refine pure_ (i := 5) (N := some 27) (v := ?_) (a' := ?_) p41_15006 rfl rfl kr_ (fun _ _ _ h => h) (Or.inl ⟨by rfl, ?_⟩) ?_ ?_; rotate_left
   ·intro w'; go_simp; with_reducible rfl
   rotate_left
   ·simp only [Act.put, qa_, qz_, qs_, i64_w, i32_w]; rfl
   refine pure_ (i := 6) (N := some 33) (v := ?_) (a' := ?_) p41_15007 rfl rfl kr_ (fun _ _ _ h => h) (Or.inl ⟨by rfl, ?_⟩) ?_ ?_; rotate_left
   ·intro w'; go_simp; with_reducible rfl
   rotate_left
   ·simp only [Act.put, qa_, qz_, qs_, i64_w, i32_w]; rfl
   refine pure_ (i := 7) (N := some 34) (v := ?_) (a' := ?_) p41_15008 rfl rfl kr_ (fun _ _ _ h => h) (Or.inl ⟨by rfl, ?_⟩) ?_ ?_; rotate_left
   ·intro w'; go_simp; with_reducible rfl
   rotate_left
   ·simp only [Act.put, qa_, qz_, qs_, i64_w, i32_w]; rfl
   refine pure_ (i := 8) (N := some 6) (v := ?_) (a' := ?_) p41_15009 rfl rfl kr_ (fun _ _ _ h => h) (Or.inl ⟨by rfl, ?_⟩) ?_ ?_; rotate_left
   ·intro w'; go_simp; with_reducible rfl
   rotate_left
   ·simp only [Act.put, qa_, qz_, qs_, i64_w, i32_w]; rfl
   refine pure_ (i := 9) (N := some 7) (v := ?_) (a' := ?_) p41_15010 rfl rfl kr_ (fun _ _ _ h => h) (Or.inl ⟨by rfl, ?_⟩) ?_ ?_; rotate_left
   ·intro w'; go_simp; with_reducible rfl
   rotate_left
   ·simp only [Act.put, qa_, qz_, qs_, i64_w, i32_w]; rfl
   refine done_ kr_ ?_; obtain ⟨hcBA00, hcBA01, hfBA00, hfBA01⟩ := cl2_ BA0.out; obtain ⟨hcBA10, hcBA11, hcBA12, hcBA13, hcBA14, hfBA10, hfBA11, hfBA12, hfBA13, hfBA14⟩ := cl5_ BA1.out; obtain ⟨As, cs, es⟩ := Kd.R_slice HO.out; subst es; have HS := Aside0.mk (Kd.R_mono (ok' := fun q => q < w8.heap.size) (Kd.R_bound HO.out) (fun q hq => hq.2.2.1)); clear HO; have HA_ := Aside0.mk HB.out.size; have HA0 := Aside0.mk (blk_lt BA0.out); have HA1 := Aside0.mk (blk_lt BA1.out); have N0 := Aside0.mk HB.out.size
   go_wp2_with (first | (go_at_call 12; (with_reducible refine (laws_toGround.calls k A0_0 c0_0 l0_0 A0_1 c0_1 l0_1 x0_0 x0_1 _ (Kd.C_below HR0_0.out HB.out) HC0_0.out (Kd.C_below HR0_1.out HB.out) HC0_1.out BT0.out).mono ?_); rintro e w9 ⟨v0, v1, rfl, ho0, ho1, hb⟩; have HX0_0 := Aside0.mk ho0; have HX0_1 := Aside0.mk ho1; have Z1 := Aside0.mk (hb.size); have HB_ := Aside0.mk (below_step HB.out hb); have BA0_ := Aside0.mk (blk_below BA0.out hb); have BA1_ := Aside0.mk (blk_below BA1.out hb); have HS_ := Aside0.mk (Kd.R_below HS.out hb); clear hb ho0 ho1; clear HB BA0 BA1 HS; have HB := HB_; have BA0 := BA0_; have BA1 := BA1_; have HS := HS_; clear HB_ BA0_ BA1_ HS_; clear hcBA00 hfBA00 hcBA01 hfBA01 hcBA10 hfBA10 hcBA11 hfBA11 hcBA12 hfBA12 hcBA13 hfBA13 hcBA14 hfBA14; obtain ⟨hcBA00, hcBA01, hfBA00, hfBA01⟩ := cl2_ BA0.out; obtain ⟨hcBA10, hcBA11, hcBA12, hcBA13, hcBA14, hfBA10, hfBA11, hfBA12, hfBA13, hfBA14⟩ := cl5_ BA1.out; obtain ⟨Ax0_0, cx0_0, ex0_0⟩ := Kd.R_slice HX0_0.out; subst ex0_0; obtain ⟨Ax0_1, cx0_1, ex0_1⟩ := Kd.S_slice HX0_1.out; subst ex0_1; have HY0_0 := Aside0.mk (Kd.R_mono (ok' := (fun q => (w8.heap.size ≤ q ∧ q < w9.heap.size) ∧ some q = (.slice Ax0_0 x0_0.length cx0_0 : Value).ownBlock)) (Kd.R_bound (Kd.R_tight2 rfl HX0_0.out)) (fun q hq => ⟨⟨hq.2.1, hq.2.2.1⟩, hq.1.1⟩)); have HY0_1 := Aside0.mk (Kd.S_mono (ok' := (fun q => (w8.heap.size ≤ q ∧ q < w9.heap.size) ∧ some q ≠ (.slice Ax0_0 x0_0.length cx0_0 : Value).ownBlock)) (Kd.S_bound HX0_1.out) (fun q hq => ⟨⟨hq.2.1, hq.2.2.1⟩, hq.1⟩)); clear HX0_0 HX0_1) | ((with_reducible refine gate_dst (N := 8) rfl ?_); refine box_event (by rfl) (N := 8) (by rfl) (cs := #[.slice none 0 0, .slice none 0 0]) (t := 31) kg_ ?_; intro gx0 hgx w10 hbox hb; have NX0BA0 := Aside0.mk ((by rw [hgx]; exact Nat.ne_of_lt (blk_lt BA0.out)) : ga0 ≠ gx0); have NX0BA1 := Aside0.mk ((by rw [hgx]; exact Nat.ne_of_lt (blk_lt BA1.out)) : ga1 ≠ gx0); have GX0 := Aside0.mk ((by rw [hgx]; exact Nat.le_refl _) : w9.heap.size ≤ gx0); have GY0 := Aside0.mk ((blk_lt hbox) : gx0 < w10.heap.size); have BX0 := Aside0.mk hbox; have HB_ := Aside0.mk (below_step HB.out hb); have BA0_ := Aside0.mk (blk_below BA0.out hb); have BA1_ := Aside0.mk (blk_below BA1.out hb); have HS_ := Aside0.mk (Kd.R_below HS.out hb); have HY0_0_ := Aside0.mk (Kd.R_below HY0_0.out hb); have HY0_1_ := Aside0.mk (Kd.S_below HY0_1.out hb); clear hb hbox hgx; clear HB BA0 BA1 HS HY0_0 HY0_1; have HB := HB_; have BA0 := BA0_; have BA1 := BA1_; have HS := HS_; have HY0_0 := HY0_0_; have HY0_1 := HY0_1_; clear HB_ BA0_ BA1_ HS_ HY0_0_ HY0_1_; clear hcBA00 hfBA00 hcBA01 hfBA01 hcBA10 hfBA10 hcBA11 hfBA11 hcBA12 hfBA12 hcBA13 hfBA13 hcBA14 hfBA14; obtain ⟨hcBA00, hcBA01, hfBA00, hfBA01⟩ := cl2_ BA0.out; obtain ⟨hcBA10, hcBA11, hcBA12, hcBA13, hcBA14, hfBA10, hfBA11, hfBA12, hfBA13, hfBA14⟩ := cl5_ BA1.out; have hcBX00 : w10.cell? ⟨gx0, 0, none⟩ = some (.slice none 0 0) := (blk_cell BX0.out 0).trans rfl; have hfBX00 := blk_frozen BX0.out 0; have hcBX01 : w10.cell? ⟨gx0, 1, none⟩ = some (.slice none 0 0) := (blk_cell BX0.out 1).trans rfl; have hfBX01 := blk_frozen BX0.out 1; have hn0BA0 := NX0BA0.out; have hn0BA1 := NX0BA1.out; have hm0BA0 := NX0BA0.out.symm; have hm0BA1 := NX0BA1.out.symm))
   have HB_ : Aside0 (Below w.heap.size w ((w10.setCell ⟨gx0, 0, none⟩ (.slice Ax0_0 x0_0.length cx0_0)).setCell ⟨gx0, 1, none⟩ (.slice Ax0_1 x0_1.length cx0_1))) := Aside0.mk (below_set (j := 1) (v := .slice Ax0_1 x0_1.length cx0_1) (below_set (j := 0) (v := .slice Ax0_0 x0_0.length cx0_0) HB.out (by have z0_ := HA0.out; have z1_ := HA1.out; have z2_ := Z1.out; have z3_ := GX0.out; have z4_ := GY0.out; have z5_ := N0.out; omega)) (by have z0_ := HA0.out; have z1_ := HA1.out; have z2_ := Z1.out; have z3_ := GX0.out; have z4_ := GY0.out; have z5_ := N0.out; omega)); have BA0_ := Aside0.mk (show (World.heap ((w10.setCell ⟨gx0, 0, none⟩ (.slice Ax0_0 x0_0.length cx0_0)).setCell ⟨gx0, 1, none⟩ (.slice Ax0_1 x0_1.length cx0_1)))[ga0]? = some (.cells #[.slice A0_0 l0_0.length c0_0, .slice A0_1 l0_1.length c0_1] 25 (0, 0)) from (blk_far (blk_far BA0.out NX0BA0.out (.slice Ax0_0 x0_0.length cx0_0)) NX0BA0.out (.slice Ax0_1 x0_1.length cx0_1))); have BA1_ := Aside0.mk (show (World.heap ((w10.setCell ⟨gx0, 0, none⟩ (.slice Ax0_0 x0_0.length cx0_0)).setCell ⟨gx0, 1, none⟩ (.slice Ax0_1 x0_1.length cx0_1)))[ga1]? = some (.cells #[.int .i64 a1_0, .int .i64 a1_1, .int .i64 a1_2, .int .i64 a1_3, .slice A1_4 l1_4.length c1_4] 67 (0, 0)) from (blk_far (blk_far BA1.out NX0BA1.out (.slice Ax0_0 x0_0.length cx0_0)) NX0BA1.out (.slice Ax0_1 x0_1.length cx0_1))); have BX0_ := Aside0.mk (show (World.heap ((w10.setCell ⟨gx0, 0, none⟩ (.slice Ax0_0 x0_0.length cx0_0)).setCell ⟨gx0, 1, none⟩ (.slice Ax0_1 x0_1.length cx0_1)))[gx0]? = some (.cells #[.slice Ax0_0 x0_0.length cx0_0, .slice Ax0_1 x0_1.length cx0_1] 31 (0, 0)) from (blk_put (g := gx0) (cs := #[.slice Ax0_0 x0_0.length cx0_0, .slice none 0 0]) (blk_put (g := gx0) (cs := #[.slice none 0 0, .slice none 0 0]) BX0.out 0 (.slice Ax0_0 x0_0.length cx0_0) rfl) 1 (.slice Ax0_1 x0_1.length cx0_1) rfl)); have HS_ := Aside0.mk (Kd.R_far (p := ⟨gx0, 1, none⟩) (Kd.R_far (p := ⟨gx0, 0, none⟩) HS.out (fun q hq => Nat.ne_of_lt (Nat.lt_of_lt_of_le hq (show w8.heap.size ≤ gx0 from by have z0_ := HA0.out; have z1_ := HA1.out; have z2_ := Z1.out; have z3_ := GX0.out; have z4_ := GY0.out; have z5_ := N0.out; omega))) (.slice Ax0_0 x0_0.length cx0_0)) (fun q hq => Nat.ne_of_lt (Nat.lt_of_lt_of_le hq (show w8.heap.size ≤ gx0 from by have z0_ := HA0.out; have z1_ := HA1.out; have z2_ := Z1.out; have z3_ := GX0.out; have z4_ := GY0.out; have z5_ := N0.out; omega))) (.slice Ax0_1 x0_1.length cx0_1)); have HY0_0_ := Aside0.mk (Kd.R_far (p := ⟨gx0, 1, none⟩) (Kd.R_far (p := ⟨gx0, 0, none⟩) HY0_0.out (fun q hq => Nat.ne_of_lt (Nat.lt_of_lt_of_le hq.1.2 (show w9.heap.size ≤ gx0 from by have z0_ := HA0.out; have z1_ := HA1.out; have z2_ := Z1.out; have z3_ := GX0.out; have z4_ := GY0.out; have z5_ := N0.out; omega))) (.slice Ax0_0 x0_0.length cx0_0)) (fun q hq => Nat.ne_of_lt (Nat.lt_of_lt_of_le hq.1.2 (show w9.heap.size ≤ gx0 from by have z0_ := HA0.out; have z1_ := HA1.out; have z2_ := Z1.out; have z3_ := GX0.out; have z4_ := GY0.out; have z5_ := N0.out; omega))) (.slice Ax0_1 x0_1.length cx0_1)); have HY0_1_ := Aside0.mk (Kd.S_far (p := ⟨gx0, 1, none⟩) (Kd.S_far (p := ⟨gx0, 0, none⟩) HY0_1.out (fun q hq => Nat.ne_of_lt (Nat.lt_of_lt_of_le hq.1.2 (show w9.heap.size ≤ gx0 from by have z0_ := HA0.out; have z1_ := HA1.out; have z2_ := Z1.out; have z3_ := GX0.out; have z4_ := GY0.out; have z5_ := N0.out; omega))) (.slice Ax0_0 x0_0.length cx0_0)) (fun q hq => Nat.ne_of_lt (Nat.lt_of_lt_of_le hq.1.2 (show w9.heap.size ≤ gx0 from by have z0_ := HA0.out; have z1_ := HA1.out; have z2_ := Z1.out; have z3_ := GX0.out; have z4_ := GY0.out; have z5_ := N0.out; omega))) (.slice Ax0_1 x0_1.length cx0_1)); clear HB BA0 BA1 BX0 HS HY0_0 HY0_1; have HB := HB_; have BA0 := BA0_; have BA1 := BA1_; have BX0 := BX0_; have HS := HS_; have HY0_0 := HY0_0_; have HY0_1 := HY0_1_; clear HB_ BA0_ BA1_ BX0_ HS_ HY0_0_ HY0_1_; clear hcBA00 hfBA00 hcBA01 hfBA01 hcBA10 hfBA10 hcBA11 hfBA11 hcBA12 hfBA12 hcBA13 hfBA13 hcBA14 hfBA14 hcBX00 hfBX00 hcBX01 hfBX01; obtain ⟨w11, hw_⟩ : ∃ w_, w_ = ((w10.setCell ⟨gx0, 0, none⟩ (.slice Ax0_0 x0_0.length cx0_0)).setCell ⟨gx0, 1, none⟩ (.slice Ax0_1 x0_1.length cx0_1)) := ⟨_, rfl⟩; rw [← hw_] at HB BA0 BA1 BX0 HS HY0_0 HY0_1 ⊢; have Z2 := Aside0.mk ((by rw [hw_]; simp) : w10.heap.size ≤ w11.heap.size); clear hw_; obtain ⟨hcBA00, hcBA01, hfBA00, hfBA01⟩ := cl2_ BA0.out; obtain ⟨hcBA10, hcBA11, hcBA12, hcBA13, hcBA14, hfBA10, hfBA11, hfBA12, hfBA13, hfBA14⟩ := cl5_ BA1.out; have hcBX00 : w11.cell? ⟨gx0, 0, none⟩ = some (.slice Ax0_0 x0_0.length cx0_0) := (blk_cell BX0.out 0).trans rfl; have hfBX00 := blk_frozen BX0.out 0; have hcBX01 : w11.cell? ⟨gx0, 1, none⟩ = some (.slice Ax0_1 x0_1.length cx0_1) := (blk_cell BX0.out 1).trans rfl; have hfBX01 := blk_frozen BX0.out 1
   go_wp2_with (first | (go_at_call 40; (with_reducible refine (laws_toAxis.calls k a1_0 a1_1 a1_2 a1_3 A1_4 c1_4 l1_4 x1_0 x1_1 x1_2 x1_3 x1_4 _ (Kd.C_below HR1_4.out HB.out) HC1_4.out BT1.out).mono ?_); rintro e w12 ⟨v0, rfl, ho0, hb⟩; have HX1_4 := Aside0.mk ho0; have Z3 := Aside0.mk (hb.size); have HB_ := Aside0.mk (below_step HB.out hb); have BA0_ := Aside0.mk (blk_below BA0.out hb); have BA1_ := Aside0.mk (blk_below BA1.out hb); have BX0_ := Aside0.mk (blk_below (g := gx0) (o := .cells #[.slice Ax0_0 x0_0.length cx0_0, .slice Ax0_1 x0_1.length cx0_1] 31 (0, 0)) BX0.out hb); have HS_ := Aside0.mk (Kd.R_below HS.out hb); have HY0_0_ := Aside0.mk (Kd.R_below HY0_0.out hb); have HY0_1_ := Aside0.mk (Kd.S_below HY0_1.out hb); clear hb ho0; clear HB BA0 BA1 BX0 HS HY0_0 HY0_1; have HB := HB_; have BA0 := BA0_; have BA1 := BA1_; have BX0 := BX0_; have HS := HS_; have HY0_0 := HY0_0_; have HY0_1 := HY0_1_; clear HB_ BA0_ BA1_ BX0_ HS_ HY0_0_ HY0_1_; clear hcBA00 hfBA00 hcBA01 hfBA01 hcBA10 hfBA10 hcBA11 hfBA11 hcBA12 hfBA12 hcBA13 hfBA13 hcBA14 hfBA14 hcBX00 hfBX00 hcBX01 hfBX01; obtain ⟨hcBA00, hcBA01, hfBA00, hfBA01⟩ := cl2_ BA0.out; obtain ⟨hcBA10, hcBA11, hcBA12, hcBA13, hcBA14, hfBA10, hfBA11, hfBA12, hfBA13, hfBA14⟩ := cl5_ BA1.out; have hcBX00 : w12.cell? ⟨gx0, 0, none⟩ = some (.slice Ax0_0 x0_0.length cx0_0) := (blk_cell BX0.out 0).trans rfl; have hfBX00 := blk_frozen BX0.out 0; have hcBX01 : w12.cell? ⟨gx0, 1, none⟩ = some (.slice Ax0_1 x0_1.length cx0_1) := (blk_cell BX0.out 1).trans rfl; have hfBX01 := blk_frozen BX0.out 1; obtain ⟨Ax1_4, cx1_4, ex1_4⟩ := Kd.R_slice HX1_4.out; subst ex1_4; have HY1_4 := Aside0.mk (Kd.R_mono (ok' := (fun q => (w11.heap.size ≤ q ∧ q < w12.heap.size) ∧ True)) (Kd.R_bound HX1_4.out) (fun q hq => ⟨⟨hq.2.1, hq.2.2.1⟩, trivial⟩)); clear HX1_4) | ((with_reducible refine gate_dst (N := 9) rfl ?_); refine box_event (by rfl) (N := 9) (by rfl) (cs := #[.int .i64 0, .int .i64 0, .int .i64 0, .int .i64 0, .slice none 0 0]) (t := 47) kg_ ?_; intro gx1 hgx w13 hbox hb; have NX1BA0 := Aside0.mk ((by rw [hgx]; exact Nat.ne_of_lt (blk_lt BA0.out)) : ga0 ≠ gx1); have NX1BA1 := Aside0.mk ((by rw [hgx]; exact Nat.ne_of_lt (blk_lt BA1.out)) : ga1 ≠ gx1); have NX1BX0 := Aside0.mk ((by rw [hgx]; exact Nat.ne_of_lt (blk_lt (g := gx0) (o := .cells #[.slice Ax0_0 x0_0.length cx0_0, .slice Ax0_1 x0_1.length cx0_1] 31 (0, 0)) BX0.out)) : gx0 ≠ gx1); have GX1 := Aside0.mk ((by rw [hgx]; exact Nat.le_refl _) : w12.heap.size ≤ gx1); have GY1 := Aside0.mk ((blk_lt hbox) : gx1 < w13.heap.size); have BX1 := Aside0.mk hbox; have HB_ := Aside0.mk (below_step HB.out hb); have BA0_ := Aside0.mk (blk_below BA0.out hb); have BA1_ := Aside0.mk (blk_below BA1.out hb); have BX0_ := Aside0.mk (blk_below (g := gx0) (o := .cells #[.slice Ax0_0 x0_0.length cx0_0, .slice Ax0_1 x0_1.length cx0_1] 31 (0, 0)) BX0.out hb); have HS_ := Aside0.mk (Kd.R_below HS.out hb); have HY0_0_ := Aside0.mk (Kd.R_below HY0_0.out hb); have HY0_1_ := Aside0.mk (Kd.S_below HY0_1.out hb); have HY1_4_ := Aside0.mk (Kd.R_below HY1_4.out hb); clear hb hbox hgx; clear HB BA0 BA1 BX0 HS HY0_0 HY0_1 HY1_4; have HB := HB_; have BA0 := BA0_; have BA1 := BA1_; have BX0 := BX0_; have HS := HS_; have HY0_0 := HY0_0_; have HY0_1 := HY0_1_; have HY1_4 := HY1_4_; clear HB_ BA0_ BA1_ BX0_ HS_ HY0_0_ HY0_1_ HY1_4_; clear hcBA00 hfBA00 hcBA01 hfBA01 hcBA10 hfBA10 hcBA11 hfBA11 hcBA12 hfBA12 hcBA13 hfBA13 hcBA14 hfBA14 hcBX00 hfBX00 hcBX01 hfBX01; obtain ⟨hcBA00, hcBA01, hfBA00, hfBA01⟩ := cl2_ BA0.out; obtain ⟨hcBA10, hcBA11, hcBA12, hcBA13, hcBA14, hfBA10, hfBA11, hfBA12, hfBA13, hfBA14⟩ := cl5_ BA1.out; have hcBX00 : w13.cell? ⟨gx0, 0, none⟩ = some (.slice Ax0_0 x0_0.length cx0_0) := (blk_cell BX0.out 0).trans rfl; have hfBX00 := blk_frozen BX0.out 0; have hcBX01 : w13.cell? ⟨gx0, 1, none⟩ = some (.slice Ax0_1 x0_1.length cx0_1) := (blk_cell BX0.out 1).trans rfl; have hfBX01 := blk_frozen BX0.out 1; have hcBX10 : w13.cell? ⟨gx1, 0, none⟩ = some (.int .i64 0) := (blk_cell BX1.out 0).trans rfl; have hfBX10 := blk_frozen BX1.out 0; have hcBX11 : w13.cell? ⟨gx1, 1, none⟩ = some (.int .i64 0) := (blk_cell BX1.out 1).trans rfl; have hfBX11 := blk_frozen BX1.out 1; have hcBX12 : w13.cell? ⟨gx1, 2, none⟩ = some (.int .i64 0) := (blk_cell BX1.out 2).trans rfl; have hfBX12 := blk_frozen BX1.out 2; have hcBX13 : w13.cell? ⟨gx1, 3, none⟩ = some (.int .i64 0) := (blk_cell BX1.out 3).trans rfl; have hfBX13 := blk_frozen BX1.out 3; have hcBX14 : w13.cell? ⟨gx1, 4, none⟩ = some (.slice none 0 0) := (blk_cell BX1.out 4).trans rfl; have hfBX14 := blk_frozen BX1.out 4; have hn1BA0 := NX1BA0.out; have hn1BA1 := NX1BA1.out; have hn1BX0 := NX1BX0.out; have hm1BA0 := NX1BA0.out.symm; have hm1BA1 := NX1BA1.out.symm; have hm1BX0 := NX1BX0.out.symm))
   have HB_ : Aside0 (Below w.heap.size w (((((w13.setCell ⟨gx1, 0, none⟩ (.int .i64 x1_0)).setCell ⟨gx1, 1, none⟩ (.int .i64 x1_1)).setCell ⟨gx1, 2, none⟩ (.int .i64 x1_2)).setCell ⟨gx1, 3, none⟩ (.int .i64 x1_3)).setCell ⟨gx1, 4, none⟩ (.slice Ax1_4 x1_4.length cx1_4))) := Aside0.mk (below_set (j := 4) (v := .slice Ax1_4 x1_4.length cx1_4) (below_set (j := 3) (v := .int .i64 x1_3) (below_set (j := 2) (v := .int .i64 x1_2) (below_set (j := 1) (v := .int .i64 x1_1) (below_set (j := 0) (v := .int .i64 x1_0) HB.out (by have z0_ := HA0.out; have z1_ := HA1.out; have z2_ := Z1.out; have z3_ := GX0.out; have z4_ := GY0.out; have z5_ := Z2.out; have z6_ := Z3.out; have z7_ := GX1.out; have z8_ := GY1.out; have z9_ := N0.out; omega)) (by have z0_ := HA0.out; have z1_ := HA1.out; have z2_ := Z1.out; have z3_ := GX0.out; have z4_ := GY0.out; have z5_ := Z2.out; have z6_ := Z3.out; have z7_ := GX1.out; have z8_ := GY1.out; have z9_ := N0.out; omega)) (by have z0_ := HA0.out; have z1_ := HA1.out; have z2_ := Z1.out; have z3_ := GX0.out; have z4_ := GY0.out; have z5_ := Z2.out; have z6_ := Z3.out; have z7_ := GX1.out; have z8_ := GY1.out; have z9_ := N0.out; omega)) (by have z0_ := HA0.out; have z1_ := HA1.out; have z2_ := Z1.out; have z3_ := GX0.out; have z4_ := GY0.out; have z5_ := Z2.out; have z6_ := Z3.out; have z7_ := GX1.out; have z8_ := GY1.out; have z9_ := N0.out; omega)) (by have z0_ := HA0.out; have z1_ := HA1.out; have z2_ := Z1.out; have z3_ := GX0.out; have z4_ := GY0.out; have z5_ := Z2.out; have z6_ := Z3.out; have z7_ := GX1.out; have z8_ := GY1.out; have z9_ := N0.out; omega)); have BA0_ := Aside0.mk (show (World.heap (((((w13.setCell ⟨gx1, 0, none⟩ (.int .i64 x1_0)).setCell ⟨gx1, 1, none⟩ (.int .i64 x1_1)).setCell ⟨gx1, 2, none⟩ (.int .i64 x1_2)).setCell ⟨gx1, 3, none⟩ (.int .i64 x1_3)).setCell ⟨gx1, 4, none⟩ (.slice Ax1_4 x1_4.length cx1_4)))[ga0]? = some (.cells #[.slice A0_0 l0_0.length c0_0, .slice A0_1 l0_1.length c0_1] 25 (0, 0)) from (blk_far (blk_far (blk_far (blk_far (blk_far BA0.out NX1BA0.out (.int .i64 x1_0)) NX1BA0.out (.int .i64 x1_1)) NX1BA0.out (.int .i64 x1_2)) NX1BA0.out (.int .i64 x1_3)) NX1BA0.out (.slice Ax1_4 x1_4.length cx1_4))); have BA1_ := Aside0.mk (show (World.heap (((((w13.setCell ⟨gx1, 0, none⟩ (.int .i64 x1_0)).setCell ⟨gx1, 1, none⟩ (.int .i64 x1_1)).setCell ⟨gx1, 2, none⟩ (.int .i64 x1_2)).setCell ⟨gx1, 3, none⟩ (.int .i64 x1_3)).setCell ⟨gx1, 4, none⟩ (.slice Ax1_4 x1_4.length cx1_4)))[ga1]? = some (.cells #[.int .i64 a1_0, .int .i64 a1_1, .int .i64 a1_2, .int .i64 a1_3, .slice A1_4 l1_4.length c1_4] 67 (0, 0)) from (blk_far (blk_far (blk_far (blk_far (blk_far BA1.out NX1BA1.out (.int .i64 x1_0)) NX1BA1.out (.int .i64 x1_1)) NX1BA1.out (.int .i64 x1_2)) NX1BA1.out (.int .i64 x1_3)) NX1BA1.out (.slice Ax1_4 x1_4.length cx1_4))); have BX0_ := Aside0.mk (show (World.heap (((((w13.setCell ⟨gx1, 0, none⟩ (.int .i64 x1_0)).setCell ⟨gx1, 1, none⟩ (.int .i64 x1_1)).setCell ⟨gx1, 2, none⟩ (.int .i64 x1_2)).setCell ⟨gx1, 3, none⟩ (.int .i64 x1_3)).setCell ⟨gx1, 4, none⟩ (.slice Ax1_4 x1_4.length cx1_4)))[gx0]? = some (.cells #[.slice Ax0_0 x0_0.length cx0_0, .slice Ax0_1 x0_1.length cx0_1] 31 (0, 0)) from (blk_far (blk_far (blk_far (blk_far (blk_far BX0.out NX1BX0.out (.int .i64 x1_0)) NX1BX0.out (.int .i64 x1_1)) NX1BX0.out (.int .i64 x1_2)) NX1BX0.out (.int .i64 x1_3)) NX1BX0.out (.slice Ax1_4 x1_4.length cx1_4))); have BX1_ := Aside0.mk (show (World.heap (((((w13.setCell ⟨gx1, 0, none⟩ (.int .i64 x1_0)).setCell ⟨gx1, 1, none⟩ (.int .i64 x1_1)).setCell ⟨gx1, 2, none⟩ (.int .i64 x1_2)).setCell ⟨gx1, 3, none⟩ (.int .i64 x1_3)).setCell ⟨gx1, 4, none⟩ (.slice Ax1_4 x1_4.length cx1_4)))[gx1]? = some (.cells #[.int .i64 x1_0, .int .i64 x1_1, .int .i64 x1_2, .int .i64 x1_3, .slice Ax1_4 x1_4.length cx1_4] 47 (0, 0)) from (blk_put (g := gx1) (cs := #[.int .i64 x1_0, .int .i64 x1_1, .int .i64 x1_2, .int .i64 x1_3, .slice none 0 0]) (blk_put (g := gx1) (cs := #[.int .i64 x1_0, .int .i64 x1_1, .int .i64 x1_2, .int .i64 0, .slice none 0 0]) (blk_put (g := gx1) (cs := #[.int .i64 x1_0, .int .i64 x1_1, .int .i64 0, .int .i64 0, .slice none 0 0]) (blk_put (g := gx1) (cs := #[.int .i64 x1_0, .int .i64 0, .int .i64 0, .int .i64 0, .slice none 0 0]) (blk_put (g := gx1) (cs := #[.int .i64 0, .int .i64 0, .int .i64 0, .int .i64 0, .slice none 0 0]) BX1.out 0 (.int .i64 x1_0) rfl) 1 (.int .i64 x1_1) rfl) 2 (.int .i64 x1_2) rfl) 3 (.int .i64 x1_3) rfl) 4 (.slice Ax1_4 x1_4.length cx1_4) rfl)); have HS_ := Aside0.mk (Kd.R_far (p := ⟨gx1, 4, none⟩) (Kd.R_far (p := ⟨gx1, 3, none⟩) (Kd.R_far (p := ⟨gx1, 2, none⟩) (Kd.R_far (p := ⟨gx1, 1, none⟩) (Kd.R_far (p := ⟨gx1, 0, none⟩) HS.out (fun q hq => Nat.ne_of_lt (Nat.lt_of_lt_of_le hq (show w8.heap.size ≤ gx1 from by have z0_ := HA0.out; have z1_ := HA1.out; have z2_ := Z1.out; have z3_ := GX0.out; have z4_ := GY0.out; have z5_ := Z2.out; have z6_ := Z3.out; have z7_ := GX1.out; have z8_ := GY1.out; have z9_ := N0.out; omega))) (.int .i64 x1_0)) (fun q hq => Nat.ne_of_lt (Nat.lt_of_lt_of_le hq (show w8.heap.size ≤ gx1 from by have z0_ := HA0.out; have z1_ := HA1.out; have z2_ := Z1.out; have z3_ := GX0.out; have z4_ := GY0.out; have z5_ := Z2.out; have z6_ := Z3.out; have z7_ := GX1.out; have z8_ := GY1.out; have z9_ := N0.out; omega))) (.int .i64 x1_1)) (fun q hq => Nat.ne_of_lt (Nat.lt_of_lt_of_le hq (show w8.heap.size ≤ gx1 from by have z0_ := HA0.out; have z1_ := HA1.out; have z2_ := Z1.out; have z3_ := GX0.out; have z4_ := GY0.out; have z5_ := Z2.out; have z6_ := Z3.out; have z7_ := GX1.out; have z8_ := GY1.out; have z9_ := N0.out; omega))) (.int .i64 x1_2)) (fun q hq => Nat.ne_of_lt (Nat.lt_of_lt_of_le hq (show w8.heap.size ≤ gx1 from by have z0_ := HA0.out; have z1_ := HA1.out; have z2_ := Z1.out; have z3_ := GX0.out; have z4_ := GY0.out; have z5_ := Z2.out; have z6_ := Z3.out; have z7_ := GX1.out; have z8_ := GY1.out; have z9_ := N0.out; omega))) (.int .i64 x1_3)) (fun q hq => Nat.ne_of_lt (Nat.lt_of_lt_of_le hq (show w8.heap.size ≤ gx1 from by have z0_ := HA0.out; have z1_ := HA1.out; have z2_ := Z1.out; have z3_ := GX0.out; have z4_ := GY0.out; have z5_ := Z2.out; have z6_ := Z3.out; have z7_ := GX1.out; have z8_ := GY1.out; have z9_ := N0.out; omega))) (.slice Ax1_4 x1_4.length cx1_4)); have HY0_0_ := Aside0.mk (Kd.R_far (p := ⟨gx1, 4, none⟩) (Kd.R_far (p := ⟨gx1, 3, none⟩) (Kd.R_far (p := ⟨gx1, 2, none⟩) (Kd.R_far (p := ⟨gx1, 1, none⟩) (Kd.R_far (p := ⟨gx1, 0, none⟩) HY0_0.out (fun q hq => Nat.ne_of_lt (Nat.lt_of_lt_of_le hq.1.2 (show w9.heap.size ≤ gx1 from by have z0_ := HA0.out; have z1_ := HA1.out; have z2_ := Z1.out; have z3_ := GX0.out; have z4_ := GY0.out; have z5_ := Z2.out; have z6_ := Z3.out; have z7_ := GX1.out; have z8_ := GY1.out; have z9_ := N0.out; omega))) (.int .i64 x1_0)) (fun q hq => Nat.ne_of_lt (Nat.lt_of_lt_of_le hq.1.2 (show w9.heap.size ≤ gx1 from by have z0_ := HA0.out; have z1_ := HA1.out; have z2_ := Z1.out; have z3_ := GX0.out; have z4_ := GY0.out; have z5_ := Z2.out; have z6_ := Z3.out; have z7_ := GX1.out; have z8_ := GY1.out; have z9_ := N0.out; omega))) (.int .i64 x1_1)) (fun q hq => Nat.ne_of_lt (Nat.lt_of_lt_of_le hq.1.2 (show w9.heap.size ≤ gx1 from by have z0_ := HA0.out; have z1_ := HA1.out; have z2_ := Z1.out; have z3_ := GX0.out; have z4_ := GY0.out; have z5_ := Z2.out; have z6_ := Z3.out; have z7_ := GX1.out; have z8_ := GY1.out; have z9_ := N0.out; omega))) (.int .i64 x1_2)) (fun q hq => Nat.ne_of_lt (Nat.lt_of_lt_of_le hq.1.2 (show w9.heap.size ≤ gx1 from by have z0_ := HA0.out; have z1_ := HA1.out; have z2_ := Z1.out; have z3_ := GX0.out; have z4_ := GY0.out; have z5_ := Z2.out; have z6_ := Z3.out; have z7_ := GX1.out; have z8_ := GY1.out; have z9_ := N0.out; omega))) (.int .i64 x1_3)) (fun q hq => Nat.ne_of_lt (Nat.lt_of_lt_of_le hq.1.2 (show w9.heap.size ≤ gx1 from by have z0_ := HA0.out; have z1_ := HA1.out; have z2_ := Z1.out; have z3_ := GX0.out; have z4_ := GY0.out; have z5_ := Z2.out; have z6_ := Z3.out; have z7_ := GX1.out; have z8_ := GY1.out; have z9_ := N0.out; omega))) (.slice Ax1_4 x1_4.length cx1_4)); have HY0_1_ := Aside0.mk (Kd.S_far (p := ⟨gx1, 4, none⟩) (Kd.S_far (p := ⟨gx1, 3, none⟩) (Kd.S_far (p := ⟨gx1, 2, none⟩) (Kd.S_far (p := ⟨gx1, 1, none⟩) (Kd.S_far (p := ⟨gx1, 0, none⟩) HY0_1.out (fun q hq => Nat.ne_of_lt (Nat.lt_of_lt_of_le hq.1.2 (show w9.heap.size ≤ gx1 from by have z0_ := HA0.out; have z1_ := HA1.out; have z2_ := Z1.out; have z3_ := GX0.out; have z4_ := GY0.out; have z5_ := Z2.out; have z6_ := Z3.out; have z7_ := GX1.out; have z8_ := GY1.out; have z9_ := N0.out; omega))) (.int .i64 x1_0)) (fun q hq => Nat.ne_of_lt (Nat.lt_of_lt_of_le hq.1.2 (show w9.heap.size ≤ gx1 from by have z0_ := HA0.out; have z1_ := HA1.out; have z2_ := Z1.out; have z3_ := GX0.out; have z4_ := GY0.out; have z5_ := Z2.out; have z6_ := Z3.out; have z7_ := GX1.out; have z8_ := GY1.out; have z9_ := N0.out; omega))) (.int .i64 x1_1)) (fun q hq => Nat.ne_of_lt (Nat.lt_of_lt_of_le hq.1.2 (show w9.heap.size ≤ gx1 from by have z0_ := HA0.out; have z1_ := HA1.out; have z2_ := Z1.out; have z3_ := GX0.out; have z4_ := GY0.out; have z5_ := Z2.out; have z6_ := Z3.out; have z7_ := GX1.out; have z8_ := GY1.out; have z9_ := N0.out; omega))) (.int .i64 x1_2)) (fun q hq => Nat.ne_of_lt (Nat.lt_of_lt_of_le hq.1.2 (show w9.heap.size ≤ gx1 from by have z0_ := HA0.out; have z1_ := HA1.out; have z2_ := Z1.out; have z3_ := GX0.out; have z4_ := GY0.out; have z5_ := Z2.out; have z6_ := Z3.out; have z7_ := GX1.out; have z8_ := GY1.out; have z9_ := N0.out; omega))) (.int .i64 x1_3)) (fun q hq => Nat.ne_of_lt (Nat.lt_of_lt_of_le hq.1.2 (show w9.heap.size ≤ gx1 from by have z0_ := HA0.out; have z1_ := HA1.out; have z2_ := Z1.out; have z3_ := GX0.out; have z4_ := GY0.out; have z5_ := Z2.out; have z6_ := Z3.out; have z7_ := GX1.out; have z8_ := GY1.out; have z9_ := N0.out; omega))) (.slice Ax1_4 x1_4.length cx1_4)); have HY1_4_ := Aside0.mk (Kd.R_far (p := ⟨gx1, 4, none⟩) (Kd.R_far (p := ⟨gx1, 3, none⟩) (Kd.R_far (p := ⟨gx1, 2, none⟩) (Kd.R_far (p := ⟨gx1, 1, none⟩) (Kd.R_far (p := ⟨gx1, 0, none⟩) HY1_4.out (fun q hq => Nat.ne_of_lt (Nat.lt_of_lt_of_le hq.1.2 (show w12.heap.size ≤ gx1 from by have z0_ := HA0.out; have z1_ := HA1.out; have z2_ := Z1.out; have z3_ := GX0.out; have z4_ := GY0.out; have z5_ := Z2.out; have z6_ := Z3.out; have z7_ := GX1.out; have z8_ := GY1.out; have z9_ := N0.out; omega))) (.int .i64 x1_0)) (fun q hq => Nat.ne_of_lt (Nat.lt_of_lt_of_le hq.1.2 (show w12.heap.size ≤ gx1 from by have z0_ := HA0.out; have z1_ := HA1.out; have z2_ := Z1.out; have z3_ := GX0.out; have z4_ := GY0.out; have z5_ := Z2.out; have z6_ := Z3.out; have z7_ := GX1.out; have z8_ := GY1.out; have z9_ := N0.out; omega))) (.int .i64 x1_1)) (fun q hq => Nat.ne_of_lt (Nat.lt_of_lt_of_le hq.1.2 (show w12.heap.size ≤ gx1 from by have z0_ := HA0.out; have z1_ := HA1.out; have z2_ := Z1.out; have z3_ := GX0.out; have z4_ := GY0.out; have z5_ := Z2.out; have z6_ := Z3.out; have z7_ := GX1.out; have z8_ := GY1.out; have z9_ := N0.out; omega))) (.int .i64 x1_2)) (fun q hq => Nat.ne_of_lt (Nat.lt_of_lt_of_le hq.1.2 (show w12.heap.size ≤ gx1 from by have z0_ := HA0.out; have z1_ := HA1.out; have z2_ := Z1.out; have z3_ := GX0.out; have z4_ := GY0.out; have z5_ := Z2.out; have z6_ := Z3.out; have z7_ := GX1.out; have z8_ := GY1.out; have z9_ := N0.out; omega))) (.int .i64 x1_3)) (fun q hq => Nat.ne_of_lt (Nat.lt_of_lt_of_le hq.1.2 (show w12.heap.size ≤ gx1 from by have z0_ := HA0.out; have z1_ := HA1.out; have z2_ := Z1.out; have z3_ := GX0.out; have z4_ := GY0.out; have z5_ := Z2.out; have z6_ := Z3.out; have z7_ := GX1.out; have z8_ := GY1.out; have z9_ := N0.out; omega))) (.slice Ax1_4 x1_4.length cx1_4)); clear HB BA0 BA1 BX0 BX1 HS HY0_0 HY0_1 HY1_4; have HB := HB_; have BA0 := BA0_; have BA1 := BA1_; have BX0 := BX0_; have BX1 := BX1_; have HS := HS_; have HY0_0 := HY0_0_; have HY0_1 := HY0_1_; have HY1_4 := HY1_4_; clear HB_ BA0_ BA1_ BX0_ BX1_ HS_ HY0_0_ HY0_1_ HY1_4_; clear hcBA00 hfBA00 hcBA01 hfBA01 hcBA10 hfBA10 hcBA11 hfBA11 hcBA12 hfBA12 hcBA13 hfBA13 hcBA14 hfBA14 hcBX00 hfBX00 hcBX01 hfBX01 hcBX10 hfBX10 hcBX11 hfBX11 hcBX12 hfBX12 hcBX13 hfBX13 hcBX14 hfBX14; obtain ⟨w14, hw_⟩ : ∃ w_, w_ = (((((w13.setCell ⟨gx1, 0, none⟩ (.int .i64 x1_0)).setCell ⟨gx1, 1, none⟩ (.int .i64 x1_1)).setCell ⟨gx1, 2, none⟩ (.int .i64 x1_2)).setCell ⟨gx1, 3, none⟩ (.int .i64 x1_3)).setCell ⟨gx1, 4, none⟩ (.slice Ax1_4 x1_4.length cx1_4)) := ⟨_, rfl⟩; rw [← hw_] at HB BA0 BA1 BX0 BX1 HS HY0_0 HY0_1 HY1_4 ⊢; have Z4 := Aside0.mk ((by rw [hw_]; simp) : w13.heap.size ≤ w14.heap.size); clear hw_; obtain ⟨hcBA00, hcBA01, hfBA00, hfBA01⟩ := cl2_ BA0.out; obtain ⟨hcBA10, hcBA11, hcBA12, hcBA13, hcBA14, hfBA10, hfBA11, hfBA12, hfBA13, hfBA14⟩ := cl5_ BA1.out; have hcBX00 : w14.cell? ⟨gx0, 0, none⟩ = some (.slice Ax0_0 x0_0.length cx0_0) := (blk_cell BX0.out 0).trans rfl; have hfBX00 := blk_frozen BX0.out 0; have hcBX01 : w14.cell? ⟨gx0, 1, none⟩ = some (.slice Ax0_1 x0_1.length cx0_1) := (blk_cell BX0.out 1).trans rfl; have hfBX01 := blk_frozen BX0.out 1; have hcBX10 : w14.cell? ⟨gx1, 0, none⟩ = some (.int .i64 x1_0) := (blk_cell BX1.out 0).trans rfl; have hfBX10 := blk_frozen BX1.out 0; have hcBX11 : w14.cell? ⟨gx1, 1, none⟩ = some (.int .i64 x1_1) := (blk_cell BX1.out 1).trans rfl; have hfBX11 := blk_frozen BX1.out 1; have hcBX12 : w14.cell? ⟨gx1, 2, none⟩ = some (.int .i64 x1_2) := (blk_cell BX1.out 2).trans rfl; have hfBX12 := blk_frozen BX1.out 2; have hcBX13 : w14.cell? ⟨gx1, 3, none⟩ = some (.int .i64 x1_3) := (blk_cell BX1.out 3).trans rfl; have hfBX13 := blk_frozen BX1.out 3; have hcBX14 : w14.cell? ⟨gx1, 4, none⟩ = some (.slice Ax1_4 x1_4.length cx1_4) := (blk_cell BX1.out 4).trans rfl; have hfBX14 := blk_frozen BX1.out 4; have NG := Aside0.mk HB.out.size; have NL0 := Aside0.mk ((by have z0_ := HA0.out; have z1_ := HA1.out; have z2_ := Z1.out; have z3_ := GX0.out; have z4_ := GY0.out; have z5_ := Z2.out; have z6_ := Z3.out; have z7_ := GX1.out; have z8_ := GY1.out; have z9_ := Z4.out; have z10_ := N0.out; omega) : w.heap.size ≤ w8.heap.size); have NL1 := Aside0.mk ((by have z0_ := HA0.out; have z1_ := HA1.out; have z2_ := Z1.out; have z3_ := GX0.out; have z4_ := GY0.out; have z5_ := Z2.out; have z6_ := Z3.out; have z7_ := GX1.out; have z8_ := GY1.out; have z9_ := Z4.out; have z10_ := N0.out; omega) : w.heap.size ≤ w11.heap.size)
   go_wp2_with (first | (go_at_call 25; (with_reducible refine (impl_ClassesAlong.calls k Ax0_0 cx0_0 x0_0 Ax0_1 cx0_1 x0_1 x1_0 x1_1 x1_2 x1_3 Ax1_4 cx1_4 x1_4 g0 g1 _ (Kd.R_reads' HY0_0.out).2.2 (Kd.R_reads' HY0_0.out).2.1 (Kd.S_reads' HY0_1.out).2.2 (Kd.S_reads' HY0_1.out).2.1 (Kd.R_reads' HY1_4.out).2.2 (Kd.R_reads' HY1_4.out).2.1 BG.out).mono ?_); rintro e w15 ⟨v0, rfl, ho, hb⟩; have HO := Aside0.mk ho; have HB_ := Aside0.mk (below_step HB.out hb); have BA0_ := Aside0.mk (blk_below BA0.out hb); have BA1_ := Aside0.mk (blk_below BA1.out hb); have BX0_ := Aside0.mk (blk_below (g := gx0) (o := .cells #[.slice Ax0_0 x0_0.length cx0_0, .slice Ax0_1 x0_1.length cx0_1] 31 (0, 0)) BX0.out hb); have BX1_ := Aside0.mk (blk_below (g := gx1) (o := .cells #[.int .i64 x1_0, .int .i64 x1_1, .int .i64 x1_2, .int .i64 x1_3, .slice Ax1_4 x1_4.length cx1_4] 47 (0, 0)) BX1.out hb); have HS_ := Aside0.mk (Kd.R_below HS.out hb); have HY0_0_ := Aside0.mk (Kd.R_below HY0_0.out hb); have HY0_1_ := Aside0.mk (Kd.S_below HY0_1.out hb); have HY1_4_ := Aside0.mk (Kd.R_below HY1_4.out hb); clear hb ho; clear HB BA0 BA1 BX0 BX1 HS HY0_0 HY0_1 HY1_4; have HB := HB_; have BA0 := BA0_; have BA1 := BA1_; have BX0 := BX0_; have BX1 := BX1_; have HS := HS_; have HY0_0 := HY0_0_; have HY0_1 := HY0_1_; have HY1_4 := HY1_4_; clear HB_ BA0_ BA1_ BX0_ BX1_ HS_ HY0_0_ HY0_1_ HY1_4_; clear hcBA00 hfBA00 hcBA01 hfBA01 hcBA10 hfBA10 hcBA11 hfBA11 hcBA12 hfBA12 hcBA13 hfBA13 hcBA14 hfBA14 hcBX00 hfBX00 hcBX01 hfBX01 hcBX10 hfBX10 hcBX11 hfBX11 hcBX12 hfBX12 hcBX13 hfBX13 hcBX14 hfBX14; obtain ⟨hcBA00, hcBA01, hfBA00, hfBA01⟩ := cl2_ BA0.out; obtain ⟨hcBA10, hcBA11, hcBA12, hcBA13, hcBA14, hfBA10, hfBA11, hfBA12, hfBA13, hfBA14⟩ := cl5_ BA1.out; have hcBX00 : w15.cell? ⟨gx0, 0, none⟩ = some (.slice Ax0_0 x0_0.length cx0_0) := (blk_cell BX0.out 0).trans rfl; have hfBX00 := blk_frozen BX0.out 0; have hcBX01 : w15.cell? ⟨gx0, 1, none⟩ = some (.slice Ax0_1 x0_1.length cx0_1) := (blk_cell BX0.out 1).trans rfl; have hfBX01 := blk_frozen BX0.out 1; have hcBX10 : w15.cell? ⟨gx1, 0, none⟩ = some (.int .i64 x1_0) := (blk_cell BX1.out 0).trans rfl; have hfBX10 := blk_frozen BX1.out 0; have hcBX11 : w15.cell? ⟨gx1, 1, none⟩ = some (.int .i64 x1_1) := (blk_cell BX1.out 1).trans rfl; have hfBX11 := blk_frozen BX1.out 1; have hcBX12 : w15.cell? ⟨gx1, 2, none⟩ = some (.int .i64 x1_2) := (blk_cell BX1.out 2).trans rfl; have hfBX12 := blk_frozen BX1.out 2; have hcBX13 : w15.cell? ⟨gx1, 3, none⟩ = some (.int .i64 x1_3) := (blk_cell BX1.out 3).trans rfl; have hfBX13 := blk_frozen BX1.out 3; have hcBX14 : w15.cell? ⟨gx1, 4, none⟩ = some (.slice Ax1_4 x1_4.length cx1_4) := (blk_cell BX1.out 4).trans rfl; have hfBX14 := blk_frozen BX1.out 4))
   obtain ⟨Ag, cg, eg⟩ := Kd.R_slice HO.out; subst eg; have HG := Aside0.mk (Kd.R_mono (ok' := fun q => w14.heap.size ≤ q) (Kd.R_bound HO.out) (fun q hq => hq.2.1)); clear HO
   go_wp2_with (first | (go_at_call 14; (with_reducible refine (laws_eqInt64S.calls k Ag cg g0 As cs s0 true _ (Kd.R_reads' HG.out).2.2 (Kd.R_reads' HG.out).2.1 (Kd.R_reads' HS.out).2.2 (Kd.R_reads' HS.out).2.1 BE.out).mono ?_); rintro e w16 ⟨rfl, hd⟩; have hb := DB.out hd; have HB_ := Aside0.mk (below_step HB.out hb); have BA0_ := Aside0.mk (blk_below BA0.out hb); have BA1_ := Aside0.mk (blk_below BA1.out hb); have BX0_ := Aside0.mk (blk_below (g := gx0) (o := .cells #[.slice Ax0_0 x0_0.length cx0_0, .slice Ax0_1 x0_1.length cx0_1] 31 (0, 0)) BX0.out hb); have BX1_ := Aside0.mk (blk_below (g := gx1) (o := .cells #[.int .i64 x1_0, .int .i64 x1_1, .int .i64 x1_2, .int .i64 x1_3, .slice Ax1_4 x1_4.length cx1_4] 47 (0, 0)) BX1.out hb); have HS_ := Aside0.mk (Kd.R_below HS.out hb); have HY0_0_ := Aside0.mk (Kd.R_below HY0_0.out hb); have HY0_1_ := Aside0.mk (Kd.S_below HY0_1.out hb); have HY1_4_ := Aside0.mk (Kd.R_below HY1_4.out hb); have HG_ := Aside0.mk (Kd.R_below HG.out hb); clear hb hd; clear HB BA0 BA1 BX0 BX1 HS HY0_0 HY0_1 HY1_4 HG; have HB := HB_; have BA0 := BA0_; have BA1 := BA1_; have BX0 := BX0_; have BX1 := BX1_; have HS := HS_; have HY0_0 := HY0_0_; have HY0_1 := HY0_1_; have HY1_4 := HY1_4_; have HG := HG_; clear HB_ BA0_ BA1_ BX0_ BX1_ HS_ HY0_0_ HY0_1_ HY1_4_ HG_; clear hcBA00 hfBA00 hcBA01 hfBA01 hcBA10 hfBA10 hcBA11 hfBA11 hcBA12 hfBA12 hcBA13 hfBA13 hcBA14 hfBA14 hcBX00 hfBX00 hcBX01 hfBX01 hcBX10 hfBX10 hcBX11 hfBX11 hcBX12 hfBX12 hcBX13 hfBX13 hcBX14 hfBX14; obtain ⟨hcBA00, hcBA01, hfBA00, hfBA01⟩ := cl2_ BA0.out; obtain ⟨hcBA10, hcBA11, hcBA12, hcBA13, hcBA14, hfBA10, hfBA11, hfBA12, hfBA13, hfBA14⟩ := cl5_ BA1.out; have hcBX00 : w16.cell? ⟨gx0, 0, none⟩ = some (.slice Ax0_0 x0_0.length cx0_0) := (blk_cell BX0.out 0).trans rfl; have hfBX00 := blk_frozen BX0.out 0; have hcBX01 : w16.cell? ⟨gx0, 1, none⟩ = some (.slice Ax0_1 x0_1.length cx0_1) := (blk_cell BX0.out 1).trans rfl; have hfBX01 := blk_frozen BX0.out 1; have hcBX10 : w16.cell? ⟨gx1, 0, none⟩ = some (.int .i64 x1_0) := (blk_cell BX1.out 0).trans rfl; have hfBX10 := blk_frozen BX1.out 0; have hcBX11 : w16.cell? ⟨gx1, 1, none⟩ = some (.int .i64 x1_1) := (blk_cell BX1.out 1).trans rfl; have hfBX11 := blk_frozen BX1.out 1; have hcBX12 : w16.cell? ⟨gx1, 2, none⟩ = some (.int .i64 x1_2) := (blk_cell BX1.out 2).trans rfl; have hfBX12 := blk_frozen BX1.out 2; have hcBX13 : w16.cell? ⟨gx1, 3, none⟩ = some (.int .i64 x1_3) := (blk_cell BX1.out 3).trans rfl; have hfBX13 := blk_frozen BX1.out 3; have hcBX14 : w16.cell? ⟨gx1, 4, none⟩ = some (.slice Ax1_4 x1_4.length cx1_4) := (blk_cell BX1.out 4).trans rfl; have hfBX14 := blk_frozen BX1.out 4))
   (try go_wp2); have HS_ := Aside0.mk (Kd.R_drew HS.out); have HY0_0_ := Aside0.mk (Kd.R_drew HY0_0.out); have HY0_1_ := Aside0.mk (Kd.S_drew HY0_1.out); have HY1_4_ := Aside0.mk (Kd.R_drew HY1_4.out); have HG_ := Aside0.mk (Kd.R_drew HG.out); have BA0_ := Aside0.mk (blk_drew BA0.out); have BA1_ := Aside0.mk (blk_drew BA1.out); have BX0_ := Aside0.mk (blk_drew BX0.out); have BX1_ := Aside0.mk (blk_drew BX1.out); have HB_ := Aside0.mk (below_drew1 HB.out); clear HS HY0_0 HY0_1 HY1_4 HG BA0 BA1 BX0 BX1 HB; have HS := HS_; have HY0_0 := HY0_0_; have HY0_1 := HY0_1_; have HY1_4 := HY1_4_; have HG := HG_; have BA0 := BA0_; have BA1 := BA1_; have BX0 := BX0_; have BX1 := BX1_; have HB := HB_; clear HS_ HY0_0_ HY0_1_ HY1_4_ HG_ BA0_ BA1_ BX0_ BX1_ HB_; clear hcBA00 hfBA00 hcBA01 hfBA01 hcBA10 hfBA10 hcBA11 hfBA11 hcBA12 hfBA12 hcBA13 hfBA13 hcBA14 hfBA14 hcBX00 hfBX00 hcBX01 hfBX01 hcBX10 hfBX10 hcBX11 hfBX11 hcBX12 hfBX12 hcBX13 hfBX13 hcBX14 hfBX14; refine start_ (n := 5) (S := fun w' => w'.cell? ⟨gx0, 0, none⟩ = some (.slice Ax0_0 x0_0.length cx0_0) ∧ w'.cell? ⟨gx0, 1, none⟩ = some (.slice Ax0_1 x0_1.length cx0_1) ∧ w'.cell? ⟨ga0, 0, none⟩ = some (.slice A0_0 l0_0.length c0_0) ∧ w'.cell? ⟨ga0, 1, none⟩ = some (.slice A0_1 l0_1.length c0_1)) (ds := []) #[false, false, false, false, false] kr_ rfl rfl ⟨(blk_cell BX0.out 0).trans rfl, (blk_cell BX0.out 1).trans rfl, (blk_cell BA0.out 0).trans rfl, (blk_cell BA0.out 1).trans rfl⟩ (fun hHeld => ?_); generalize w16.drew = w17 at HS HY0_0 HY0_1 HY1_4 HG BA0 BA1 BX0 BX1 HB hHeld ⊢; refine take_ (i := 0) (N := some 54) (v := ?_) (a' := ?_) #[true, false, false, false, false] rfl rfl kr_ (fun _ _ _ h => h) (Or.inl ⟨by rfl, ?_⟩) hHeld ?_ ?_; rotate_left
   ·rintro w' ⟨s0_, s1_, s2_, s3_⟩; go_simp; with_reducible rfl
   rotate_left
   ·simp only [Act.put, qa_, qz_, qs_, i64_w, i32_w]; rfl
   refine take_ (i := 1) (N := some 55) (v := ?_) (a' := ?_) #[true, true, false, false, false] rfl rfl kr_ (fun _ _ _ h => h) (Or.inl ⟨by rfl, ?_⟩) hHeld ?_ ?_; rotate_left
   ·rintro w' ⟨s0_, s1_, s2_, s3_⟩; go_simp; with_reducible rfl
   rotate_left
   ·simp only [Act.put, qa_, qz_, qs_, i64_w, i32_w]; rfl
   refine one_ (i := 2) (N := some 56) #[true, true, true, false, false] rfl rfl kr_ (by decide) (fun K hK => ?_); refine goes_ Try.func12 kr_ rfl #[.agg #[.slice A0_0 l0_0.length c0_0, .slice A0_1 l0_1.length c0_1]] (by rfl) rfl rfl (by (try simp only [List.map_toArray, List.map_cons, List.map_nil]); first | done | rfl | (simp only [List.length_drop, List.length_take]; rfl)) ?_
   (with_reducible refine (laws_toGround.calls k A0_0 c0_0 l0_0 A0_1 c0_1 l0_1 x0_0 x0_1 _ (Kd.C_below HR0_0.out HB.out) HC0_0.out (Kd.C_below HR0_1.out HB.out) HC0_1.out BT0.out).mono ?_)
   rintro e w18 ⟨v0, v1, rfl, ho0, ho1, hb⟩; refine ⟨_, rfl, ?_⟩; have HT0_0 := Aside0.mk ho0; have HT0_1 := Aside0.mk ho1; have HB_ := Aside0.mk (below_step HB.out hb); have BA0_ := Aside0.mk (blk_below BA0.out hb); have BA1_ := Aside0.mk (blk_below BA1.out hb); have BX0_ := Aside0.mk (blk_below (g := gx0) (o := .cells #[.slice Ax0_0 x0_0.length cx0_0, .slice Ax0_1 x0_1.length cx0_1] 31 (0, 0)) BX0.out hb); have BX1_ := Aside0.mk (blk_below (g := gx1) (o := .cells #[.int .i64 x1_0, .int .i64 x1_1, .int .i64 x1_2, .int .i64 x1_3, .slice Ax1_4 x1_4.length cx1_4] 47 (0, 0)) BX1.out hb); have HS_ := Aside0.mk (Kd.R_below HS.out hb); have HY0_0_ := Aside0.mk (Kd.R_below HY0_0.out hb); have HY0_1_ := Aside0.mk (Kd.S_below HY0_1.out hb); have HY1_4_ := Aside0.mk (Kd.R_below HY1_4.out hb); have HG_ := Aside0.mk (Kd.R_below HG.out hb); clear hb ho0 ho1; clear HB BA0 BA1 BX0 BX1 HS HY0_0 HY0_1 HY1_4 HG; have HB := HB_; have BA0 := BA0_; have BA1 := BA1_; have BX0 := BX0_; have BX1 := BX1_; have HS := HS_; have HY0_0 := HY0_0_; have HY0_1 := HY0_1_; have HY1_4 := HY1_4_; have HG := HG_; clear HB_ BA0_ BA1_ BX0_ BX1_ HS_ HY0_0_ HY0_1_ HY1_4_ HG_; obtain ⟨hcBA00, hcBA01, hfBA00, hfBA01⟩ := cl2_ BA0.out; obtain ⟨hcBA10, hcBA11, hcBA12, hcBA13, hcBA14, hfBA10, hfBA11, hfBA12, hfBA13, hfBA14⟩ := cl5_ BA1.out; have hcBX00 : w18.cell? ⟨gx0, 0, none⟩ = some (.slice Ax0_0 x0_0.length cx0_0) := (blk_cell BX0.out 0).trans rfl; have hfBX00 := blk_frozen BX0.out 0; have hcBX01 : w18.cell? ⟨gx0, 1, none⟩ = some (.slice Ax0_1 x0_1.length cx0_1) := (blk_cell BX0.out 1).trans rfl; have hfBX01 := blk_frozen BX0.out 1; have hcBX10 : w18.cell? ⟨gx1, 0, none⟩ = some (.int .i64 x1_0) := (blk_cell BX1.out 0).trans rfl; have hfBX10 := blk_frozen BX1.out 0; have hcBX11 : w18.cell? ⟨gx1, 1, none⟩ = some (.int .i64 x1_1) := (blk_cell BX1.out 1).trans rfl; have hfBX11 := blk_frozen BX1.out 1; have hcBX12 : w18.cell? ⟨gx1, 2, none⟩ = some (.int .i64 x1_2) := (blk_cell BX1.out 2).trans rfl; have hfBX12 := blk_frozen BX1.out 2; have hcBX13 : w18.cell? ⟨gx1, 3, none⟩ = some (.int .i64 x1_3) := (blk_cell BX1.out 3).trans rfl; have hfBX13 := blk_frozen BX1.out 3; have hcBX14 : w18.cell? ⟨gx1, 4, none⟩ = some (.slice Ax1_4 x1_4.length cx1_4) := (blk_cell BX1.out 4).trans rfl; have hfBX14 := blk_frozen BX1.out 4; clear hcBA00 hfBA00 hcBA01 hfBA01 hcBA10 hfBA10 hcBA11 hfBA11 hcBA12 hfBA12 hcBA13 hfBA13 hcBA14 hfBA14 hcBX00 hfBX00 hcBX01 hfBX01 hcBX10 hfBX10 hcBX11 hfBX11 hcBX12 hfBX12 hcBX13 hfBX13 hcBX14 hfBX14; obtain ⟨Ar0_0, cr0_0, er0_0⟩ := Kd.R_slice HT0_0.out; subst er0_0; obtain ⟨Ar0_1, cr0_1, er0_1⟩ := Kd.S_slice HT0_1.out; subst er0_1; refine hK.out _ _ ⟨(blk_cell BX0.out 0).trans rfl, (blk_cell BX0.out 1).trans rfl, (blk_cell BA0.out 0).trans rfl, (blk_cell BA0.out 1).trans rfl⟩ (fun hHeld => ?_); clear hK K; refine norm_ (a' := ?_) ?_ ?_; rotate_left
   ·show Act.put _ (some 56) _ = _
    simp only [Act.put, qa_, qz_, qs_, i64_w, i32_w]; rfl
   refine one_ (i := 3) (N := some 57) #[true, true, true, true, false] rfl rfl kr_ (by decide) (fun K hK => ?_); refine goes_ Try.func15 kr_ rfl #[.agg #[.slice Ax0_0 x0_0.length cx0_0, .slice Ax0_1 x0_1.length cx0_1], .agg #[.slice Ar0_0 x0_0.length cr0_0, .slice Ar0_1 x0_1.length cr0_1]] (by rfl) rfl rfl (by (try simp only [List.map_toArray, List.map_cons, List.map_nil]); first | done | rfl | (simp only [List.length_drop, List.length_take]; rfl)) ?_
   (with_reducible refine (laws_eqGround.calls k Ax0_0 cx0_0 x0_0 Ax0_1 cx0_1 x0_1 Ar0_0 cr0_0 x0_0 Ar0_1 cr0_1 x0_1 true _ (Kd.R_reads' HY0_0.out).2.2 (Kd.R_reads' HY0_0.out).2.1 (Kd.S_reads' HY0_1.out).2.2 (Kd.S_reads' HY0_1.out).2.1 (Kd.R_reads' HT0_0.out).2.2 (Kd.R_reads' HT0_0.out).2.1 (Kd.S_reads' HT0_1.out).2.2 (Kd.S_reads' HT0_1.out).2.1 BQ0.out).mono ?_)
   rintro e w19 ⟨rfl, hb⟩; refine ⟨_, rfl, ?_⟩; have HB_ := Aside0.mk (below_step HB.out hb); have BA0_ := Aside0.mk (blk_below BA0.out hb); have BA1_ := Aside0.mk (blk_below BA1.out hb); have BX0_ := Aside0.mk (blk_below (g := gx0) (o := .cells #[.slice Ax0_0 x0_0.length cx0_0, .slice Ax0_1 x0_1.length cx0_1] 31 (0, 0)) BX0.out hb); have BX1_ := Aside0.mk (blk_below (g := gx1) (o := .cells #[.int .i64 x1_0, .int .i64 x1_1, .int .i64 x1_2, .int .i64 x1_3, .slice Ax1_4 x1_4.length cx1_4] 47 (0, 0)) BX1.out hb); have HS_ := Aside0.mk (Kd.R_below HS.out hb); have HY0_0_ := Aside0.mk (Kd.R_below HY0_0.out hb); have HY0_1_ := Aside0.mk (Kd.S_below HY0_1.out hb); have HY1_4_ := Aside0.mk (Kd.R_below HY1_4.out hb); have HG_ := Aside0.mk (Kd.R_below HG.out hb); clear hb HT0_0 HT0_1; clear HB BA0 BA1 BX0 BX1 HS HY0_0 HY0_1 HY1_4 HG; have HB := HB_; have BA0 := BA0_; have BA1 := BA1_; have BX0 := BX0_; have BX1 := BX1_; have HS := HS_; have HY0_0 := HY0_0_; have HY0_1 := HY0_1_; have HY1_4 := HY1_4_; have HG := HG_; clear HB_ BA0_ BA1_ BX0_ BX1_ HS_ HY0_0_ HY0_1_ HY1_4_ HG_; obtain ⟨hcBA00, hcBA01, hfBA00, hfBA01⟩ := cl2_ BA0.out; obtain ⟨hcBA10, hcBA11, hcBA12, hcBA13, hcBA14, hfBA10, hfBA11, hfBA12, hfBA13, hfBA14⟩ := cl5_ BA1.out; have hcBX00 : w19.cell? ⟨gx0, 0, none⟩ = some (.slice Ax0_0 x0_0.length cx0_0) := (blk_cell BX0.out 0).trans rfl; have hfBX00 := blk_frozen BX0.out 0; have hcBX01 : w19.cell? ⟨gx0, 1, none⟩ = some (.slice Ax0_1 x0_1.length cx0_1) := (blk_cell BX0.out 1).trans rfl; have hfBX01 := blk_frozen BX0.out 1; have hcBX10 : w19.cell? ⟨gx1, 0, none⟩ = some (.int .i64 x1_0) := (blk_cell BX1.out 0).trans rfl; have hfBX10 := blk_frozen BX1.out 0; have hcBX11 : w19.cell? ⟨gx1, 1, none⟩ = some (.int .i64 x1_1) := (blk_cell BX1.out 1).trans rfl; have hfBX11 := blk_frozen BX1.out 1; have hcBX12 : w19.cell? ⟨gx1, 2, none⟩ = some (.int .i64 x1_2) := (blk_cell BX1.out 2).trans rfl; have hfBX12 := blk_frozen BX1.out 2; have hcBX13 : w19.cell? ⟨gx1, 3, none⟩ = some (.int .i64 x1_3) := (blk_cell BX1.out 3).trans rfl; have hfBX13 := blk_frozen BX1.out 3; have hcBX14 : w19.cell? ⟨gx1, 4, none⟩ = some (.slice Ax1_4 x1_4.length cx1_4) := (blk_cell BX1.out 4).trans rfl; have hfBX14 := blk_frozen BX1.out 4; clear hcBA00 hfBA00 hcBA01 hfBA01 hcBA10 hfBA10 hcBA11 hfBA11 hcBA12 hfBA12 hcBA13 hfBA13 hcBA14 hfBA14 hcBX00 hfBX00 hcBX01 hfBX01 hcBX10 hfBX10 hcBX11 hfBX11 hcBX12 hfBX12 hcBX13 hfBX13 hcBX14 hfBX14; refine hK.out _ _ ⟨(blk_cell BX0.out 0).trans rfl, (blk_cell BX0.out 1).trans rfl, (blk_cell BA0.out 0).trans rfl, (blk_cell BA0.out 1).trans rfl⟩ (fun hHeld => ?_); clear hK K; refine norm_ (a' := ?_) ?_ ?_; rotate_left
   ·show Act.put _ (some 57) _ = _
    simp only [Act.put, qa_, qz_, qs_, i64_w, i32_w]; rfl
   refine pure_ (i := 4) (N := some 58) (v := ?_) (a' := ?_) #[true, true, true, true, true] rfl rfl kr_ (fun _ _ _ h => h) (Or.inl ⟨by rfl, ?_⟩) ?_ ?_; rotate_left
   ·intro w'; go_simp; with_reducible rfl
   rotate_left
   ·simp only [Act.put, qa_, qz_, qs_, i64_w, i32_w]; rfl
   refine done_ kr_ ?_; obtain ⟨hcBA00, hcBA01, hfBA00, hfBA01⟩ := cl2_ BA0.out; obtain ⟨hcBA10, hcBA11, hcBA12, hcBA13, hcBA14, hfBA10, hfBA11, hfBA12, hfBA13, hfBA14⟩ := cl5_ BA1.out; have hcBX00 : w19.cell? ⟨gx0, 0, none⟩ = some (.slice Ax0_0 x0_0.length cx0_0) := (blk_cell BX0.out 0).trans rfl; have hfBX00 := blk_frozen BX0.out 0; have hcBX01 : w19.cell? ⟨gx0, 1, none⟩ = some (.slice Ax0_1 x0_1.length cx0_1) := (blk_cell BX0.out 1).trans rfl; have hfBX01 := blk_frozen BX0.out 1; have hcBX10 : w19.cell? ⟨gx1, 0, none⟩ = some (.int .i64 x1_0) := (blk_cell BX1.out 0).trans rfl; have hfBX10 := blk_frozen BX1.out 0; have hcBX11 : w19.cell? ⟨gx1, 1, none⟩ = some (.int .i64 x1_1) := (blk_cell BX1.out 1).trans rfl; have hfBX11 := blk_frozen BX1.out 1; have hcBX12 : w19.cell? ⟨gx1, 2, none⟩ = some (.int .i64 x1_2) := (blk_cell BX1.out 2).trans rfl; have hfBX12 := blk_frozen BX1.out 2; have hcBX13 : w19.cell? ⟨gx1, 3, none⟩ = some (.int .i64 x1_3) := (blk_cell BX1.out 3).trans rfl; have hfBX13 := blk_frozen BX1.out 3; have hcBX14 : w19.cell? ⟨gx1, 4, none⟩ = some (.slice Ax1_4 x1_4.length cx1_4) := (blk_cell BX1.out 4).trans rfl; have hfBX14 := blk_frozen BX1.out 4; (try go_wp2); have HS_ := Aside0.mk (Kd.R_drew HS.out); have HY0_0_ := Aside0.mk (Kd.R_drew HY0_0.out); have HY0_1_ := Aside0.mk (Kd.S_drew HY0_1.out); have HY1_4_ := Aside0.mk (Kd.R_drew HY1_4.out); have HG_ := Aside0.mk (Kd.R_drew HG.out); have BA0_ := Aside0.mk (blk_drew BA0.out); have BA1_ := Aside0.mk (blk_drew BA1.out); have BX0_ := Aside0.mk (blk_drew BX0.out); have BX1_ := Aside0.mk (blk_drew BX1.out); have HB_ := Aside0.mk (below_drew1 HB.out); clear HS HY0_0 HY0_1 HY1_4 HG BA0 BA1 BX0 BX1 HB; have HS := HS_; have HY0_0 := HY0_0_; have HY0_1 := HY0_1_; have HY1_4 := HY1_4_; have HG := HG_; have BA0 := BA0_; have BA1 := BA1_; have BX0 := BX0_; have BX1 := BX1_; have HB := HB_; clear HS_ HY0_0_ HY0_1_ HY1_4_ HG_ BA0_ BA1_ BX0_ BX1_ HB_; clear hcBA00 hfBA00 hcBA01 hfBA01 hcBA10 hfBA10 hcBA11 hfBA11 hcBA12 hfBA12 hcBA13 hfBA13 hcBA14 hfBA14 hcBX00 hfBX00 hcBX01 hfBX01 hcBX10 hfBX10 hcBX11 hfBX11 hcBX12 hfBX12 hcBX13 hfBX13 hcBX14 hfBX14; refine start_ (n := 5) (S := fun w' => w'.cell? ⟨gx1, 0, none⟩ = some (.int .i64 x1_0) ∧ w'.cell? ⟨gx1, 1, none⟩ = some (.int .i64 x1_1) ∧ w'.cell? ⟨gx1, 2, none⟩ = some (.int .i64 x1_2) ∧ w'.cell? ⟨gx1, 3, none⟩ = some (.int .i64 x1_3) ∧ w'.cell? ⟨gx1, 4, none⟩ = some (.slice Ax1_4 x1_4.length cx1_4) ∧ w'.cell? ⟨ga1, 0, none⟩ = some (.int .i64 a1_0) ∧ w'.cell? ⟨ga1, 1, none⟩ = some (.int .i64 a1_1) ∧ w'.cell? ⟨ga1, 2, none⟩ = some (.int .i64 a1_2) ∧ w'.cell? ⟨ga1, 3, none⟩ = some (.int .i64 a1_3) ∧ w'.cell? ⟨ga1, 4, none⟩ = some (.slice A1_4 l1_4.length c1_4)) (ds := []) #[false, false, false, false, false] kr_ rfl rfl ⟨(blk_cell BX1.out 0).trans rfl, (blk_cell BX1.out 1).trans rfl, (blk_cell BX1.out 2).trans rfl, (blk_cell BX1.out 3).trans rfl, (blk_cell BX1.out 4).trans rfl, (blk_cell BA1.out 0).trans rfl, (blk_cell BA1.out 1).trans rfl, (blk_cell BA1.out 2).trans rfl, (blk_cell BA1.out 3).trans rfl, (blk_cell BA1.out 4).trans rfl⟩ (fun hHeld => ?_); generalize w19.drew = w20 at HS HY0_0 HY0_1 HY1_4 HG BA0 BA1 BX0 BX1 HB hHeld ⊢; refine take_ (i := 0) (N := some 59) (v := ?_) (a' := ?_) #[true, false, false, false, false] rfl rfl kr_ (fun _ _ _ h => h) (Or.inl ⟨by rfl, ?_⟩) hHeld ?_ ?_; rotate_left
   ·rintro w' ⟨s0_, s1_, s2_, s3_, s4_, s5_, s6_, s7_, s8_, s9_⟩; go_simp; with_reducible rfl
   rotate_left
   ·simp only [Act.put, qa_, qz_, qs_, i64_w, i32_w]; rfl
   refine take_ (i := 1) (N := some 60) (v := ?_) (a' := ?_) #[true, true, false, false, false] rfl rfl kr_ (fun _ _ _ h => h) (Or.inl ⟨by rfl, ?_⟩) hHeld ?_ ?_; rotate_left
   ·rintro w' ⟨s0_, s1_, s2_, s3_, s4_, s5_, s6_, s7_, s8_, s9_⟩; go_simp; with_reducible rfl
   rotate_left
   ·simp only [Act.put, qa_, qz_, qs_, i64_w, i32_w]; rfl
   refine one_ (i := 2) (N := some 61) #[true, true, true, false, false] rfl rfl kr_ (by decide) (fun K hK => ?_); refine goes_ Try.func40 kr_ rfl #[.agg #[.int .i64 a1_0, .int .i64 a1_1, .int .i64 a1_2, .int .i64 a1_3, .slice A1_4 l1_4.length c1_4]] (by rfl) rfl rfl (by (try simp only [List.map_toArray, List.map_cons, List.map_nil]); first | done | rfl | (simp only [List.length_drop, List.length_take]; rfl)) ?_
   (with_reducible refine (laws_toAxis.calls k a1_0 a1_1 a1_2 a1_3 A1_4 c1_4 l1_4 x1_0 x1_1 x1_2 x1_3 x1_4 _ (Kd.C_below HR1_4.out HB.out) HC1_4.out BT1.out).mono ?_)
   rintro e w21 ⟨v0, rfl, ho0, hb⟩; refine ⟨_, rfl, ?_⟩; have HT1_4 := Aside0.mk ho0; have HB_ := Aside0.mk (below_step HB.out hb); have BA0_ := Aside0.mk (blk_below BA0.out hb); have BA1_ := Aside0.mk (blk_below BA1.out hb); have BX0_ := Aside0.mk (blk_below (g := gx0) (o := .cells #[.slice Ax0_0 x0_0.length cx0_0, .slice Ax0_1 x0_1.length cx0_1] 31 (0, 0)) BX0.out hb); have BX1_ := Aside0.mk (blk_below (g := gx1) (o := .cells #[.int .i64 x1_0, .int .i64 x1_1, .int .i64 x1_2, .int .i64 x1_3, .slice Ax1_4 x1_4.length cx1_4] 47 (0, 0)) BX1.out hb); have HS_ := Aside0.mk (Kd.R_below HS.out hb); have HY0_0_ := Aside0.mk (Kd.R_below HY0_0.out hb); have HY0_1_ := Aside0.mk (Kd.S_below HY0_1.out hb); have HY1_4_ := Aside0.mk (Kd.R_below HY1_4.out hb); have HG_ := Aside0.mk (Kd.R_below HG.out hb); clear hb ho0; clear HB BA0 BA1 BX0 BX1 HS HY0_0 HY0_1 HY1_4 HG; have HB := HB_; have BA0 := BA0_; have BA1 := BA1_; have BX0 := BX0_; have BX1 := BX1_; have HS := HS_; have HY0_0 := HY0_0_; have HY0_1 := HY0_1_; have HY1_4 := HY1_4_; have HG := HG_; clear HB_ BA0_ BA1_ BX0_ BX1_ HS_ HY0_0_ HY0_1_ HY1_4_ HG_; obtain ⟨hcBA00, hcBA01, hfBA00, hfBA01⟩ := cl2_ BA0.out; obtain ⟨hcBA10, hcBA11, hcBA12, hcBA13, hcBA14, hfBA10, hfBA11, hfBA12, hfBA13, hfBA14⟩ := cl5_ BA1.out; have hcBX00 : w21.cell? ⟨gx0, 0, none⟩ = some (.slice Ax0_0 x0_0.length cx0_0) := (blk_cell BX0.out 0).trans rfl; have hfBX00 := blk_frozen BX0.out 0; have hcBX01 : w21.cell? ⟨gx0, 1, none⟩ = some (.slice Ax0_1 x0_1.length cx0_1) := (blk_cell BX0.out 1).trans rfl; have hfBX01 := blk_frozen BX0.out 1; have hcBX10 : w21.cell? ⟨gx1, 0, none⟩ = some (.int .i64 x1_0) := (blk_cell BX1.out 0).trans rfl; have hfBX10 := blk_frozen BX1.out 0; have hcBX11 : w21.cell? ⟨gx1, 1, none⟩ = some (.int .i64 x1_1) := (blk_cell BX1.out 1).trans rfl; have hfBX11 := blk_frozen BX1.out 1; have hcBX12 : w21.cell? ⟨gx1, 2, none⟩ = some (.int .i64 x1_2) := (blk_cell BX1.out 2).trans rfl; have hfBX12 := blk_frozen BX1.out 2; have hcBX13 : w21.cell? ⟨gx1, 3, none⟩ = some (.int .i64 x1_3) := (blk_cell BX1.out 3).trans rfl; have hfBX13 := blk_frozen BX1.out 3; have hcBX14 : w21.cell? ⟨gx1, 4, none⟩ = some (.slice Ax1_4 x1_4.length cx1_4) := (blk_cell BX1.out 4).trans rfl; have hfBX14 := blk_frozen BX1.out 4; clear hcBA00 hfBA00 hcBA01 hfBA01 hcBA10 hfBA10 hcBA11 hfBA11 hcBA12 hfBA12 hcBA13 hfBA13 hcBA14 hfBA14 hcBX00 hfBX00 hcBX01 hfBX01 hcBX10 hfBX10 hcBX11 hfBX11 hcBX12 hfBX12 hcBX13 hfBX13 hcBX14 hfBX14; obtain ⟨Ar1_4, cr1_4, er1_4⟩ := Kd.R_slice HT1_4.out; subst er1_4; refine hK.out _ _ ⟨(blk_cell BX1.out 0).trans rfl, (blk_cell BX1.out 1).trans rfl, (blk_cell BX1.out 2).trans rfl, (blk_cell BX1.out 3).trans rfl, (blk_cell BX1.out 4).trans rfl, (blk_cell BA1.out 0).trans rfl, (blk_cell BA1.out 1).trans rfl, (blk_cell BA1.out 2).trans rfl, (blk_cell BA1.out 3).trans rfl, (blk_cell BA1.out 4).trans rfl⟩ (fun hHeld => ?_); clear hK K; refine norm_ (a' := ?_) ?_ ?_; rotate_left
   ·show Act.put _ (some 61) _ = _
    simp only [Act.put, qa_, qz_, qs_, i64_w, i32_w]; rfl
   refine one_ (i := 3) (N := some 62) #[true, true, true, true, false] rfl rfl kr_ (by decide) (fun K hK => ?_); refine goes_ Try.func41 kr_ rfl #[.agg #[.int .i64 x1_0, .int .i64 x1_1, .int .i64 x1_2, .int .i64 x1_3, .slice Ax1_4 x1_4.length cx1_4], .agg #[.int .i64 x1_0, .int .i64 x1_1, .int .i64 x1_2, .int .i64 x1_3, .slice Ar1_4 x1_4.length cr1_4]] (by rfl) rfl rfl (by (try simp only [List.map_toArray, List.map_cons, List.map_nil]); first | done | rfl | (simp only [List.length_drop, List.length_take]; rfl)) ?_
   (with_reducible refine (laws_eqAxis.calls k x1_0 x1_1 x1_2 x1_3 Ax1_4 cx1_4 x1_4 x1_0 x1_1 x1_2 x1_3 Ar1_4 cr1_4 x1_4 true _ (Kd.R_reads' HY1_4.out).2.2 (Kd.R_reads' HY1_4.out).2.1 (Kd.R_reads' HT1_4.out).2.2 (Kd.R_reads' HT1_4.out).2.1 BQ1.out).mono ?_)
   rintro e w22 ⟨rfl, hb⟩; refine ⟨_, rfl, ?_⟩; have HB_ := Aside0.mk (below_step HB.out hb); have BA0_ := Aside0.mk (blk_below BA0.out hb); have BA1_ := Aside0.mk (blk_below BA1.out hb); have BX0_ := Aside0.mk (blk_below (g := gx0) (o := .cells #[.slice Ax0_0 x0_0.length cx0_0, .slice Ax0_1 x0_1.length cx0_1] 31 (0, 0)) BX0.out hb); have BX1_ := Aside0.mk (blk_below (g := gx1) (o := .cells #[.int .i64 x1_0, .int .i64 x1_1, .int .i64 x1_2, .int .i64 x1_3, .slice Ax1_4 x1_4.length cx1_4] 47 (0, 0)) BX1.out hb); have HS_ := Aside0.mk (Kd.R_below HS.out hb); have HY0_0_ := Aside0.mk (Kd.R_below HY0_0.out hb); have HY0_1_ := Aside0.mk (Kd.S_below HY0_1.out hb); have HY1_4_ := Aside0.mk (Kd.R_below HY1_4.out hb); have HG_ := Aside0.mk (Kd.R_below HG.out hb); clear hb HT1_4; clear HB BA0 BA1 BX0 BX1 HS HY0_0 HY0_1 HY1_4 HG; have HB := HB_; have BA0 := BA0_; have BA1 := BA1_; have BX0 := BX0_; have BX1 := BX1_; have HS := HS_; have HY0_0 := HY0_0_; have HY0_1 := HY0_1_; have HY1_4 := HY1_4_; have HG := HG_; clear HB_ BA0_ BA1_ BX0_ BX1_ HS_ HY0_0_ HY0_1_ HY1_4_ HG_; obtain ⟨hcBA00, hcBA01, hfBA00, hfBA01⟩ := cl2_ BA0.out; obtain ⟨hcBA10, hcBA11, hcBA12, hcBA13, hcBA14, hfBA10, hfBA11, hfBA12, hfBA13, hfBA14⟩ := cl5_ BA1.out; have hcBX00 : w22.cell? ⟨gx0, 0, none⟩ = some (.slice Ax0_0 x0_0.length cx0_0) := (blk_cell BX0.out 0).trans rfl; have hfBX00 := blk_frozen BX0.out 0; have hcBX01 : w22.cell? ⟨gx0, 1, none⟩ = some (.slice Ax0_1 x0_1.length cx0_1) := (blk_cell BX0.out 1).trans rfl; have hfBX01 := blk_frozen BX0.out 1; have hcBX10 : w22.cell? ⟨gx1, 0, none⟩ = some (.int .i64 x1_0) := (blk_cell BX1.out 0).trans rfl; have hfBX10 := blk_frozen BX1.out 0; have hcBX11 : w22.cell? ⟨gx1, 1, none⟩ = some (.int .i64 x1_1) := (blk_cell BX1.out 1).trans rfl; have hfBX11 := blk_frozen BX1.out 1; have hcBX12 : w22.cell? ⟨gx1, 2, none⟩ = some (.int .i64 x1_2) := (blk_cell BX1.out 2).trans rfl; have hfBX12 := blk_frozen BX1.out 2; have hcBX13 : w22.cell? ⟨gx1, 3, none⟩ = some (.int .i64 x1_3) := (blk_cell BX1.out 3).trans rfl; have hfBX13 := blk_frozen BX1.out 3; have hcBX14 : w22.cell? ⟨gx1, 4, none⟩ = some (.slice Ax1_4 x1_4.length cx1_4) := (blk_cell BX1.out 4).trans rfl; have hfBX14 := blk_frozen BX1.out 4; clear hcBA00 hfBA00 hcBA01 hfBA01 hcBA10 hfBA10 hcBA11 hfBA11 hcBA12 hfBA12 hcBA13 hfBA13 hcBA14 hfBA14 hcBX00 hfBX00 hcBX01 hfBX01 hcBX10 hfBX10 hcBX11 hfBX11 hcBX12 hfBX12 hcBX13 hfBX13 hcBX14 hfBX14; refine hK.out _ _ ⟨(blk_cell BX1.out 0).trans rfl, (blk_cell BX1.out 1).trans rfl, (blk_cell BX1.out 2).trans rfl, (blk_cell BX1.out 3).trans rfl, (blk_cell BX1.out 4).trans rfl, (blk_cell BA1.out 0).trans rfl, (blk_cell BA1.out 1).trans rfl, (blk_cell BA1.out 2).trans rfl, (blk_cell BA1.out 3).trans rfl, (blk_cell BA1.out 4).trans rfl⟩ (fun hHeld => ?_); clear hK K; refine norm_ (a' := ?_) ?_ ?_; rotate_left
   ·show Act.put _ (some 62) _ = _
    simp only [Act.put, qa_, qz_, qs_, i64_w, i32_w]; rfl
   refine pure_ (i := 4) (N := some 63) (v := ?_) (a' := ?_) #[true, true, true, true, true] rfl rfl kr_ (fun _ _ _ h => h) (Or.inl ⟨by rfl, ?_⟩) ?_ ?_; rotate_left
   ·intro w'; go_simp; with_reducible rfl
   rotate_left
   ·simp only [Act.put, qa_, qz_, qs_, i64_w, i32_w]; rfl
   refine done_ kr_ ?_; obtain ⟨hcBA00, hcBA01, hfBA00, hfBA01⟩ := cl2_ BA0.out; obtain ⟨hcBA10, hcBA11, hcBA12, hcBA13, hcBA14, hfBA10, hfBA11, hfBA12, hfBA13, hfBA14⟩ := cl5_ BA1.out; have hcBX00 : w22.cell? ⟨gx0, 0, none⟩ = some (.slice Ax0_0 x0_0.length cx0_0) := (blk_cell BX0.out 0).trans rfl; have hfBX00 := blk_frozen BX0.out 0; have hcBX01 : w22.cell? ⟨gx0, 1, none⟩ = some (.slice Ax0_1 x0_1.length cx0_1) := (blk_cell BX0.out 1).trans rfl; have hfBX01 := blk_frozen BX0.out 1; have hcBX10 : w22.cell? ⟨gx1, 0, none⟩ = some (.int .i64 x1_0) := (blk_cell BX1.out 0).trans rfl; have hfBX10 := blk_frozen BX1.out 0; have hcBX11 : w22.cell? ⟨gx1, 1, none⟩ = some (.int .i64 x1_1) := (blk_cell BX1.out 1).trans rfl; have hfBX11 := blk_frozen BX1.out 1; have hcBX12 : w22.cell? ⟨gx1, 2, none⟩ = some (.int .i64 x1_2) := (blk_cell BX1.out 2).trans rfl; have hfBX12 := blk_frozen BX1.out 2; have hcBX13 : w22.cell? ⟨gx1, 3, none⟩ = some (.int .i64 x1_3) := (blk_cell BX1.out 3).trans rfl; have hfBX13 := blk_frozen BX1.out 3; have hcBX14 : w22.cell? ⟨gx1, 4, none⟩ = some (.slice Ax1_4 x1_4.length cx1_4) := (blk_cell BX1.out 4).trans rfl; have hfBX14 := blk_frozen BX1.out 4
   go_wp2_with (first | (go_at_call 16; (with_reducible refine (laws_markGround.calls k (fun q => (w8.heap.size ≤ q ∧ q < w9.heap.size) ∧ some q = (.slice Ax0_0 x0_0.length cx0_0 : Value).ownBlock) _ x0_0 (fun q => (w8.heap.size ≤ q ∧ q < w9.heap.size) ∧ some q ≠ (.slice Ax0_0 x0_0.length cx0_0 : Value).ownBlock) _ x0_1 1 q0 m0_0 m0_1 w _ HB.out (Kd.R_lower HY0_0.out NL0.out) (Kd.S_lower HY0_1.out NL0.out) (fun q h1 h2 => absurd h1.2 h2.2) BM0.out).mono ?_); rintro e w23 ⟨rfl, hb, hk⟩; have HB_ := Aside0.mk hb; have BA0_ := Aside0.mk ((hk.2 ga0 (blk_lt BA0.out) (fun hs => by have i_ : w8.heap.size ≤ _ ∧ _ < w9.heap.size := hs.elim (fun h => h.1) (fun h => h.1); have z0_ := HA0.out; have z1_ := HA1.out; have z2_ := Z1.out; have z3_ := GX0.out; have z4_ := GY0.out; have z5_ := Z2.out; have z6_ := Z3.out; have z7_ := GX1.out; have z8_ := GY1.out; have z9_ := Z4.out; omega)).trans BA0.out); have BA1_ := Aside0.mk ((hk.2 ga1 (blk_lt BA1.out) (fun hs => by have i_ : w8.heap.size ≤ _ ∧ _ < w9.heap.size := hs.elim (fun h => h.1) (fun h => h.1); have z0_ := HA0.out; have z1_ := HA1.out; have z2_ := Z1.out; have z3_ := GX0.out; have z4_ := GY0.out; have z5_ := Z2.out; have z6_ := Z3.out; have z7_ := GX1.out; have z8_ := GY1.out; have z9_ := Z4.out; omega)).trans BA1.out); have BX1_ := Aside0.mk ((hk.2 gx1 (blk_lt BX1.out) (fun hs => by have i_ : w8.heap.size ≤ _ ∧ _ < w9.heap.size := hs.elim (fun h => h.1) (fun h => h.1); have z0_ := HA0.out; have z1_ := HA1.out; have z2_ := Z1.out; have z3_ := GX0.out; have z4_ := GY0.out; have z5_ := Z2.out; have z6_ := Z3.out; have z7_ := GX1.out; have z8_ := GY1.out; have z9_ := Z4.out; omega)).trans BX1.out); have HS_ := Aside0.mk (Kd.R_step HS.out (fun q hq hlt => hk.2 q hlt (fun hs => by have i_ : w8.heap.size ≤ _ ∧ _ < w9.heap.size := hs.elim (fun h => h.1) (fun h => h.1); have y_ : q < w8.heap.size := hq; have z0_ := HA0.out; have z1_ := HA1.out; have z2_ := Z1.out; have z3_ := GX0.out; have z4_ := GY0.out; have z5_ := Z2.out; have z6_ := Z3.out; have z7_ := GX1.out; have z8_ := GY1.out; have z9_ := Z4.out; omega))); have HY1_4_ := Aside0.mk (Kd.R_step HY1_4.out (fun q hq hlt => hk.2 q hlt (fun hs => by have i_ : w8.heap.size ≤ _ ∧ _ < w9.heap.size := hs.elim (fun h => h.1) (fun h => h.1); have y_ : w11.heap.size ≤ q ∧ q < w12.heap.size := hq.1; have z0_ := HA0.out; have z1_ := HA1.out; have z2_ := Z1.out; have z3_ := GX0.out; have z4_ := GY0.out; have z5_ := Z2.out; have z6_ := Z3.out; have z7_ := GX1.out; have z8_ := GY1.out; have z9_ := Z4.out; omega))); have HG_ := Aside0.mk (Kd.R_step HG.out (fun q hq hlt => hk.2 q hlt (fun hs => by have i_ : w8.heap.size ≤ _ ∧ _ < w9.heap.size := hs.elim (fun h => h.1) (fun h => h.1); have y_ : w14.heap.size ≤ q := hq; have z0_ := HA0.out; have z1_ := HA1.out; have z2_ := Z1.out; have z3_ := GX0.out; have z4_ := GY0.out; have z5_ := Z2.out; have z6_ := Z3.out; have z7_ := GX1.out; have z8_ := GY1.out; have z9_ := Z4.out; omega))); clear hb hk HY0_0 HY0_1 BX0; clear HB BA0 BA1 BX1 HS HY1_4 HG; have HB := HB_; have BA0 := BA0_; have BA1 := BA1_; have BX1 := BX1_; have HS := HS_; have HY1_4 := HY1_4_; have HG := HG_; clear HB_ BA0_ BA1_ BX1_ HS_ HY1_4_ HG_; clear hcBA00 hfBA00 hcBA01 hfBA01 hcBA10 hfBA10 hcBA11 hfBA11 hcBA12 hfBA12 hcBA13 hfBA13 hcBA14 hfBA14 hcBX00 hfBX00 hcBX01 hfBX01 hcBX10 hfBX10 hcBX11 hfBX11 hcBX12 hfBX12 hcBX13 hfBX13 hcBX14 hfBX14; obtain ⟨hcBA00, hcBA01, hfBA00, hfBA01⟩ := cl2_ BA0.out; obtain ⟨hcBA10, hcBA11, hcBA12, hcBA13, hcBA14, hfBA10, hfBA11, hfBA12, hfBA13, hfBA14⟩ := cl5_ BA1.out; have hcBX10 : w23.cell? ⟨gx1, 0, none⟩ = some (.int .i64 x1_0) := (blk_cell BX1.out 0).trans rfl; have hfBX10 := blk_frozen BX1.out 0; have hcBX11 : w23.cell? ⟨gx1, 1, none⟩ = some (.int .i64 x1_1) := (blk_cell BX1.out 1).trans rfl; have hfBX11 := blk_frozen BX1.out 1; have hcBX12 : w23.cell? ⟨gx1, 2, none⟩ = some (.int .i64 x1_2) := (blk_cell BX1.out 2).trans rfl; have hfBX12 := blk_frozen BX1.out 2; have hcBX13 : w23.cell? ⟨gx1, 3, none⟩ = some (.int .i64 x1_3) := (blk_cell BX1.out 3).trans rfl; have hfBX13 := blk_frozen BX1.out 3; have hcBX14 : w23.cell? ⟨gx1, 4, none⟩ = some (.slice Ax1_4 x1_4.length cx1_4) := (blk_cell BX1.out 4).trans rfl; have hfBX14 := blk_frozen BX1.out 4))
   go_wp2_with (first | (go_at_call 42; (with_reducible refine (laws_markAxis.calls k x1_0 x1_1 x1_2 x1_3 (fun q => (w11.heap.size ≤ q ∧ q < w12.heap.size) ∧ True) _ x1_4 q0 q1 m1_0 w _ HB.out (Kd.R_lower HY1_4.out NL1.out) BM1.out).mono ?_); rintro e w24 ⟨rfl, hy0, hb, hk⟩; have HB_ := Aside0.mk hb; have BA0_ := Aside0.mk ((hk.2 ga0 (blk_lt BA0.out) (fun hs => by have i_ : w11.heap.size ≤ _ ∧ _ < w12.heap.size := hs.1; have z0_ := HA0.out; have z1_ := HA1.out; have z2_ := Z1.out; have z3_ := GX0.out; have z4_ := GY0.out; have z5_ := Z2.out; have z6_ := Z3.out; have z7_ := GX1.out; have z8_ := GY1.out; have z9_ := Z4.out; omega)).trans BA0.out); have BA1_ := Aside0.mk ((hk.2 ga1 (blk_lt BA1.out) (fun hs => by have i_ : w11.heap.size ≤ _ ∧ _ < w12.heap.size := hs.1; have z0_ := HA0.out; have z1_ := HA1.out; have z2_ := Z1.out; have z3_ := GX0.out; have z4_ := GY0.out; have z5_ := Z2.out; have z6_ := Z3.out; have z7_ := GX1.out; have z8_ := GY1.out; have z9_ := Z4.out; omega)).trans BA1.out); have HS_ := Aside0.mk (Kd.R_step HS.out (fun q hq hlt => hk.2 q hlt (fun hs => by have i_ : w11.heap.size ≤ _ ∧ _ < w12.heap.size := hs.1; have y_ : q < w8.heap.size := hq; have z0_ := HA0.out; have z1_ := HA1.out; have z2_ := Z1.out; have z3_ := GX0.out; have z4_ := GY0.out; have z5_ := Z2.out; have z6_ := Z3.out; have z7_ := GX1.out; have z8_ := GY1.out; have z9_ := Z4.out; omega))); have HG_ := Aside0.mk (Kd.R_step HG.out (fun q hq hlt => hk.2 q hlt (fun hs => by have i_ : w11.heap.size ≤ _ ∧ _ < w12.heap.size := hs.1; have y_ : w14.heap.size ≤ q := hq; have z0_ := HA0.out; have z1_ := HA1.out; have z2_ := Z1.out; have z3_ := GX0.out; have z4_ := GY0.out; have z5_ := Z2.out; have z6_ := Z3.out; have z7_ := GX1.out; have z8_ := GY1.out; have z9_ := Z4.out; omega))); clear hy0 hb hk HY1_4 BX1; clear HB BA0 BA1 HS HG; have HB := HB_; have BA0 := BA0_; have BA1 := BA1_; have HS := HS_; have HG := HG_; clear HB_ BA0_ BA1_ HS_ HG_; clear hcBA00 hfBA00 hcBA01 hfBA01 hcBA10 hfBA10 hcBA11 hfBA11 hcBA12 hfBA12 hcBA13 hfBA13 hcBA14 hfBA14 hcBX10 hfBX10 hcBX11 hfBX11 hcBX12 hfBX12 hcBX13 hfBX13 hcBX14 hfBX14; obtain ⟨hcBA00, hcBA01, hfBA00, hfBA01⟩ := cl2_ BA0.out; obtain ⟨hcBA10, hcBA11, hcBA12, hcBA13, hcBA14, hfBA10, hfBA11, hfBA12, hfBA13, hfBA14⟩ := cl5_ BA1.out))
   go_wp2_with (first | (go_at_call 14; (with_reducible refine (laws_eqInt64S.calls k Ag cg g0 As cs s0 true _ (Kd.R_reads' HG.out).2.2 (Kd.R_reads' HG.out).2.1 (Kd.R_reads' HS.out).2.2 (Kd.R_reads' HS.out).2.1 BE.out).mono ?_); rintro e w25 ⟨rfl, hd⟩; have hb := DB.out hd; have HB_ := Aside0.mk (below_step HB.out hb); have BA0_ := Aside0.mk (blk_below BA0.out hb); have BA1_ := Aside0.mk (blk_below BA1.out hb); have HS_ := Aside0.mk (Kd.R_below HS.out hb); have HG_ := Aside0.mk (Kd.R_below HG.out hb); clear hb hd; clear HB BA0 BA1 HS HG; have HB := HB_; have BA0 := BA0_; have BA1 := BA1_; have HS := HS_; have HG := HG_; clear HB_ BA0_ BA1_ HS_ HG_; clear hcBA00 hfBA00 hcBA01 hfBA01 hcBA10 hfBA10 hcBA11 hfBA11 hcBA12 hfBA12 hcBA13 hfBA13 hcBA14 hfBA14; obtain ⟨hcBA00, hcBA01, hfBA00, hfBA01⟩ := cl2_ BA0.out; obtain ⟨hcBA10, hcBA11, hcBA12, hcBA13, hcBA14, hfBA10, hfBA11, hfBA12, hfBA13, hfBA14⟩ := cl5_ BA1.out))
   have NH := Aside0.mk HB.out.size
   go_wp2_with (first | (go_at_call 17; (with_reducible refine (laws_markInt64S.calls k (fun q => w14.heap.size ≤ q) _ g0 1 th lk w _ HB.out (Kd.R_lower HG.out NG.out) BK.out).mono ?_); rintro e w26 ⟨rfl, hy, hb, hk⟩; have HB_ := Aside0.mk hb; have BA0_ := Aside0.mk ((hk.2 ga0 (blk_lt BA0.out) (fun hs => by have i_ : w14.heap.size ≤ _ := hs; have z0_ := HA0.out; have z1_ := HA1.out; have z2_ := Z1.out; have z3_ := GX0.out; have z4_ := GY0.out; have z5_ := Z2.out; have z6_ := Z3.out; have z7_ := GX1.out; have z8_ := GY1.out; have z9_ := Z4.out; omega)).trans BA0.out); have BA1_ := Aside0.mk ((hk.2 ga1 (blk_lt BA1.out) (fun hs => by have i_ : w14.heap.size ≤ _ := hs; have z0_ := HA0.out; have z1_ := HA1.out; have z2_ := Z1.out; have z3_ := GX0.out; have z4_ := GY0.out; have z5_ := Z2.out; have z6_ := Z3.out; have z7_ := GX1.out; have z8_ := GY1.out; have z9_ := Z4.out; omega)).trans BA1.out); have HS_ := Aside0.mk (Kd.R_step HS.out (fun q hq hlt => hk.2 q hlt (fun hs => by have y_ : q < w8.heap.size := hq; have i_ : w14.heap.size ≤ q := hs; have z0_ := HA0.out; have z1_ := HA1.out; have z2_ := Z1.out; have z3_ := GX0.out; have z4_ := GY0.out; have z5_ := Z2.out; have z6_ := Z3.out; have z7_ := GX1.out; have z8_ := GY1.out; have z9_ := Z4.out; omega))); have HG_ := Aside0.mk hy; clear hy hb hk; clear HB BA0 BA1 HS HG; have HB := HB_; have BA0 := BA0_; have BA1 := BA1_; have HS := HS_; have HG := HG_; clear HB_ BA0_ BA1_ HS_ HG_; clear hcBA00 hfBA00 hcBA01 hfBA01 hcBA10 hfBA10 hcBA11 hfBA11 hcBA12 hfBA12 hcBA13 hfBA13 hcBA14 hfBA14; obtain ⟨hcBA00, hcBA01, hfBA00, hfBA01⟩ := cl2_ BA0.out; obtain ⟨hcBA10, hcBA11, hcBA12, hcBA13, hcBA14, hfBA10, hfBA11, hfBA12, hfBA13, hfBA14⟩ := cl5_ BA1.out))
   have HL := Aside0.mk (Kd.R_reads' HG.out).1; rw [HL.out]
   go_wp2_with (first | (go_at_call 18; (with_reducible refine (laws_heldInt64S.calls k Ag cg lk 1 th _ (Kd.R_reads' HG.out).2.2 (by have z_ := (Kd.R_reads' HG.out).2.1; rw [HL.out] at z_; exact z_) BH.out).mono ?_); rintro e w27 ⟨rfl, hd⟩; have hb := DB.out hd; have HB_ := Aside0.mk (below_step HB.out hb); have BA0_ := Aside0.mk (blk_below BA0.out hb); have BA1_ := Aside0.mk (blk_below BA1.out hb); have HS_ := Aside0.mk (Kd.R_below HS.out hb); have HG_ := Aside0.mk (Kd.R_below HG.out hb); clear hb hd; clear HB BA0 BA1 HS HG; have HB := HB_; have BA0 := BA0_; have BA1 := BA1_; have HS := HS_; have HG := HG_; clear HB_ BA0_ BA1_ HS_ HG_; clear hcBA00 hfBA00 hcBA01 hfBA01 hcBA10 hfBA10 hcBA11 hfBA11 hcBA12 hfBA12 hcBA13 hfBA13 hcBA14 hfBA14; obtain ⟨hcBA00, hcBA01, hfBA00, hfBA01⟩ := cl2_ BA0.out; obtain ⟨hcBA10, hcBA11, hcBA12, hcBA13, hcBA14, hfBA10, hfBA11, hfBA12, hfBA13, hfBA14⟩ := cl5_ BA1.out))
   (try go_wp2); have HS_ := Aside0.mk (Kd.R_drew HS.out); have HG_ := Aside0.mk (Kd.R_drew HG.out); have BA0_ := Aside0.mk (blk_drew BA0.out); have BA1_ := Aside0.mk (blk_drew BA1.out); have HB_ := Aside0.mk (below_drew1 HB.out); clear HS HG BA0 BA1 HB; have HS := HS_; have HG := HG_; have BA0 := BA0_; have BA1 := BA1_; have HB := HB_; clear HS_ HG_ BA0_ BA1_ HB_; clear hcBA00 hfBA00 hcBA01 hfBA01 hcBA10 hfBA10 hcBA11 hfBA11 hcBA12 hfBA12 hcBA13 hfBA13 hcBA14 hfBA14; refine start_ (n := 10) (S := fun w' => w'.cell? ⟨ga0, 0, none⟩ = some (.slice A0_0 l0_0.length c0_0) ∧ w'.cell? ⟨ga0, 1, none⟩ = some (.slice A0_1 l0_1.length c0_1) ∧ w'.cell? ⟨ga1, 0, none⟩ = some (.int .i64 a1_0) ∧ w'.cell? ⟨ga1, 1, none⟩ = some (.int .i64 a1_1) ∧ w'.cell? ⟨ga1, 2, none⟩ = some (.int .i64 a1_2) ∧ w'.cell? ⟨ga1, 3, none⟩ = some (.int .i64 a1_3) ∧ w'.cell? ⟨ga1, 4, none⟩ = some (.slice A1_4 l1_4.length c1_4)) (ds := []) p41_15000 kr_ rfl rfl ⟨(blk_cell BA0.out 0).trans rfl, (blk_cell BA0.out 1).trans rfl, (blk_cell BA1.out 0).trans rfl, (blk_cell BA1.out 1).trans rfl, (blk_cell BA1.out 2).trans rfl, (blk_cell BA1.out 3).trans rfl, (blk_cell BA1.out 4).trans rfl⟩ (fun hHeld => ?_); generalize w27.drew = w28 at HS HG BA0 BA1 HB hHeld ⊢; refine take_ (i := 0) (N := some 95) (v := ?_) (a' := ?_) p41_15001 rfl rfl kr_ (fun _ _ _ h => h) (Or.inl ⟨by rfl, ?_⟩) hHeld ?_ ?_; rotate_left
   ·rintro w' ⟨s0_, s1_, s2_, s3_, s4_, s5_, s6_⟩; go_simp; with_reducible rfl
   rotate_left
   ·simp only [Act.put, qa_, qz_, qs_, i64_w, i32_w]; rfl
   refine take_ (i := 2) (N := some 97) (v := ?_) (a' := ?_) p41_15002 rfl rfl kr_ (fun _ _ _ h => h) (Or.inl ⟨by rfl, ?_⟩) hHeld ?_ ?_; rotate_left
   ·rintro w' ⟨s0_, s1_, s2_, s3_, s4_, s5_, s6_⟩; go_simp; with_reducible rfl
   rotate_left
   ·simp only [Act.put, qa_, qz_, qs_, i64_w, i32_w]; rfl
   refine one_ (i := 1) (N := some 96) p41_15003 rfl rfl kr_ (by decide) (fun K hK => ?_); refine goes_ Try.func12 kr_ rfl #[.agg #[.slice A0_0 l0_0.length c0_0, .slice A0_1 l0_1.length c0_1]] (by rfl) rfl rfl (by (try simp only [List.map_toArray, List.map_cons, List.map_nil]); first | done | rfl | (simp only [List.length_drop, List.length_take]; rfl)) ?_
   (with_reducible refine (laws_toGround.calls k A0_0 c0_0 l0_0 A0_1 c0_1 l0_1 x0_0 x0_1 _ (Kd.C_below HR0_0.out HB.out) HC0_0.out (Kd.C_below HR0_1.out HB.out) HC0_1.out BT0.out).mono ?_)
   rintro e w29 ⟨v0, v1, rfl, ho0, ho1, hb⟩; refine ⟨_, rfl, ?_⟩; have HX0_0 := Aside0.mk ho0; have HX0_1 := Aside0.mk ho1; have HB_ := Aside0.mk (below_step HB.out hb); have BA0_ := Aside0.mk (blk_below BA0.out hb); have BA1_ := Aside0.mk (blk_below BA1.out hb); have HS_ := Aside0.mk (Kd.R_below HS.out hb); have HG_ := Aside0.mk (Kd.R_below HG.out hb); clear hb ho0 ho1; clear HB BA0 BA1 HS HG; have HB := HB_; have BA0 := BA0_; have BA1 := BA1_; have HS := HS_; have HG := HG_; clear HB_ BA0_ BA1_ HS_ HG_; obtain ⟨hcBA00, hcBA01, hfBA00, hfBA01⟩ := cl2_ BA0.out; obtain ⟨hcBA10, hcBA11, hcBA12, hcBA13, hcBA14, hfBA10, hfBA11, hfBA12, hfBA13, hfBA14⟩ := cl5_ BA1.out; clear hcBA00 hfBA00 hcBA01 hfBA01 hcBA10 hfBA10 hcBA11 hfBA11 hcBA12 hfBA12 hcBA13 hfBA13 hcBA14 hfBA14; obtain ⟨Ar0_0, cr0_0, er0_0⟩ := Kd.R_slice HX0_0.out; subst er0_0; obtain ⟨Ar0_1, cr0_1, er0_1⟩ := Kd.S_slice HX0_1.out; subst er0_1; refine hK.out _ _ ⟨(blk_cell BA0.out 0).trans rfl, (blk_cell BA0.out 1).trans rfl, (blk_cell BA1.out 0).trans rfl, (blk_cell BA1.out 1).trans rfl, (blk_cell BA1.out 2).trans rfl, (blk_cell BA1.out 3).trans rfl, (blk_cell BA1.out 4).trans rfl⟩ (fun hHeld => ?_); clear hK K; refine norm_ (a' := ?_) ?_ ?_; rotate_left
   ·show Act.put _ (some 96) _ = _
    simp only [Act.put, qa_, qz_, qs_, i64_w, i32_w]; rfl
   refine one_ (i := 3) (N := some 98) p41_15004 rfl rfl kr_ (by decide) (fun K hK => ?_); refine goes_ Try.func40 kr_ rfl #[.agg #[.int .i64 a1_0, .int .i64 a1_1, .int .i64 a1_2, .int .i64 a1_3, .slice A1_4 l1_4.length c1_4]] (by rfl) rfl rfl (by (try simp only [List.map_toArray, List.map_cons, List.map_nil]); first | done | rfl | (simp only [List.length_drop, List.length_take]; rfl)) ?_
   (with_reducible refine (laws_toAxis.calls k a1_0 a1_1 a1_2 a1_3 A1_4 c1_4 l1_4 x1_0 x1_1 x1_2 x1_3 x1_4 _ (Kd.C_below HR1_4.out HB.out) HC1_4.out BT1.out).mono ?_)
   rintro e w30 ⟨v0, rfl, ho0, hb⟩; refine ⟨_, rfl, ?_⟩; have HX1_4 := Aside0.mk ho0; have HB_ := Aside0.mk (below_step HB.out hb); have BA0_ := Aside0.mk (blk_below BA0.out hb); have BA1_ := Aside0.mk (blk_below BA1.out hb); have HS_ := Aside0.mk (Kd.R_below HS.out hb); have HG_ := Aside0.mk (Kd.R_below HG.out hb); have HX0_0_ := Aside0.mk (Kd.R_below HX0_0.out hb); have HX0_1_ := Aside0.mk (Kd.S_below HX0_1.out hb); clear hb ho0; clear HB BA0 BA1 HS HG HX0_0 HX0_1; have HB := HB_; have BA0 := BA0_; have BA1 := BA1_; have HS := HS_; have HG := HG_; have HX0_0 := HX0_0_; have HX0_1 := HX0_1_; clear HB_ BA0_ BA1_ HS_ HG_ HX0_0_ HX0_1_; obtain ⟨hcBA00, hcBA01, hfBA00, hfBA01⟩ := cl2_ BA0.out; obtain ⟨hcBA10, hcBA11, hcBA12, hcBA13, hcBA14, hfBA10, hfBA11, hfBA12, hfBA13, hfBA14⟩ := cl5_ BA1.out; clear hcBA00 hfBA00 hcBA01 hfBA01 hcBA10 hfBA10 hcBA11 hfBA11 hcBA12 hfBA12 hcBA13 hfBA13 hcBA14 hfBA14; obtain ⟨Ar1_4, cr1_4, er1_4⟩ := Kd.R_slice HX1_4.out; subst er1_4; refine hK.out _ _ ⟨(blk_cell BA0.out 0).trans rfl, (blk_cell BA0.out 1).trans rfl, (blk_cell BA1.out 0).trans rfl, (blk_cell BA1.out 1).trans rfl, (blk_cell BA1.out 2).trans rfl, (blk_cell BA1.out 3).trans rfl, (blk_cell BA1.out 4).trans rfl⟩ (fun hHeld => ?_); clear hK K; refine norm_ (a' := ?_) ?_ ?_; rotate_left
   ·show Act.put _ (some 98) _ = _
    simp only [Act.put, qa_, qz_, qs_, i64_w, i32_w]; rfl
   refine one_ (i := 4) (N := some 99) p41_15005 rfl rfl kr_ (by decide) (fun K hK => ?_); refine goes_ Try.func25 kr_ rfl #[.agg #[.slice Ar0_0 x0_0.length cr0_0, .slice Ar0_1 x0_1.length cr0_1], .agg #[.int .i64 x1_0, .int .i64 x1_1, .int .i64 x1_2, .int .i64 x1_3, .slice Ar1_4 x1_4.length cr1_4]] (by rfl) rfl rfl (by (try simp only [List.map_toArray, List.map_cons, List.map_nil]); first | done | rfl | (simp only [List.length_drop, List.length_take]; rfl)) ?_
   (with_reducible refine (impl_ClassesAlong.calls k Ar0_0 cr0_0 x0_0 Ar0_1 cr0_1 x0_1 x1_0 x1_1 x1_2 x1_3 Ar1_4 cr1_4 x1_4 g0 g1 _ (Kd.R_reads' HX0_0.out).2.2 (Kd.R_reads' HX0_0.out).2.1 (Kd.S_reads' HX0_1.out).2.2 (Kd.S_reads' HX0_1.out).2.1 (Kd.R_reads' HX1_4.out).2.2 (Kd.R_reads' HX1_4.out).2.1 BG.out).mono ?_)
   rintro e w31 ⟨v0, rfl, ho, hb⟩; refine ⟨_, rfl, ?_⟩; have HO := Aside0.mk ho; have HB_ := Aside0.mk (below_step HB.out hb); have BA0_ := Aside0.mk (blk_below BA0.out hb); have BA1_ := Aside0.mk (blk_below BA1.out hb); have HS_ := Aside0.mk (Kd.R_below HS.out hb); have HG_ := Aside0.mk (Kd.R_below HG.out hb); clear hb ho HX0_0 HX0_1 HX1_4; clear HB BA0 BA1 HS HG; have HB := HB_; have BA0 := BA0_; have BA1 := BA1_; have HS := HS_; have HG := HG_; clear HB_ BA0_ BA1_ HS_ HG_; obtain ⟨hcBA00, hcBA01, hfBA00, hfBA01⟩ := cl2_ BA0.out; obtain ⟨hcBA10, hcBA11, hcBA12, hcBA13, hcBA14, hfBA10, hfBA11, hfBA12, hfBA13, hfBA14⟩ := cl5_ BA1.out; clear hcBA00 hfBA00 hcBA01 hfBA01 hcBA10 hfBA10 hcBA11 hfBA11 hcBA12 hfBA12 hcBA13 hfBA13 hcBA14 hfBA14; refine hK.out _ _ ⟨(blk_cell BA0.out 0).trans rfl, (blk_cell BA0.out 1).trans rfl, (blk_cell BA1.out 0).trans rfl, (blk_cell BA1.out 1).trans rfl, (blk_cell BA1.out 2).trans rfl, (blk_cell BA1.out 3).trans rfl, (blk_cell BA1.out 4).trans rfl⟩ (fun hHeld => ?_); clear hK K; refine norm_ (a' := ?_) ?_ ?_; rotate_left
   ·show Act.put _ (some 99) _ = _
    simp only [Act.put, qa_, qz_, qs_, i64_w, i32_w]; rfl
   refine pure_ (i := 5) (N := some 94) (v := ?_) (a' := ?_) p41_15006 rfl rfl kr_ (fun _ _ _ h => h) (Or.inl ⟨by rfl, ?_⟩) ?_ ?_; rotate_left
   ·intro w'; go_simp; with_reducible rfl
   rotate_left
   ·simp only [Act.put, qa_, qz_, qs_, i64_w, i32_w]; rfl
   refine pure_ (i := 6) (N := some 100) (v := ?_) (a' := ?_) p41_15007 rfl rfl kr_ (fun _ _ _ h => h) (Or.inl ⟨by rfl, ?_⟩) ?_ ?_; rotate_left
   ·intro w'; go_simp; with_reducible rfl
   rotate_left
   ·simp only [Act.put, qa_, qz_, qs_, i64_w, i32_w]; rfl
   refine pure_ (i := 7) (N := some 101) (v := ?_) (a' := ?_) p41_15008 rfl rfl kr_ (fun _ _ _ h => h) (Or.inl ⟨by rfl, ?_⟩) ?_ ?_; rotate_left
   ·intro w'; go_simp; with_reducible rfl
   rotate_left
   ·simp only [Act.put, qa_, qz_, qs_, i64_w, i32_w]; rfl
   refine pure_ (i := 8) (N := some 15) (v := ?_) (a' := ?_) p41_15009 rfl rfl kr_ (fun _ _ _ h => h) (Or.inl ⟨by rfl, ?_⟩) ?_ ?_; rotate_left
   ·intro w'; go_simp; with_reducible rfl
   rotate_left
   ·simp only [Act.put, qa_, qz_, qs_, i64_w, i32_w]; rfl
   refine pure_ (i := 9) (N := some 16) (v := ?_) (a' := ?_) p41_15010 rfl rfl kr_ (fun _ _ _ h => h) (Or.inl ⟨by rfl, ?_⟩) ?_ ?_; rotate_left
   ·intro w'; go_simp; with_reducible rfl
   rotate_left
   ·simp only [Act.put, qa_, qz_, qs_, i64_w, i32_w]; rfl
   refine done_ kr_ ?_; obtain ⟨hcBA00, hcBA01, hfBA00, hfBA01⟩ := cl2_ BA0.out; obtain ⟨hcBA10, hcBA11, hcBA12, hcBA13, hcBA14, hfBA10, hfBA11, hfBA12, hfBA13, hfBA14⟩ := cl5_ BA1.out; obtain ⟨Ah, ch, eh⟩ := Kd.R_slice HO.out; subst eh
   go_wp2_with (first | (go_at_call 14; (with_reducible refine (laws_eqInt64S.calls k Ah ch g0 As cs s0 true _ (Kd.R_reads' HO.out).2.2 (Kd.R_reads' HO.out).2.1 (Kd.R_reads' HS.out).2.2 (Kd.R_reads' HS.out).2.1 BE.out).mono ?_); rintro e w32 ⟨rfl, hd⟩; have hb := DB.out hd; have HB_ := Aside0.mk (below_step HB.out hb); have BA0_ := Aside0.mk (blk_below BA0.out hb); have BA1_ := Aside0.mk (blk_below BA1.out hb); have HS_ := Aside0.mk (Kd.R_below HS.out hb); have HG_ := Aside0.mk (Kd.R_below HG.out hb); clear hb hd HO; clear HB BA0 BA1 HS HG; have HB := HB_; have BA0 := BA0_; have BA1 := BA1_; have HS := HS_; have HG := HG_; clear HB_ BA0_ BA1_ HS_ HG_; clear hcBA00 hfBA00 hcBA01 hfBA01 hcBA10 hfBA10 hcBA11 hfBA11 hcBA12 hfBA12 hcBA13 hfBA13 hcBA14 hfBA14; obtain ⟨hcBA00, hcBA01, hfBA00, hfBA01⟩ := cl2_ BA0.out; obtain ⟨hcBA10, hcBA11, hcBA12, hcBA13, hcBA14, hfBA10, hfBA11, hfBA12, hfBA13, hfBA14⟩ := cl5_ BA1.out))
   go_wp2_with (first | (go_at_call 18; (with_reducible refine (laws_heldInt64S.calls k Ag cg lk 1 th _ (Kd.R_reads' HG.out).2.2 (by have z_ := (Kd.R_reads' HG.out).2.1; rw [HL.out] at z_; exact z_) BH.out).mono ?_); rintro e w33 ⟨rfl, hd⟩; have hb := DB.out hd; have HB_ := Aside0.mk (below_step HB.out hb); have BA0_ := Aside0.mk (blk_below BA0.out hb); have BA1_ := Aside0.mk (blk_below BA1.out hb); have HS_ := Aside0.mk (Kd.R_below HS.out hb); have HG_ := Aside0.mk (Kd.R_below HG.out hb); clear hb hd; clear HB BA0 BA1 HS HG; have HB := HB_; have BA0 := BA0_; have BA1 := BA1_; have HS := HS_; have HG := HG_; clear HB_ BA0_ BA1_ HS_ HG_; clear hcBA00 hfBA00 hcBA01 hfBA01 hcBA10 hfBA10 hcBA11 hfBA11 hcBA12 hfBA12 hcBA13 hfBA13 hcBA14 hfBA14; obtain ⟨hcBA00, hcBA01, hfBA00, hfBA01⟩ := cl2_ BA0.out; obtain ⟨hcBA10, hcBA11, hcBA12, hcBA13, hcBA14, hfBA10, hfBA11, hfBA12, hfBA13, hfBA14⟩ := cl5_ BA1.out))
   go_ret
   exact ⟨by first | rfl | (simp; done) | (simp [*]; done) | (simp [tz_, *]; done), kh0_ HB.out⟩

def W64 (x : S64) : Prop := (Lit.int .i64 x.f0).wf = true ∧ (Lit.int .i64 x.f1).wf = true ∧ (Lit.int .i64 x.f2).wf = true ∧ (Lit.int .i64 x.f3).wf = true
theorem cut64 {α : Type} (cs : List α) (h : cs.length = 4) : cs = (cs.drop 0).take 1 ++ ((cs.drop 1).take 1 ++ ((cs.drop 2).take 1 ++ ((cs.drop 3).take 1))) := by
 match cs, h with
 | [c0, c1, c2, c3], _ => rfl
theorem open64 : Opn.Opens Try.prog 64 k64 W64 := by
 intro H enc w base sp held fuel cs x h
 obtain ⟨xs, n, rfl, _, hl, hlen, hf⟩ := DataW.trod_struct Try.underlying64 h
 obtain ⟨y0, h0⟩ := Opn.field_at hlen hf 0 2 0 1 ⟨_, rfl, rfl, rfl⟩ kr_
 obtain ⟨y1, h1⟩ := Opn.field_at hlen hf 1 2 1 1 ⟨_, rfl, rfl, rfl⟩ kr_
 obtain ⟨y2, h2⟩ := Opn.field_at hlen hf 2 2 2 1 ⟨_, rfl, rfl, rfl⟩ kr_
 obtain ⟨y3, h3⟩ := Opn.field_at hlen hf 3 2 3 1 ⟨_, rfl, rfl, rfl⟩ kr_
 have hm : cs.length = 4 := hl.trans kr_
 obtain ⟨a0, K0, w0⟩ := (Opn.opens_int Try.underlying2) h0
 obtain ⟨a1, K1, w1⟩ := (Opn.opens_int Try.underlying2) h1
 obtain ⟨a2, K2, w2⟩ := (Opn.opens_int Try.underlying2) h2
 obtain ⟨a3, K3, w3⟩ := (Opn.opens_int Try.underlying2) h3
 have hcs := cut64 cs hm
 exact ⟨⟨a0, a1, a2, a3⟩, ⟨_, _, hcs, K0, ⟨_, _, rfl, K1, ⟨_, _, rfl, K2, K3⟩⟩⟩, ⟨w0, w1, w2, w3⟩⟩
def W133 (x : S133) : Prop := (Lit.int .i64 x.f0).wf = true ∧ (Lit.int .i64 x.f1).wf = true ∧ (Lit.int .i64 x.f2).wf = true
theorem cut133 {α : Type} (cs : List α) (h : cs.length = 3) : cs = (cs.drop 0).take 1 ++ ((cs.drop 1).take 1 ++ ((cs.drop 2).take 1)) := by
 match cs, h with
 | [c0, c1, c2], _ => rfl
theorem open133 : Opn.Opens Try.prog 133 k133 W133 := by
 intro H enc w base sp held fuel cs x h
 obtain ⟨xs, n, rfl, _, hl, hlen, hf⟩ := DataW.trod_struct Try.underlying133 h
 obtain ⟨y0, h0⟩ := Opn.field_at hlen hf 0 2 0 1 ⟨_, rfl, rfl, rfl⟩ kr_
 obtain ⟨y1, h1⟩ := Opn.field_at hlen hf 1 2 1 1 ⟨_, rfl, rfl, rfl⟩ kr_
 obtain ⟨y2, h2⟩ := Opn.field_at hlen hf 2 2 2 1 ⟨_, rfl, rfl, rfl⟩ kr_
 have hm : cs.length = 3 := hl.trans kr_
 obtain ⟨a0, K0, w0⟩ := (Opn.opens_int Try.underlying2) h0
 obtain ⟨a1, K1, w1⟩ := (Opn.opens_int Try.underlying2) h1
 obtain ⟨a2, K2, w2⟩ := (Opn.opens_int Try.underlying2) h2
 have hcs := cut133 cs hm
 exact ⟨⟨a0, a1, a2⟩, ⟨_, _, hcs, K0, ⟨_, _, rfl, K1, K2⟩⟩, ⟨w0, w1, w2⟩⟩
def W67 (x : S67) : Prop := W64 x.f0 ∧ Opn.WfL W133 x.f1
theorem cut67 {α : Type} (cs : List α) (h : cs.length = 5) : cs = (cs.drop 0).take 4 ++ ((cs.drop 4).take 1) := by
 match cs, h with
 | [c0, c1, c2, c3, c4], _ => rfl
theorem open67 : Opn.Opens Try.prog 67 k67 W67 := by
 intro H enc w base sp held fuel cs x h
 obtain ⟨xs, n, rfl, _, hl, hlen, hf⟩ := DataW.trod_struct Try.underlying67 h
 obtain ⟨y0, h0⟩ := Opn.field_at hlen hf 0 64 0 4 ⟨_, rfl, rfl, rfl⟩ kr_
 obtain ⟨y1, h1⟩ := Opn.field_at hlen hf 1 65 4 1 ⟨_, rfl, rfl, rfl⟩ kr_
 have hm : cs.length = 5 := hl.trans kr_
 obtain ⟨a0, K0, w0⟩ := open64 h0
 obtain ⟨a1, K1, w1⟩ := (Opn.opens_slice z133 Try.underlying65 kr_ open133) h1
 have hcs := cut67 cs hm
 exact ⟨⟨a0, a1⟩, ⟨_, _, hcs, K0, K1⟩, ⟨w0, w1⟩⟩
def laws_FnExactClassesAlong.Pure : Prop := ∀ (l0_0 : List Int) (l0_1 : List (S55)) (a1_0 : Int) (a1_1 : Int) (a1_2 : Int) (a1_3 : Int) (l1_4 : List (S133)), Opn.WfL (fun a_ => (Lit.int .i64 a_).wf = true) l0_0 → Opn.WfL W55 l0_1 → (Lit.int .i64 a1_0).wf = true → (Lit.int .i64 a1_1).wf = true → (Lit.int .i64 a1_2).wf = true → (Lit.int .i64 a1_3).wf = true → Opn.WfL W133 l1_4 → ∃ k, laws_FnExactClassesAlong.f k l0_0 l0_1 a1_0 a1_1 a1_2 a1_3 l1_4 = some true
theorem laws_FnExactClassesAlong.walk (P : laws_FnExactClassesAlong.Pure) (A0_0 : Option Addr) (c0_0 : Nat) (l0_0 : List Int) (A0_1 : Option Addr) (c0_1 : Nat) (l0_1 : List (S55)) (a1_0 : Int) (a1_1 : Int) (a1_2 : Int) (a1_3 : Int) (A1_4 : Option Addr) (c1_4 : Nat) (l1_4 : List (S133)) (w : World) (hr0_0 : Kd.C (Kd.int .i64) w A0_0 l0_0.length l0_0) (hc0_0 : l0_0.length ≤ c0_0) (hr0_1 : Kd.C k55 w A0_1 l0_1.length l0_1) (hc0_1 : l0_1.length ≤ c0_1) (hr1_4 : Kd.C k133 w A1_4 l1_4.length l1_4) (hc1_4 : l1_4.length ≤ c1_4) (w0_0 : Opn.WfL (fun a_ => (Lit.int .i64 a_).wf = true) l0_0) (w0_1 : Opn.WfL W55 l0_1) (w1_0 : (Lit.int .i64 a1_0).wf = true) (w1_1 : (Lit.int .i64 a1_1).wf = true) (w1_2 : (Lit.int .i64 a1_2).wf = true) (w1_3 : (Lit.int .i64 a1_3).wf = true) (w1_4 : Opn.WfL W133 l1_4) :
  Calls Try.prog 7 #[.agg #[.slice A0_0 l0_0.length c0_0, .slice A0_1 l0_1.length c0_1], .agg #[.int .i64 a1_0, .int .i64 a1_1, .int .i64 a1_2, .int .i64 a1_3, .slice A1_4 l1_4.length c1_4]] w fun e w' => e = .returned (.bool true) ∧ Below w.heap.size w w' := by
 obtain ⟨k, h⟩ := P l0_0 l0_1 a1_0 a1_1 a1_2 a1_3 l1_4 w0_0 w0_1 w1_0 w1_1 w1_2 w1_3 w1_4
 refine (laws_FnExactClassesAlong.calls k A0_0 c0_0 l0_0 A0_1 c0_1 l0_1 a1_0 a1_1 a1_2 a1_3 A1_4 c1_4 l1_4 true w hr0_0 hc0_0 hr0_1 hc0_1 hr1_4 hc1_4 h).mono ?_
 rintro e w' ⟨rfl, hd⟩
 exact ⟨rfl, hd⟩

/- Numbers in a range, as the program asks it of a list. -/
open Go.RowKit Go.Proofs.Ytgfpbiaocokdeaa.P Go.Proofs.YtgfpbiaocokdeaaW.PrintWords Go.Proofs.YtgfpbiaocokdeaaW.PrintLast Go.Proofs.YtgfpbiaocokdeaaW.PrintMore
set_option linter.unusedVariables false
set_option linter.unusedSimpArgs false
theorem areWithin2 (a b lo hi : Int) : impl_areWithin.all lo hi [a, b] = (decide (lo ≤ a ∧ a ≤ hi) && decide (lo ≤ b ∧ b ≤ hi)) := by
  simp [impl_areWithin.all]

/- Plain facts on numbers and lists that every loop's lemma uses. -/
theorem w64 (x : Int) (h1 : -9223372036854775808 ≤ x) (h2 : x ≤ 9223372036854775807) : wrap64 x = x := by unfold wrap64; omega
theorem w64s (i : Nat) (h : i < 9223372036854775807) : wrap64 ((i : Int) + 1) = ((i + 1 : Nat) : Int) := by unfold wrap64; omega
theorem rd_at (l : List Int) (i : Nat) (h : i < l.length) : rd l (i : Int) = l[i] := by
  unfold rd
  rw [Int.toNat_natCast, List.getD_eq_getElem?_getD, List.getElem?_eq_getElem h]
  rfl
theorem drop_at (l : List Int) (i : Nat) (h : i < l.length) : l.drop i = rd l (i : Int) :: l.drop (i + 1) := by
  rw [rd_at l i h, List.drop_eq_getElem_cons h]
theorem fill_step {α : Type} (l acc : List α) (i : Nat) (x : α) (hi : i < l.length) (hl : acc.length = l.length) (h : acc.take i = l.take i) (hx : l[i] = x) : (acc.set i x).take (i + 1) = l.take (i + 1) := by
  subst hx
  have hi2 : i < (acc.set i l[i]).length := by rw [List.length_set]; omega
  rw [List.take_succ_eq_append_getElem hi2, List.take_succ_eq_append_getElem hi, List.getElem_set_self, List.take_set_of_le (Nat.le_refl i), h]
def iota (m : Int) : Nat → List Int
  | 0 => []
  | n + 1 => m :: iota (m + 1) n
theorem iota_length (m : Int) (n : Nat) : (iota m n).length = n := by
  induction n generalizing m with
  | zero => rfl
  | succ n ih => simp [iota, ih]
theorem iota_get (m : Int) (n i : Nat) (h : i < (iota m n).length) : (iota m n)[i] = m + i := by
  induction n generalizing m i with
  | zero => rw [iota_length] at h; omega
  | succ n ih =>
    cases i with
    | zero => simp [iota]
    | succ i =>
      have h2 : i < (iota (m + 1) n).length := by rw [iota_length] at h ⊢; omega
      simp only [iota, List.getElem_cons_succ]
      rw [ih (m + 1) i h2]
      omega
theorem bind_some_ {α β : Type} (a : α) (f : α → Option β) : (some a).bind f = f a := rfl
theorem ite_tt (b r : Bool) : (if b = true then some r else some false) = some (b && r) := by cases b <;> rfl
theorem ite_ff (p : Prop) [Decidable p] (r : Bool) : (if p then some false else some r) = some (!decide p && r) := by by_cases h : p <;> simp [h]
theorem not_ge_dec (a b : Int) : (!decide (a ≥ b)) = decide (a < b) := by by_cases h : a < b <;> simp [h] <;> omega

/- A number lies in a range, as the reference asks it. -/
theorem in_is (a b c : Int) : spec_l00In.f a b c = some (decide (b ≤ a ∧ a ≤ c)) := by
  unfold spec_l00In.f
  by_cases h : b ≤ a <;> simp [h]

/- The poses of an axis and what is asked of it, plainly. -/
def nextP (p : S44) (t : S124) : S44 := ⟨wrap64 (p.f0 + p.f2), wrap64 (p.f1 + p.f3), wrap64 (p.f2 + t.f1), wrap64 (p.f3 + t.f2)⟩
def walkT (p : S44) : List S124 → List S44
  | [] => []
  | t :: ts => nextP p t :: walkT (nextP p t) ts
def endT (p : S44) : List S124 → S44
  | [] => p
  | t :: ts => endT (nextP p t) ts
def repsT (n : Nat) (c : S124) : List S124 := List.replicate n ⟨1, c.f1, c.f2⟩
def turnsOf : List S124 → List S124
  | [] => []
  | c :: cs => repsT c.f0.toNat c ++ turnsOf cs
theorem walkT_append (b : List S124) : ∀ (a : List S124) (p : S44), walkT p (a ++ b) = walkT p a ++ walkT (endT p a) b
  | [], p => rfl
  | t :: a, p => by simp only [List.cons_append, walkT, endT, walkT_append b a]
theorem walkT_len : ∀ (a : List S124) (p : S44), (walkT p a).length = a.length
  | [], p => rfl
  | t :: a, p => by simp only [walkT, List.length_cons, walkT_len a]
theorem walkT_end : ∀ (a : List S124) (p : S44), ∃ pre : List S44, p :: walkT p a = pre ++ [endT p a] ∧ pre.length = a.length
  | [], p => ⟨[], rfl, rfl⟩
  | t :: a, p => by
    obtain ⟨pre, h1, h2⟩ := walkT_end a (nextP p t)
    exact ⟨p :: pre, by simp only [walkT, endT, h1, List.cons_append], by simp [h2]⟩
def poseOk (p : S44) : Bool := (decide (-100000 ≤ p.f0 ∧ p.f0 ≤ 100000) && decide (-100000 ≤ p.f1 ∧ p.f1 ≤ 100000)) && (decide (-400 ≤ p.f2 ∧ p.f2 ≤ 400) && decide (-400 ≤ p.f3 ∧ p.f3 ≤ 400))
def turnOk (a b : Int) : Bool := decide (-12 ≤ a ∧ a ≤ 12) && decide (-12 ≤ b ∧ b ≤ 12)
def curvesOk : List S124 → Int → S44 → Bool
  | [], _, _ => true
  | c :: cs, n, p => (decide (1 ≤ c.f0 ∧ c.f0 ≤ 60 - n) && turnOk c.f1 c.f2) && ((walkT p (repsT c.f0.toNat c)).all poseOk && curvesOk cs (n + c.f0) (endT p (repsT c.f0.toNat c)))
def axOk (p : S44) (cs : List S124) : Bool := poseOk p && (decide (1 ≤ (cs.length : Int) ∧ (cs.length : Int) ≤ 8) && curvesOk cs 0 p)
def posesOf (p : S44) (cs : List S124) : List S44 := p :: walkT p (turnsOf cs)
theorem implPose_is (a b c d : Int) : impl_ValidPose.f a b c d = some (poseOk ⟨a, b, c, d⟩) := by
  unfold impl_ValidPose.f impl_areWithin.f poseOk
  rw [bind_some_, bind_some_, areWithin2, areWithin2]
  dsimp only
  cases (decide (-100000 ≤ a ∧ a ≤ 100000) && decide (-100000 ≤ b ∧ b ≤ 100000)) <;> simp
theorem specPose_is (a b c d : Int) : spec_l02Pose.f a b c d = some (poseOk ⟨a, b, c, d⟩) := by
  unfold spec_l02Pose.f poseOk
  simp only [in_is, bind_some_]
  cases decide (-100000 ≤ a ∧ a ≤ 100000) <;> cases decide (-100000 ≤ b ∧ b ≤ 100000) <;> cases decide (-400 ≤ c ∧ c ≤ 400) <;> simp
theorem implTurn_is (a b : Int) : impl_isTurn.f a b = some (turnOk a b) := by
  unfold impl_isTurn.f impl_areWithin.f turnOk
  rw [bind_some_, areWithin2]
theorem specTurn_is (a b : Int) : spec_l02Turn.f a b = some (turnOk a b) := by
  unfold spec_l02Turn.f turnOk
  simp only [in_is, bind_some_]
  cases decide (-12 ≤ a ∧ a ≤ 12) <;> simp
theorem rdPose_at (l : List S44) (i : Nat) (h : i < l.length) : rd_T44 l (i : Int) = l[i] := by
  unfold rd_T44
  rw [Int.toNat_natCast, List.getD_eq_getElem?_getD, List.getElem?_eq_getElem h]
  rfl
theorem rdPose_last (pre : List S44) (p : S44) : rd_T44 (pre ++ [p]) (pre.length : Int) = p := by
  rw [rdPose_at _ _ (by simp)]
  simp
theorem curves_short : ∀ (cs : List S124) (n : Int) (p : S44), 0 ≤ n → curvesOk cs n p = true → (∀ c ∈ cs, 1 ≤ c.f0 ∧ c.f0 ≤ 60) ∧ (n ≤ 60 → ((turnsOf cs).length : Int) + n ≤ 60)
  | [], n, p, _, _ => ⟨by simp, fun h => by simp [turnsOf]; omega⟩
  | c :: cs, n, p, hn, h => by
    simp only [curvesOk, Bool.and_eq_true, decide_eq_true_eq] at h
    obtain ⟨⟨h1, _⟩, _, h2⟩ := h
    obtain ⟨i1, i2⟩ := curves_short cs (n + c.f0) _ (by omega) h2
    refine ⟨?_, fun h3 => ?_⟩
    · intro x hx
      rcases List.mem_cons.mp hx with e | e
      · rw [e]; omega
      · exact i1 x e
    · have := i2 (by omega)
      simp only [turnsOf, List.length_append, repsT, List.length_replicate]
      omega
theorem repsT_succ (d : Nat) (c : S124) : repsT (d + 1) c = ⟨1, c.f1, c.f2⟩ :: repsT d c := rfl
theorem curvesOk_cons (c : S124) (cs : List S124) (n : Int) (p : S44) : curvesOk (c :: cs) n p = ((decide (1 ≤ c.f0 ∧ c.f0 ≤ 60 - n) && turnOk c.f1 c.f2) && ((walkT p (repsT c.f0.toNat c)).all poseOk && curvesOk cs (n + c.f0) (endT p (repsT c.f0.toNat c)))) := rfl

/- Two lists of numbers are compared. -/
theorem eqInt_loop (a b : List Int) (hl : a.length = b.length) (hb : a.length ≤ 9223372036854775807) : ∀ (d k i : Nat), i + d = a.length → d < k → laws_eqInt64S.l0 k a b i = some (decide (a.drop i = b.drop i)) := by
  intro d
  induction d with
  | zero =>
    intro k i hi hk
    obtain ⟨k, rfl⟩ : ∃ m, k = m + 1 := ⟨k - 1, by omega⟩
    simp only [laws_eqInt64S.l0]
    rw [if_neg (by omega), List.drop_of_length_le (by omega), List.drop_of_length_le (by omega)]
    simp
  | succ d ih =>
    intro k i hi hk
    obtain ⟨k, rfl⟩ : ∃ m, k = m + 1 := ⟨k - 1, by omega⟩
    simp only [laws_eqInt64S.l0]
    rw [if_pos (by omega), if_pos (by omega), if_pos (by omega), w64s i (by omega), ih k (i + 1) (by omega) (by omega), drop_at a i (by omega), drop_at b i (by omega)]
    by_cases h : rd a i = rd b i
    · rw [if_pos h]; simp [h]
    · rw [if_neg h]; simp [h]
theorem eqInt_is (k : Nat) (a b : List Int) (hb : a.length ≤ 9223372036854775807) (hk : a.length < k) : laws_eqInt64S.f k a b = some (decide (a = b)) := by
  unfold laws_eqInt64S.f
  by_cases h : a.length = b.length
  · rw [if_pos (by omega)]
    have := eqInt_loop a b h hb a.length k 0 (by omega) hk
    simpa using this
  · rw [if_neg (by omega)]
    have : a ≠ b := fun e => h (by rw [e])
    simp [this]

/- A list of numbers is copied. -/
theorem toInt_loop (l : List Int) (hb : l.length ≤ 9223372036854775807) : ∀ (d k i : Nat) (acc : List Int), i + d = l.length → d < k → acc.length = l.length → acc.take i = l.take i → laws_toInt64S.l0 k l acc i = some l := by
  intro d
  induction d with
  | zero =>
    intro k i acc hi hk ha ht
    obtain ⟨k, rfl⟩ : ∃ m, k = m + 1 := ⟨k - 1, by omega⟩
    simp only [laws_toInt64S.l0]
    rw [if_neg (by omega)]
    rw [List.take_of_length_le (by omega), List.take_of_length_le (by omega)] at ht
    rw [ht]
  | succ d ih =>
    intro k i acc hi hk ha ht
    obtain ⟨k, rfl⟩ : ∃ m, k = m + 1 := ⟨k - 1, by omega⟩
    simp only [laws_toInt64S.l0]
    rw [if_pos (by omega), if_pos (by omega), if_pos (by omega), w64s i (by omega), Int.toNat_natCast]
    exact ih k (i + 1) _ (by omega) (by omega) (by rw [List.length_set]; exact ha) (fill_step l acc i _ (by omega) ha ht (rd_at l i (by omega)).symm)
theorem toInt_is (k : Nat) (l : List Int) (hb : l.length ≤ 35184372088832) (hk : l.length < k) : laws_toInt64S.f k l = some l := by
  unfold laws_toInt64S.f
  rw [if_pos (by omega), if_pos (by omega)]
  exact toInt_loop l (by omega) l.length k 0 _ (by omega) hk (by simp) (by simp)

/- A list of the law's own structs that hold lists is copied into the program's, measured, and equal to itself. -/
def toHole (x : S55) : S59 := ⟨x.f0, x.f1⟩
theorem rdLHole_at (l : List S55) (i : Nat) (h : i < l.length) : rd_T55 l (i : Int) = l[i] := by
  unfold rd_T55
  rw [Int.toNat_natCast, List.getD_eq_getElem?_getD, List.getElem?_eq_getElem h]
  rfl
theorem rdHole_at (l : List S59) (i : Nat) (h : i < l.length) : rd_T59 l (i : Int) = l[i] := by
  unfold rd_T59
  rw [Int.toNat_natCast, List.getD_eq_getElem?_getD, List.getElem?_eq_getElem h]
  rfl
def shortH (l : List S59) : Prop := l.length ≤ 1048576 ∧ ∀ s ∈ l, s.f1.length ≤ 1048576
theorem shortH_at {l : List S59} (h : shortH l) (i : Nat) (hi : i < l.length) : (rd_T59 l (i : Int)).f1.length ≤ 1048576 := by
  rw [rdHole_at l i hi]
  exact h.2 _ (List.getElem_mem hi)
theorem toHoleS_loop (l : List S55) (hb : l.length ≤ 9223372036854775806) (hs : ∀ s ∈ l, s.f1.length ≤ 1048576) : ∀ (d k i : Nat) (acc : List S59), i + d = l.length → d + 1048576 < k → acc.length = l.length → acc.take i = (l.map toHole).take i → laws_toHoleS.l0 k l acc i = some (l.map toHole) := by
  intro d
  induction d with
  | zero =>
    intro k i acc hi hk ha ht
    obtain ⟨k, rfl⟩ : ∃ m, k = m + 1 := ⟨k - 1, by omega⟩
    simp only [laws_toHoleS.l0]
    rw [if_neg (by omega)]
    rw [List.take_of_length_le (by omega), List.take_of_length_le (by rw [List.length_map]; omega)] at ht
    rw [ht]
  | succ d ih =>
    intro k i acc hi hk ha ht
    obtain ⟨k, rfl⟩ : ∃ m, k = m + 1 := ⟨k - 1, by omega⟩
    have h1 : (rd_T55 l (i : Int)).f1.length ≤ 1048576 := by
      rw [rdLHole_at l i (by omega)]
      exact hs _ (List.getElem_mem _)
    simp only [laws_toHoleS.l0, laws_toHole.f]
    rw [if_pos (by omega), if_pos (by omega), toInt_is k _ (by omega) (by omega), bind_some_, bind_some_, if_pos (by omega), w64s i (by omega), Int.toNat_natCast]
    refine ih k (i + 1) _ (by omega) (by omega) (by rw [List.length_set]; exact ha) (fill_step (l.map toHole) acc i _ (by rw [List.length_map]; omega) (by rw [List.length_map]; exact ha) ht ?_)
    rw [List.getElem_map, rdLHole_at l i (by omega)]
    rfl
theorem toHoleS_is (k : Nat) (l : List S55) (hb : l.length ≤ 1048576) (hs : ∀ s ∈ l, s.f1.length ≤ 1048576) (hk : l.length + 1048576 < k) : laws_toHoleS.f k l = some (l.map toHole) := by
  unfold laws_toHoleS.f
  rw [if_pos (by omega), if_pos (by omega)]
  exact toHoleS_loop l (by omega) hs l.length k 0 _ (by omega) hk (by simp) (by simp)
theorem toHole_short {l : List S55} (hb : l.length ≤ 1048576) (hs : ∀ s ∈ l, s.f1.length ≤ 1048576) : shortH (l.map toHole) := by
  refine ⟨by rw [List.length_map]; exact hb, ?_⟩
  intro s h
  obtain ⟨t, h1, rfl⟩ := List.mem_map.mp h
  exact hs t h1
theorem szHoleS_loop (l : List S55) (hb : l.length ≤ 9223372036854775806) (hw : ∀ s ∈ l, s.f1.length ≤ 9223372036854775807) : ∀ (d k i : Nat) (left : Int), i + d = l.length → d < k → 0 ≤ left → left ≤ 1048576 → (∀ j : Nat, j < i → (rd_T55 l (j : Int)).f1.length ≤ 1048576) → ∃ r, laws_szHoleS.l0 k l left i = some r ∧ (r < 0 ∨ (0 ≤ r ∧ ∀ s ∈ l, s.f1.length ≤ 1048576)) := by
  intro d
  induction d with
  | zero =>
    intro k i left hi hk h0 h1 hj
    obtain ⟨k, rfl⟩ : ∃ m, k = m + 1 := ⟨k - 1, by omega⟩
    simp only [laws_szHoleS.l0]
    rw [if_neg (by omega)]
    refine ⟨_, rfl, Or.inr ⟨h0, ?_⟩⟩
    intro s hs
    obtain ⟨j, hj1, rfl⟩ := List.getElem_of_mem hs
    have := hj j (by omega)
    rwa [rdLHole_at l j hj1] at this
  | succ d ih =>
    intro k i left hi hk h0 h1 hj
    obtain ⟨k, rfl⟩ : ∃ m, k = m + 1 := ⟨k - 1, by omega⟩
    have h2 : (rd_T55 l (i : Int)).f1.length ≤ 9223372036854775807 := by
      rw [rdLHole_at l i (by omega)]
      exact hw _ (List.getElem_mem _)
    simp only [laws_szHoleS.l0, laws_szHole.f, laws_szInt64S.f]
    rw [if_pos (by omega), if_pos (by omega), w64 (left - ((rd_T55 l (i : Int)).f1.length : Int)) (by omega) (by omega), w64s i (by omega)]
    by_cases h3 : left - ((rd_T55 l (i : Int)).f1.length : Int) < 0
    · rw [if_pos h3, bind_some_, if_pos (by omega), bind_some_, if_pos (by omega)]
      exact ⟨_, rfl, Or.inl (by omega)⟩
    · rw [if_neg h3, bind_some_, if_neg h3, bind_some_, if_neg h3]
      refine ih k (i + 1) _ (by omega) (by omega) (by omega) (by omega) ?_
      intro j hj2
      by_cases e : j = i
      · rw [e]; omega
      · exact hj j (by omega)
theorem szHoleS_is (k : Nat) (l : List S55) (left : Int) (hb : l.length ≤ 9223372036854775807) (hw : ∀ s ∈ l, s.f1.length ≤ 9223372036854775807) (hl : 0 ≤ left) (hl2 : left ≤ 1048576) (hk : 1048577 < k) : ∃ r, laws_szHoleS.f k l left = some r ∧ (r < 0 ∨ (l.length ≤ 1048576 ∧ ∀ s ∈ l, s.f1.length ≤ 1048576)) := by
  unfold laws_szHoleS.f
  rw [w64 (left - (l.length : Int)) (by omega) (by omega)]
  by_cases h3 : left - (l.length : Int) < 0
  · rw [if_pos h3]
    exact ⟨_, rfl, Or.inl (by omega)⟩
  · rw [if_neg h3]
    obtain ⟨r, hr, hs⟩ := szHoleS_loop l (by omega) hw l.length k 0 (left - (l.length : Int)) (by omega) (by omega) (by omega) (by omega) (by intro j hj; omega)
    exact ⟨r, hr, hs.imp id (fun h => ⟨by omega, h.2⟩)⟩
theorem eqHoleS_loop (a : List S59) (hs : shortH a) : ∀ (d k i : Nat), i + d = a.length → d + 1048576 < k → laws_eqHoleS.l0 k a a i = some true := by
  intro d
  have hb := hs.1
  induction d with
  | zero =>
    intro k i hi hk
    obtain ⟨k, rfl⟩ : ∃ m, k = m + 1 := ⟨k - 1, by omega⟩
    simp only [laws_eqHoleS.l0]
    rw [if_neg (by omega)]
  | succ d ih =>
    intro k i hi hk
    obtain ⟨k, rfl⟩ : ∃ m, k = m + 1 := ⟨k - 1, by omega⟩
    have h1 := shortH_at hs i (by omega)
    simp only [laws_eqHoleS.l0, laws_eqHole.f, if_true]
    rw [if_pos (by omega), if_pos (by omega), if_pos (by omega), eqInt_is k _ _ (by omega) (by omega), bind_some_, if_pos (decide_eq_true rfl), bind_some_, if_pos rfl, w64s i (by omega)]
    exact ih k (i + 1) (by omega) (by omega)
theorem eqHoleS_refl (k : Nat) (a : List S59) (hs : shortH a) (hk : a.length + 1048576 < k) : laws_eqHoleS.f k a a = some true := by
  unfold laws_eqHoleS.f
  rw [if_pos rfl]
  exact eqHoleS_loop a hs a.length k 0 (by omega) hk
theorem szHoleS_le0 (l : List S55) (hb : l.length ≤ 9223372036854775806) (hw : ∀ s ∈ l, s.f1.length ≤ 9223372036854775807) : ∀ (d k i : Nat) (left : Int), i + d = l.length → d < k → 0 ≤ left → left ≤ 1048576 → ∀ r, laws_szHoleS.l0 k l left i = some r → r ≤ 1048576 := by
  intro d
  induction d with
  | zero =>
    intro k i left hi hk h0 h1 r hr
    obtain ⟨k, rfl⟩ : ∃ m, k = m + 1 := ⟨k - 1, by omega⟩
    simp only [laws_szHoleS.l0] at hr
    rw [if_neg (by omega)] at hr
    have := Option.some.inj hr
    omega
  | succ d ih =>
    intro k i left hi hk h0 h1 r hr
    obtain ⟨k, rfl⟩ : ∃ m, k = m + 1 := ⟨k - 1, by omega⟩
    have h2 : (rd_T55 l (i : Int)).f1.length ≤ 9223372036854775807 := by
      rw [rdLHole_at l i (by omega)]
      exact hw _ (List.getElem_mem _)
    simp only [laws_szHoleS.l0, laws_szHole.f, laws_szInt64S.f] at hr
    rw [if_pos (by omega), if_pos (by omega), w64 (left - ((rd_T55 l (i : Int)).f1.length : Int)) (by omega) (by omega), w64s i (by omega)] at hr
    by_cases h3 : left - ((rd_T55 l (i : Int)).f1.length : Int) < 0
    · rw [if_pos h3, bind_some_, if_pos (by omega), bind_some_, if_pos (by omega)] at hr
      have := Option.some.inj hr
      omega
    · rw [if_neg h3, bind_some_, if_neg h3, bind_some_, if_neg h3] at hr
      exact ih k (i + 1) _ (by omega) (by omega) (by omega) (by omega) r hr
theorem szHoleS_le (k : Nat) (l : List S55) (left : Int) (hb : l.length ≤ 9223372036854775807) (hw : ∀ s ∈ l, s.f1.length ≤ 9223372036854775807) (hl : 0 ≤ left) (hl2 : left ≤ 1048576) (hk : 1048577 < k) (r : Int) (hr : laws_szHoleS.f k l left = some r) : r ≤ 1048576 := by
  unfold laws_szHoleS.f at hr
  rw [w64 (left - (l.length : Int)) (by omega) (by omega)] at hr
  by_cases h3 : left - (l.length : Int) < 0
  · rw [if_pos h3] at hr
    have := Option.some.inj hr
    omega
  · rw [if_neg h3] at hr
    exact szHoleS_le0 l (by omega) hw l.length k 0 _ (by omega) (by omega) (by omega) (by omega) r hr

/- A test at each of some numbers that follow one another. -/
def upTo (p : Nat → Bool) : Nat → Nat → Bool
  | 0, _ => true
  | d + 1, i => p i && upTo p d (i + 1)
theorem upTo_iff (p : Nat → Bool) : ∀ (d i : Nat), upTo p d i = true ↔ ∀ j, i ≤ j → j < i + d → p j = true := by
  intro d
  induction d with
  | zero => intro i; simp [upTo]; intro j h1 h2; omega
  | succ d ih =>
    intro i
    simp only [upTo, Bool.and_eq_true, ih]
    constructor
    · intro ⟨h0, h⟩ j h1 h2
      by_cases e : i = j
      · rw [← e]; exact h0
      · exact h j (by omega) (by omega)
    · intro h
      exact ⟨h i (Nat.le_refl _) (by omega), fun j h1 h2 => h j (by omega) (by omega)⟩

/- What is asked of a ground, and the tops of its classes, plainly. -/
def dnOk (l : List Int) (i : Nat) : Bool := decide (i = 0) || decide (rd l (i : Int) ≤ rd l ((i - 1 : Nat) : Int))
def topsOk (n : Int) (l : List Int) : Bool := decide ((l.length : Int) = n) && (impl_areWithin.all (-100000) 100000 l && upTo (dnOk l) l.length 0)
def holeOk (n : Int) (hs : List S59) (i : Nat) : Bool := decide (0 ≤ (rd_T59 hs (i : Int)).f0 ∧ (rd_T59 hs (i : Int)).f0 ≤ 60) && (topsOk n (rd_T59 hs (i : Int)).f1 && (decide (i = 0) || decide ((rd_T59 hs ((i - 1 : Nat) : Int)).f0 < (rd_T59 hs (i : Int)).f0)))
def grOk (ds : List Int) (hs : List S59) : Bool := decide (1 ≤ (ds.length : Int) ∧ (ds.length : Int) ≤ 4) && (impl_areWithin.all 1 3000 ds && (decide (1 ≤ (hs.length : Int) ∧ (hs.length : Int) ≤ 6) && upTo (holeOk ds.length hs) hs.length 0))
theorem upTo_and (p q : Nat → Bool) : ∀ d i : Nat, upTo (fun j => p j && q j) d i = (upTo p d i && upTo q d i)
  | 0, _ => rfl
  | d + 1, i => by
    simp only [upTo, upTo_and p q d (i + 1)]
    cases p i <;> cases q i <;> cases upTo p d (i + 1) <;> cases upTo q d (i + 1) <;> rfl
theorem all_upTo (lo hi : Int) (l : List Int) : impl_areWithin.all lo hi l = upTo (fun i => decide (lo ≤ rd l (i : Int) ∧ rd l (i : Int) ≤ hi)) l.length 0 := by
  rw [Bool.eq_iff_iff, upTo_iff]
  unfold impl_areWithin.all
  rw [List.all_eq_true]
  constructor
  · intro h j _ hj
    have hj2 : j < l.length := by omega
    have := h _ (List.getElem_mem hj2)
    rw [rd_at l j hj2]
    exact this
  · intro h x hx
    obtain ⟨j, hj, rfl⟩ := List.getElem_of_mem hx
    have := h j (by omega) (by omega)
    rw [rd_at l j hj] at this
    exact this
theorem grOk_in {ds : List Int} {hs : List S59} (h : grOk ds hs = true) : (1 ≤ ds.length ∧ ds.length ≤ 4) ∧ (1 ≤ hs.length ∧ hs.length ≤ 6) ∧ (∀ i : Nat, i < ds.length → 1 ≤ rd ds (i : Int) ∧ rd ds (i : Int) ≤ 3000) ∧ ∀ i : Nat, i < hs.length → holeOk ds.length hs i = true := by
  unfold grOk at h
  rw [all_upTo] at h
  simp only [Bool.and_eq_true, decide_eq_true_eq] at h
  obtain ⟨h1, h2, h3, h4⟩ := h
  refine ⟨by omega, by omega, ?_, ?_⟩
  · intro i hi
    have := (upTo_iff _ _ _).mp h2 i (by omega) (by omega)
    simpa using this
  · intro i hi
    exact (upTo_iff _ _ _).mp h4 i (by omega) (by omega)
theorem holeOk_in {n : Int} {hs : List S59} {i : Nat} (h : holeOk n hs i = true) : (0 ≤ (rd_T59 hs (i : Int)).f0 ∧ (rd_T59 hs (i : Int)).f0 ≤ 60) ∧ ((rd_T59 hs (i : Int)).f1.length : Int) = n ∧ (0 < i → (rd_T59 hs ((i - 1 : Nat) : Int)).f0 < (rd_T59 hs (i : Int)).f0) := by
  unfold holeOk topsOk at h
  simp only [Bool.and_eq_true, Bool.or_eq_true, decide_eq_true_eq] at h
  refine ⟨h.1, h.2.1.1, ?_⟩
  intro hi
  rcases h.2.2 with h2 | h2
  · omega
  · exact h2
def floorV (a b : Int) : Int := if Int.tmod a b < 0 then wrap64 (wrap64 (Int.tdiv a b) - 1) else wrap64 (Int.tdiv a b)
def interV (xr yr a p q : Int) : Int := wrap64 (p + floorV (wrap64 (wrap64 (q - p) * wrap64 (a - xr))) (wrap64 (yr - xr)))
def inter (xr yr a : Int) (xt yt : List Int) : Nat → Nat → List Int
  | 0, _ => []
  | d + 1, i => interV xr yr a (rd xt (i : Int)) (rd yt (i : Int)) :: inter xr yr a xt yt d (i + 1)
theorem inter_len (xr yr a : Int) (xt yt : List Int) : ∀ d i : Nat, (inter xr yr a xt yt d i).length = d
  | 0, _ => rfl
  | d + 1, i => by simp [inter, inter_len xr yr a xt yt d (i + 1)]
def topsAt (hs : List S59) (a : Int) : List Int :=
  if holeIx a hs 0 < 0 then (rd_T59 hs ((hs.length - 1 : Nat) : Int)).f1
  else if holeIx a hs 0 = 0 ∨ (rd_T59 hs (holeIx a hs 0)).f0 = a then (rd_T59 hs (holeIx a hs 0)).f1
  else inter (rd_T59 hs (((holeIx a hs 0).toNat - 1 : Nat) : Int)).f0 (rd_T59 hs (holeIx a hs 0)).f0 a (rd_T59 hs (((holeIx a hs 0).toNat - 1 : Nat) : Int)).f1 (rd_T59 hs (holeIx a hs 0)).f1 (rd_T59 hs (((holeIx a hs 0).toNat - 1 : Nat) : Int)).f1.length 0
theorem holeIx_go (a : Int) : ∀ (l : List S59) (i : Int), (holeIx a l i = -1 ∧ ∀ h ∈ l, h.f0 < a) ∨ ∃ j : Nat, ∃ hj : j < l.length, holeIx a l i = i + j ∧ a ≤ l[j].f0 ∧ ∀ m : Nat, ∀ hm : m < j, (l[m]'(by omega)).f0 < a
  | [], i => Or.inl ⟨rfl, by simp⟩
  | h :: l, i => by
    simp only [holeIx]
    by_cases c : h.f0 ≥ a
    · rw [if_pos c]
      exact Or.inr ⟨0, by simp, by simp, c, fun m hm => by omega⟩
    · rw [if_neg c]
      rcases holeIx_go a l (i + 1) with ⟨h1, h2⟩ | ⟨j, hj, h1, h2, h3⟩
      · refine Or.inl ⟨h1, ?_⟩
        intro q hq
        rcases List.mem_cons.mp hq with e | e
        · rw [e]; omega
        · exact h2 q e
      · refine Or.inr ⟨j + 1, by simp; omega, by rw [h1]; omega, by simpa using h2, ?_⟩
        intro m hm
        cases m with
        | zero => simp; omega
        | succ m => simpa using h3 m (by omega)
theorem holeIx_is (a : Int) (l : List S59) : (holeIx a l 0 = -1 ∧ ∀ i : Nat, i < l.length → (rd_T59 l (i : Int)).f0 < a) ∨ ∃ j : Nat, j < l.length ∧ holeIx a l 0 = j ∧ a ≤ (rd_T59 l (j : Int)).f0 ∧ ∀ m : Nat, m < j → (rd_T59 l (m : Int)).f0 < a := by
  rcases holeIx_go a l 0 with ⟨h1, h2⟩ | ⟨j, hj, h1, h2, h3⟩
  · refine Or.inl ⟨h1, ?_⟩
    intro i hi
    rw [rdHole_at l i hi]
    exact h2 _ (List.getElem_mem hi)
  · refine Or.inr ⟨j, hj, by rw [h1]; omega, by rw [rdHole_at l j hj]; exact h2, ?_⟩
    intro m hm
    rw [rdHole_at l m (by omega)]
    exact h3 m hm
theorem rise_lt {n : Int} {hs : List S59} (h : ∀ i : Nat, i < hs.length → holeOk n hs i = true) (i : Nat) : ∀ d : Nat, i + d + 1 < hs.length → (rd_T59 hs (i : Int)).f0 < (rd_T59 hs ((i + d + 1 : Nat) : Int)).f0
  | 0, hd => by
    have := (holeOk_in (h (i + 0 + 1) hd)).2.2 (by omega)
    simpa using this
  | d + 1, hd => by
    have h1 := rise_lt h i d (by omega)
    have h2 := (holeOk_in (h (i + (d + 1) + 1) hd)).2.2 (by omega)
    have e : ((i + (d + 1) + 1 - 1 : Nat) : Int) = ((i + d + 1 : Nat) : Int) := by omega
    rw [e] at h2
    omega
theorem topsAt_len {ds : List Int} {hs : List S59} (h : grOk ds hs = true) (a : Int) : (topsAt hs a).length = ds.length := by
  obtain ⟨h1, h2, h3, h4⟩ := grOk_in h
  have hl : ∀ i : Nat, i < hs.length → (rd_T59 hs (i : Int)).f1.length = ds.length := fun i hi => by
    have := (holeOk_in (h4 i hi)).2.1
    omega
  unfold topsAt
  rcases holeIx_is a hs with ⟨e, _⟩ | ⟨j, hj, e, _, _⟩
  · rw [e, if_pos (by omega)]
    exact hl _ (by omega)
  · rw [e, if_neg (by omega)]
    split
    · exact hl j hj
    · rw [inter_len, Int.toNat_natCast]
      exact hl _ (by omega)

/- An element of a list of structs, read at an index. -/
theorem rdCurve_at (l : List S124) (i : Nat) (h : i < l.length) : rd_T124 l (i : Int) = l[i] := by
  unfold rd_T124
  rw [Int.toNat_natCast, List.getD_eq_getElem?_getD, List.getElem?_eq_getElem h]
  rfl
theorem dropCurve_at (l : List S124) (i : Nat) (h : i < l.length) : l.drop i = rd_T124 l (i : Int) :: l.drop (i + 1) := by
  rw [rdCurve_at l i h, List.drop_eq_getElem_cons h]

/- A number lies in a range, as the program asks it. -/
theorem within_is (a b c : Int) : impl_within.f a b c = some (decide (b ≤ a ∧ a ≤ c)) := by
  unfold impl_within.f
  by_cases h : b ≤ a <;> simp [h]

/- The poses of an axis, as the program reckons them. -/
theorem implAx_l1 (cs : List S124) (m : Int) (c : S124) (h1 : 1 ≤ c.f0) (i : Int) : ∀ (d k j : Nat) (pre : List S44) (p : S44), j + d = c.f0.toNat → c.f0 ≤ 60 → d < k → pre.length + d ≤ 1000 → impl_Axis_poses.l1 k (pre ++ [p]) cs m i c.f0 j c.f0 c.f1 c.f2 = if (walkT p (repsT d c)).all poseOk = true then impl_Axis_poses.l0 (k - (d + 1)) (pre ++ p :: walkT p (repsT d c)) cs m (wrap64 (i + 1)) else some ([], false) := by
  intro d
  induction d with
  | zero =>
    intro k j pre p hj h60 hk hl
    obtain ⟨k, rfl⟩ : ∃ m, k = m + 1 := ⟨k - 1, by omega⟩
    simp only [impl_Axis_poses.l1]
    rw [if_neg (by omega)]
    simp [repsT, walkT]
  | succ d ih =>
    intro k j pre p hj h60 hk hl
    obtain ⟨k, rfl⟩ : ∃ m, k = m + 1 := ⟨k - 1, by omega⟩
    have e : wrap64 (((pre ++ [p]).length : Int) - 1) = (pre.length : Int) := by
      rw [List.length_append, List.length_singleton, w64 _ (by omega) (by omega)]
      omega
    have hlen : (pre ++ [p]).length = pre.length + 1 := by simp
    simp only [impl_Axis_poses.l1, e, rdPose_last, impl_Pose_next.f, bind_some_, implPose_is]
    rw [if_pos (by omega), if_pos (by omega), if_pos (by omega), repsT_succ]
    have hq : nextP p ⟨1, c.f1, c.f2⟩ = ⟨wrap64 (p.f0 + p.f2), wrap64 (p.f1 + p.f3), wrap64 (p.f2 + c.f1), wrap64 (p.f3 + c.f2)⟩ := rfl
    simp only [walkT, List.all_cons, Bool.and_eq_true]
    rw [← hq]
    by_cases q : poseOk (nextP p ⟨1, c.f1, c.f2⟩) = true
    · rw [if_pos q, if_pos (by omega), w64s j (by omega), ih k (j + 1) (pre ++ [p]) (nextP p ⟨1, c.f1, c.f2⟩) (by omega) h60 (by omega) (by omega)]
      simp only [q, true_and, List.append_assoc, List.singleton_append, Nat.add_sub_add_right]
    · rw [if_neg q, if_neg (by simp [q])]
theorem implAx_l0 (cs : List S124) (h8 : cs.length ≤ 8) : ∀ (d k i : Nat) (pre : List S44) (p : S44), i + d = cs.length → 100 * d + 2 < k → pre.length ≤ 60 → impl_Axis_poses.l0 k (pre ++ [p]) cs cs.length i = some (if curvesOk (cs.drop i) pre.length p = true then (pre ++ p :: walkT p (turnsOf (cs.drop i)), true) else ([], false)) := by
  intro d
  induction d with
  | zero =>
    intro k i pre p hi hk hl
    obtain ⟨k, rfl⟩ : ∃ m, k = m + 1 := ⟨k - 1, by omega⟩
    simp only [impl_Axis_poses.l0]
    rw [if_neg (by omega), List.drop_of_length_le (by omega)]
    simp [curvesOk, turnsOf, walkT]
  | succ d ih =>
    intro k i pre p hi hk hl
    obtain ⟨k, rfl⟩ : ∃ m, k = m + 2 := ⟨k - 2, by omega⟩
    rw [dropCurve_at cs i (by omega)]
    generalize hc : rd_T124 cs (i : Int) = c
    have hlen : (pre ++ [p]).length = pre.length + 1 := by simp
    simp only [impl_Axis_poses.l0, turnsOf]
    rw [curvesOk_cons, if_pos (by omega), if_pos (by omega), if_pos (by omega), hc, within_is, bind_some_, implTurn_is, bind_some_]
    by_cases g : (1 ≤ c.f0 ∧ c.f0 ≤ 60 - (pre.length : Int)) ∧ turnOk c.f1 c.f2 = true
    · rw [if_pos (decide_eq_true (by omega)), if_pos g.2, w64 _ (by omega) (by omega), decide_eq_false (by omega)]
      simp only [impl_Axis_poses.j2]
      rw [if_neg (by simp)]
      have hz := implAx_l1 cs cs.length c g.1.1 i c.f0.toNat k 0 pre p (by omega) (by omega) (by omega) (by omega)
      rw [show ((0 : Nat) : Int) = 0 from rfl] at hz
      rw [hz, decide_eq_true g.1, g.2]
      simp only [Bool.true_and]
      by_cases q : (walkT p (repsT c.f0.toNat c)).all poseOk = true
      · obtain ⟨pre2, e1, e2⟩ := walkT_end (repsT c.f0.toNat c) p
        have e3 : (repsT c.f0.toNat c).length = c.f0.toNat := by simp [repsT]
        rw [if_pos q, e1, ← List.append_assoc, w64s i (by omega), ih (k - (c.f0.toNat + 1)) (i + 1) (pre ++ pre2) _ (by omega) (by omega) (by rw [List.length_append]; omega), q, Bool.true_and, walkT_append]
        have e4 : (((pre ++ pre2).length : Nat) : Int) = (pre.length : Int) + c.f0 := by rw [List.length_append]; omega
        rw [e4, ← List.cons_append, e1]
        simp only [List.append_assoc, List.cons_append, List.nil_append]
      · rw [if_neg q, if_neg (by simp [q])]
    · have hb : (decide (1 ≤ c.f0 ∧ c.f0 ≤ 60 - (pre.length : Int)) && turnOk c.f1 c.f2) = false := by
        rw [Bool.eq_false_iff]
        intro hh
        rw [Bool.and_eq_true, decide_eq_true_eq] at hh
        exact g hh
      rw [hb, Bool.false_and, if_neg (show ¬ (false = true) by simp)]
      by_cases c1 : 1 ≤ c.f0 ∧ c.f0 ≤ 60
      · rw [if_pos (decide_eq_true c1)]
        by_cases c2 : turnOk c.f1 c.f2 = true
        · have c3 : ¬ (1 ≤ c.f0 ∧ c.f0 ≤ 60 - (pre.length : Int)) := fun hh => g ⟨hh, c2⟩
          rw [if_pos c2, w64 _ (by omega) (by omega), decide_eq_true (by omega)]
          simp only [impl_Axis_poses.j2]
          rw [if_pos trivial]
        · rw [if_neg c2]
          simp only [impl_Axis_poses.j2]
          rw [if_pos trivial]
      · rw [if_neg (by simpa using c1)]
        simp only [impl_Axis_poses.j2]
        rw [if_pos trivial]
theorem implAxis_is (k : Nat) (a b u v : Int) (cs : List S124) (hb : cs.length ≤ 1048576) (hk : 5000 < k) : impl_Axis_poses.f k a b u v cs = some (if axOk ⟨a, b, u, v⟩ cs = true then (posesOf ⟨a, b, u, v⟩ cs, true) else ([], false)) := by
  obtain ⟨k, rfl⟩ : ∃ m, k = m + 1 := ⟨k - 1, by omega⟩
  unfold impl_Axis_poses.f axOk posesOf
  rw [bind_some_, implPose_is, bind_some_, within_is, bind_some_]
  by_cases c1 : poseOk ⟨a, b, u, v⟩ = true
  · rw [if_pos c1, c1, Bool.true_and]
    by_cases c2 : 1 ≤ (cs.length : Int) ∧ (cs.length : Int) ≤ 8
    · simp only [impl_Axis_poses.j0]
      rw [decide_eq_true c2, if_neg (by simp), Bool.true_and]
      have hz := implAx_l0 cs (by omega) cs.length k 0 [] ⟨a, b, u, v⟩ (by omega) (by omega) (by simp)
      simpa using hz
    · simp only [impl_Axis_poses.j0]
      rw [decide_eq_false c2, if_pos (by simp), Bool.false_and, if_neg (by simp)]
  · simp only [impl_Axis_poses.j0]
    rw [if_neg c1, if_pos trivial, if_neg (by simp [c1])]

/- What the program asks of a ground. -/
theorem implHole_l0 (l : List Int) (a : Int) (hb : l.length ≤ 1048576) : ∀ (d k i : Nat), i + d = l.length → 1 ≤ i → d < k → impl_isHole.l0 k l.length i a l = some (upTo (dnOk l) d i) := by
  intro d
  induction d with
  | zero =>
    intro k i hi h1 hk
    obtain ⟨k, rfl⟩ : ∃ m, k = m + 1 := ⟨k - 1, by omega⟩
    simp only [impl_isHole.l0]
    rw [if_neg (by omega)]
    rfl
  | succ d ih =>
    intro k i hi h1 hk
    obtain ⟨k, rfl⟩ : ∃ m, k = m + 1 := ⟨k - 1, by omega⟩
    have e : wrap64 ((i : Int) - 1) = ((i - 1 : Nat) : Int) := by rw [w64 _ (by omega) (by omega)]; omega
    simp only [impl_isHole.l0]
    rw [if_pos (by omega), if_pos (by omega), if_pos (by omega), e, if_pos (by omega), if_pos (by omega), w64s i (by omega), ih k (i + 1) (by omega) (by omega) (by omega)]
    simp only [upTo, dnOk]
    rw [decide_eq_false (show ¬ i = 0 by omega), Bool.false_or]
    by_cases c : rd l (i : Int) > rd l ((i - 1 : Nat) : Int)
    · rw [if_pos c, decide_eq_false (show ¬ rd l (i : Int) ≤ rd l ((i - 1 : Nat) : Int) by omega)]
      rfl
    · rw [if_neg c, decide_eq_true (show rd l (i : Int) ≤ rd l ((i - 1 : Nat) : Int) by omega)]
      rfl
theorem implHole_is (k : Nat) (r n : Int) (l : List Int) (hb : l.length ≤ 1048576) (hk : l.length + 3 < k) : impl_isHole.f k r l n = some (decide (0 ≤ r ∧ r ≤ 60) && topsOk n l) := by
  obtain ⟨k, rfl⟩ : ∃ m, k = m + 1 := ⟨k - 1, by omega⟩
  unfold impl_isHole.f topsOk impl_areWithin.f
  rw [within_is, bind_some_, bind_some_]
  simp only [impl_isHole.j0]
  by_cases h1 : 0 ≤ r ∧ r ≤ 60
  · rw [if_pos (decide_eq_true h1), decide_eq_true h1]
    by_cases h2 : (l.length : Int) = n
    · rw [if_pos h2, decide_eq_true h2]
      cases h3 : impl_areWithin.all (-100000) 100000 l with
      | true =>
        rw [if_neg (by simp)]
        subst h2
        rcases Nat.eq_zero_or_pos l.length with h0 | h0
        · obtain ⟨k, rfl⟩ : ∃ m, k = m + 1 := ⟨k - 1, by omega⟩
          simp only [impl_isHole.l0]
          rw [if_neg (by omega), h0]
          rfl
        · have h4 := implHole_l0 l r hb (l.length - 1) k 1 (by omega) (by omega) (by omega)
          have h5 : upTo (dnOk l) l.length 0 = upTo (dnOk l) (l.length - 1) 1 := by
            obtain ⟨m, hm⟩ : ∃ m, l.length = m + 1 := ⟨l.length - 1, by omega⟩
            rw [hm]
            simp [upTo, dnOk]
          rw [h5]
          simp only [Bool.true_and]
          exact h4
      | false => simp
    · rw [if_neg h2, decide_eq_false h2]
      simp
  · rw [if_neg (by simpa using h1), decide_eq_false h1]
    simp
theorem implGround_l0 (ds : List Int) (hs : List S59) (hp : shortH hs) : ∀ (d k i : Nat), i + d = hs.length → d + 1048580 < k → impl_ValidGround.l0 k hs hs.length i ds hs = some (upTo (holeOk ds.length hs) d i) := by
  intro d
  have hb := hp.1
  induction d with
  | zero =>
    intro k i hi hk
    obtain ⟨k, rfl⟩ : ∃ m, k = m + 1 := ⟨k - 1, by omega⟩
    simp only [impl_ValidGround.l0]
    rw [if_neg (by omega)]
    rfl
  | succ d ih =>
    intro k i hi hk
    obtain ⟨k, rfl⟩ : ∃ m, k = m + 1 := ⟨k - 1, by omega⟩
    have h1 := shortH_at hp i (by omega)
    have hz := ih k (i + 1) (by omega) (by omega)
    simp only [impl_ValidGround.l0]
    rw [if_pos (by omega), if_pos (by omega), if_pos (by omega), implHole_is k _ _ _ h1 (by omega), bind_some_, w64s i (by omega), hz]
    simp only [upTo, holeOk]
    by_cases h : i = 0
    · rw [if_neg (show ¬ (i : Int) > 0 by omega), decide_eq_true h, ite_tt]
      simp [Bool.and_assoc]
    · have e : wrap64 ((i : Int) - 1) = ((i - 1 : Nat) : Int) := by rw [w64 _ (by omega) (by omega)]; omega
      rw [if_pos (show (i : Int) > 0 by omega), e, if_pos (show (0 : Int) ≤ ((i - 1 : Nat) : Int) by omega), if_pos (show ((i - 1 : Nat) : Int) < (hs.length : Int) by omega), ite_ff, not_ge_dec, ite_tt, decide_eq_false h, Bool.false_or]
      simp only [Bool.and_assoc]
theorem implGround_is (k : Nat) (ds : List Int) (hs : List S59) (hp : shortH hs) (hk : 3000000 < k) : impl_ValidGround.f k ds hs = some (grOk ds hs) := by
  have hb := hp.1
  obtain ⟨k, rfl⟩ : ∃ m, k = m + 1 := ⟨k - 1, by omega⟩
  have h0 := implGround_l0 ds hs hp hs.length k 0 (by omega) (by omega)
  unfold impl_ValidGround.f grOk impl_areWithin.f
  rw [within_is, bind_some_, bind_some_, within_is, bind_some_]
  simp only [impl_ValidGround.j0]
  rw [show ((0 : Nat) : Int) = 0 from rfl] at h0
  rw [h0]
  generalize upTo (holeOk (ds.length : Int) hs) hs.length 0 = b1
  generalize impl_areWithin.all 1 3000 ds = b2
  generalize decide (1 ≤ (ds.length : Int) ∧ (ds.length : Int) ≤ 4) = b3
  generalize decide (1 ≤ (hs.length : Int) ∧ (hs.length : Int) ≤ 6) = b4
  cases b1 <;> cases b2 <;> cases b3 <;> cases b4 <;> rfl

/- The rings along an axis, ring for ring, as both sides reckon them. -/
def alongGo (g : Int → Int → Int) (P : List S44) : Nat → Nat → List Int
  | 0, _ => []
  | d + 1, i => g (i : Int) (rd_T44 P (i : Int)).f1 :: alongGo g P d (i + 1)
theorem alongGo_len (g : Int → Int → Int) (P : List S44) : ∀ d i : Nat, (alongGo g P d i).length = d
  | 0, _ => rfl
  | d + 1, i => by simp only [alongGo, List.length_cons, alongGo_len g P d (i + 1)]
def alongP (g : List S44 → List Int) (ds : List Int) (hs : List S59) (p : S44) (cs : List S124) : List Int × Bool := if (grOk ds hs && axOk p cs) = true then (g (posesOf p cs), true) else ([], false)
theorem posesOf_len {p : S44} {cs : List S124} (h : axOk p cs = true) : 1 ≤ (posesOf p cs).length ∧ (posesOf p cs).length ≤ 61 := by
  unfold axOk at h
  simp only [Bool.and_eq_true, decide_eq_true_eq] at h
  obtain ⟨_, _, h3⟩ := h
  have := (curves_short cs 0 _ (by omega) h3).2 (by omega)
  unfold posesOf
  rw [List.length_cons, walkT_len]
  omega
theorem rdPose_take (P : List S44) (n i : Nat) (h : i < n) (hn : n ≤ P.length) : rd_T44 (P.take n) (i : Int) = rd_T44 P (i : Int) := by
  rw [rdPose_at _ i (by rw [List.length_take]; omega), rdPose_at _ i (by omega), List.getElem_take]
theorem implAlong_is (k : Nat) (ds : List Int) (hs : List S59) (a b u v : Int) (cs : List S124) (hp : shortH hs) (hb : cs.length ≤ 1048576) (hk : 5000000 < k) : impl_along.f k ds hs a b u v cs = some (if (grOk ds hs && axOk ⟨a, b, u, v⟩ cs) = true then ((posesOf ⟨a, b, u, v⟩ cs).take ((posesOf ⟨a, b, u, v⟩ cs).length - 1), true) else ([], false)) := by
  unfold impl_along.f
  rw [implAxis_is k a b u v cs hb (by omega), bind_some_]
  by_cases c1 : axOk ⟨a, b, u, v⟩ cs = true
  · have hl := posesOf_len c1
    rw [if_pos c1]
    try dsimp only
    rw [if_pos rfl, implGround_is k ds hs hp (by omega), bind_some_, c1, Bool.and_true]
    by_cases c2 : grOk ds hs = true
    · have e : wrap64 (((posesOf ⟨a, b, u, v⟩ cs).length : Int) - 1) = (((posesOf ⟨a, b, u, v⟩ cs).length - 1 : Nat) : Int) := by rw [w64 _ (by omega) (by omega)]; omega
      rw [if_pos c2, if_pos c2, e, if_pos (by omega), if_pos (by omega), Int.toNat_natCast]
    · rw [if_neg c2, if_neg c2]
  · rw [if_neg c1]
    try dsimp only
    rw [if_neg (by simp), if_neg (by simp [c1])]

/- The tops of the classes at a ring, as the program reckons them. -/
theorem clone_is (l : List Int) (hb : l.length ≤ 1048576) : slices_Clone_int64_int64.f l = some l := by
  unfold slices_Clone_int64_int64.f
  rw [if_pos (by omega)]
theorem implInter_l0 (xr yr a : Int) (xt yt : List Int) (hl : yt.length = xt.length) (hb : xt.length ≤ 1048576) (hne : wrap64 (yr - xr) ≠ 0) (acc0 : List Int) :
    ∀ (d k c : Nat) (acc : List Int), c + d = xt.length → d < k → acc.length = c → impl_Ground_tops.l0 k acc xt xt.length c a xr xt yr yt = some (acc ++ inter xr yr a xt yt d c) := by
  intro d
  induction d with
  | zero =>
    intro k c acc hc hk ha
    obtain ⟨k, rfl⟩ : ∃ m, k = m + 1 := ⟨k - 1, by omega⟩
    simp only [impl_Ground_tops.l0, inter]
    rw [if_neg (by omega), List.append_nil]
  | succ d ih =>
    intro k c acc hc hk ha
    obtain ⟨k, rfl⟩ : ∃ m, k = m + 1 := ⟨k - 1, by omega⟩
    have hz := ih k (c + 1) (acc ++ [interV xr yr a (rd xt (c : Int)) (rd yt (c : Int))]) (by omega) (by omega) (by simp; omega)
    have e : ∀ u : Int, impl_floorOf.f u (wrap64 (yr - xr)) = some (floorV u (wrap64 (yr - xr))) := by
      intro u
      unfold impl_floorOf.f floorV
      rw [if_neg hne]
      split <;> rfl
    simp only [impl_Ground_tops.l0, inter]
    rw [if_pos (by omega), if_pos (by omega), if_pos (by omega), if_pos (by omega), e, bind_some_, if_pos (by omega), w64s c (by omega)]
    unfold interV at hz
    rw [hz]
    simp [interV]
theorem implAt_is (k : Nat) (ds : List Int) (hs : List S59) (a : Int) (h : grOk ds hs = true) (hk : 3000000 < k) : impl_Ground_tops.f k ds hs a = some (topsAt hs a) := by
  obtain ⟨h1, h2, h3, h4⟩ := grOk_in h
  have hl : ∀ i : Nat, i < hs.length → (rd_T59 hs (i : Int)).f1.length = ds.length := fun i hi => by
    have := (holeOk_in (h4 i hi)).2.1
    omega
  have hr : ∀ i : Nat, i < hs.length → 0 ≤ (rd_T59 hs (i : Int)).f0 ∧ (rd_T59 hs (i : Int)).f0 ≤ 60 := fun i hi => (holeOk_in (h4 i hi)).1
  have e1 : wrap64 ((hs.length : Int) - 1) = ((hs.length - 1 : Nat) : Int) := by rw [w64 _ (by omega) (by omega)]; omega
  unfold impl_Ground_tops.f impl_Ground_tops_1.f topsAt
  rw [bind_some_]
  rcases holeIx_is a hs with ⟨e, hall⟩ | ⟨j, hj, e, hge, hless⟩
  · rw [e, if_pos (by omega), if_pos (show (-1 : Int) < 0 by omega), e1, if_pos (by omega), if_pos (by omega), clone_is _ (by rw [hl _ (by omega)]; omega), bind_some_]
  · have hcl := clone_is (rd_T59 hs (j : Int)).f1 (by rw [hl _ hj]; omega)
    rw [e, if_neg (by omega), if_neg (show ¬ (j : Int) < 0 by omega)]
    by_cases c : (j : Int) = 0
    · rw [if_pos c, if_pos (show (0 : Int) ≤ (j : Int) by omega), if_pos (show (j : Int) < (hs.length : Int) by omega), hcl, bind_some_, if_pos (Or.inl c)]
    · rw [if_neg c, if_pos (show (0 : Int) ≤ (j : Int) by omega), if_pos (show (j : Int) < (hs.length : Int) by omega), hcl, bind_some_]
      by_cases c2 : (rd_T59 hs (j : Int)).f0 = a
      · rw [if_pos c2, if_pos (Or.inr c2)]
      · have e2 : wrap64 ((j : Int) - 1) = ((j - 1 : Nat) : Int) := by rw [w64 _ (by omega) (by omega)]; omega
        have q1 := hless (j - 1) (by omega)
        have q2 := hr (j - 1) (by omega)
        have q3 := hr j hj
        have hne : wrap64 ((rd_T59 hs (j : Int)).f0 - (rd_T59 hs ((j - 1 : Nat) : Int)).f0) ≠ 0 := by
          rw [w64 _ (by omega) (by omega)]
          omega
        rw [if_neg c2, if_neg (show ¬ ((j : Int) = 0 ∨ (rd_T59 hs (j : Int)).f0 = a) by simp only [not_or]; exact ⟨c, c2⟩), Int.toNat_natCast, e2, if_pos (by omega), if_pos (by omega)]
        have := implInter_l0 (rd_T59 hs ((j - 1 : Nat) : Int)).f0 (rd_T59 hs (j : Int)).f0 a (rd_T59 hs ((j - 1 : Nat) : Int)).f1 (rd_T59 hs (j : Int)).f1 (by rw [hl _ hj, hl _ (by omega)]) (by rw [hl _ (by omega)]; omega) hne [] (rd_T59 hs ((j - 1 : Nat) : Int)).f1.length k 0 [] (by omega) (by rw [hl _ (by omega)]; omega) rfl
        simpa using this

/- The tops of the classes at a ring, as the reference reckons them. -/
theorem own_is (l : List Int) (hb : l.length ≤ 1048576) : spec_l00Own.f l = some l := by
  unfold spec_l00Own.f
  rw [bind_some_, if_pos (by simp; omega)]
  simp
theorem specInter_l2 (ds : List Int) (hs : List S59) (a : Int) (i j : Nat) (hi : i < hs.length) (hj : j < hs.length) (hl : (rd_T59 hs (j : Int)).f1.length = (rd_T59 hs (i : Int)).f1.length) (hb : (rd_T59 hs (i : Int)).f1.length ≤ 1048576) (hne : wrap64 ((rd_T59 hs (j : Int)).f0 - (rd_T59 hs (i : Int)).f0) ≠ 0) :
    ∀ (d k c : Nat) (acc : List Int), c + d = (rd_T59 hs (i : Int)).f1.length → d < k → acc.length = c → spec_l06At.l2 k a i j acc c ds hs = some (acc ++ inter (rd_T59 hs (i : Int)).f0 (rd_T59 hs (j : Int)).f0 a (rd_T59 hs (i : Int)).f1 (rd_T59 hs (j : Int)).f1 d c) := by
  intro d
  induction d with
  | zero =>
    intro k c acc hc hk ha
    obtain ⟨k, rfl⟩ : ∃ m, k = m + 1 := ⟨k - 1, by omega⟩
    simp only [spec_l06At.l2, inter]
    rw [if_pos (by omega), if_pos (by omega), if_neg (by omega), List.append_nil]
  | succ d ih =>
    intro k c acc hc hk ha
    obtain ⟨k, rfl⟩ : ∃ m, k = m + 1 := ⟨k - 1, by omega⟩
    have hz := ih k (c + 1) (acc ++ [interV (rd_T59 hs (i : Int)).f0 (rd_T59 hs (j : Int)).f0 a (rd (rd_T59 hs (i : Int)).f1 (c : Int)) (rd (rd_T59 hs (j : Int)).f1 (c : Int))]) (by omega) (by omega) (by simp; omega)
    have e : ∀ u : Int, spec_l01Floor.f u (wrap64 ((rd_T59 hs (j : Int)).f0 - (rd_T59 hs (i : Int)).f0)) = some (floorV u (wrap64 ((rd_T59 hs (j : Int)).f0 - (rd_T59 hs (i : Int)).f0))) := by
      intro u
      unfold spec_l01Floor.f floorV
      rw [if_neg hne]
      split <;> rfl
    simp only [spec_l06At.l2, inter]
    rw [if_pos (show (0 : Int) ≤ (i : Int) by omega), if_pos (show (i : Int) < (hs.length : Int) by omega), if_pos (by omega), if_pos (show (0 : Int) ≤ (c : Int) by omega), if_pos (show (0 : Int) ≤ (j : Int) by omega), if_pos (show (j : Int) < (hs.length : Int) by omega), if_pos (by omega), e, bind_some_, if_pos (by omega), w64s c (by omega)]
    unfold interV at hz
    rw [hz]
    simp [interV]
theorem specAt_j3 (ds : List Int) (hs : List S59) (a : Int) (i j : Nat) (hi : i < hs.length) (hj : j < hs.length) (hl : (rd_T59 hs (j : Int)).f1.length = (rd_T59 hs (i : Int)).f1.length) (hb : (rd_T59 hs (i : Int)).f1.length ≤ 1048576) (hr : (0 ≤ (rd_T59 hs (i : Int)).f0 ∧ (rd_T59 hs (i : Int)).f0 ≤ 60) ∧ (0 ≤ (rd_T59 hs (j : Int)).f0 ∧ (rd_T59 hs (j : Int)).f0 ≤ 60)) (k : Nat) (hk : 1048580 < k) :
    spec_l06At.j3 k a i j ds hs = some (if (rd_T59 hs (i : Int)).f0 > a ∨ (rd_T59 hs (i : Int)).f0 ≥ (rd_T59 hs (j : Int)).f0 then (rd_T59 hs (i : Int)).f1 else inter (rd_T59 hs (i : Int)).f0 (rd_T59 hs (j : Int)).f0 a (rd_T59 hs (i : Int)).f1 (rd_T59 hs (j : Int)).f1 (rd_T59 hs (i : Int)).f1.length 0) := by
  obtain ⟨k, rfl⟩ : ∃ m, k = m + 1 + 1 := ⟨k - 2, by omega⟩
  simp only [spec_l06At.j3, spec_l06At.j4]
  rw [if_pos (show (0 : Int) ≤ (i : Int) by omega), if_pos (show (i : Int) < (hs.length : Int) by omega), if_pos (show (0 : Int) ≤ (j : Int) by omega), if_pos (show (j : Int) < (hs.length : Int) by omega), own_is _ hb, bind_some_]
  by_cases c1 : (rd_T59 hs (i : Int)).f0 > a
  · rw [if_pos c1, if_pos (Or.inl c1)]
    simp
    exact hi
  · rw [if_neg c1]
    by_cases c2 : (rd_T59 hs (i : Int)).f0 ≥ (rd_T59 hs (j : Int)).f0
    · rw [if_pos (decide_eq_true c2), if_pos (Or.inr c2), if_pos (by omega), if_pos (by omega)]
    · have hne : wrap64 ((rd_T59 hs (j : Int)).f0 - (rd_T59 hs (i : Int)).f0) ≠ 0 := by
        rw [w64 _ (by omega) (by omega)]
        omega
      rw [if_neg (by simpa using c2), if_neg (by simp only [not_or]; exact ⟨c1, c2⟩)]
      have := specInter_l2 ds hs a i j hi hj hl hb hne (rd_T59 hs (i : Int)).f1.length k 0 [] (by omega) (by omega) rfl
      simpa using this
theorem specAt_l1 (ds : List Int) (hs : List S59) (a : Int) (i : Nat) (b : Nat) (hbl : b < hs.length) (hlen : hs.length ≤ 1048576) (out : Option (List Int))
    (hlow : 0 < b → (rd_T59 hs ((b - 1 : Nat) : Int)).f0 < a) (hup : ∀ m : Nat, b ≤ m → m + 1 < hs.length → a ≤ (rd_T59 hs (m : Int)).f0) (B : Nat)
    (hcont : ∀ k, B ≤ k → spec_l06At.j3 k a i b ds hs = out) : ∀ (d k : Nat), b + d < hs.length → B + d < k → spec_l06At.l1 k a i ((b + d : Nat) : Int) ds hs = out := by
  intro d
  induction d with
  | zero =>
    intro k hd hk
    obtain ⟨k, rfl⟩ : ∃ m, k = m + 1 := ⟨k - 1, by omega⟩
    simp only [spec_l06At.l1, Nat.add_zero]
    by_cases h : b = 0
    · subst h
      rw [if_neg (by omega)]
      exact hcont k (by omega)
    · have e : wrap64 ((b : Int) - 1) = ((b - 1 : Nat) : Int) := by rw [w64 _ (by omega) (by omega)]; omega
      have := hlow (by omega)
      rw [if_pos (show (b : Int) > 0 by omega), e, if_pos (show (0 : Int) ≤ ((b - 1 : Nat) : Int) by omega), if_pos (show ((b - 1 : Nat) : Int) < (hs.length : Int) by omega), if_neg (by omega)]
      exact hcont k (by omega)
  | succ d ih =>
    intro k hd hk
    obtain ⟨k, rfl⟩ : ∃ m, k = m + 1 := ⟨k - 1, by omega⟩
    have e : wrap64 (((b + (d + 1) : Nat) : Int) - 1) = ((b + d : Nat) : Int) := by rw [w64 _ (by omega) (by omega)]; omega
    have := hup (b + d) (by omega) (by omega)
    simp only [spec_l06At.l1]
    rw [if_pos (show ((b + (d + 1) : Nat) : Int) > 0 by omega), e, if_pos (show (0 : Int) ≤ ((b + d : Nat) : Int) by omega), if_pos (show ((b + d : Nat) : Int) < (hs.length : Int) by omega), if_pos (by omega)]
    exact ih k (by omega) (by omega)
theorem specAt_l0 (ds : List Int) (hs : List S59) (a : Int) (e : Nat) (hel : e < hs.length) (hlen : hs.length ≤ 1048576) (out : Option (List Int))
    (hin : ∀ m : Nat, 1 ≤ m → m ≤ e → (rd_T59 hs (m : Int)).f0 ≤ a) (hout : e + 1 < hs.length → a < (rd_T59 hs ((e + 1 : Nat) : Int)).f0) (B : Nat)
    (hcont : ∀ k, B ≤ k → spec_l06At.j1 k a e ds hs = out) : ∀ (d k i : Nat), i + d = e → B + d < k → spec_l06At.l0 k a i ds hs = out := by
  intro d
  induction d with
  | zero =>
    intro k i hi hk
    obtain ⟨k, rfl⟩ : ∃ m, k = m + 1 := ⟨k - 1, by omega⟩
    have hie : i = e := by omega
    subst hie
    simp only [spec_l06At.l0]
    rw [w64s i (by omega)]
    by_cases h : ((i + 1 : Nat) : Int) < (hs.length : Int)
    · have := hout (by omega)
      rw [if_pos h, if_pos (by omega), if_neg (by omega)]
      exact hcont k (by omega)
    · rw [if_neg h]
      exact hcont k (by omega)
  | succ d ih =>
    intro k i hi hk
    obtain ⟨k, rfl⟩ : ∃ m, k = m + 1 := ⟨k - 1, by omega⟩
    have := hin (i + 1) (by omega) (by omega)
    simp only [spec_l06At.l0]
    rw [w64s i (by omega), if_pos (by omega), if_pos (by omega), if_pos (by omega)]
    exact ih k (i + 1) (by omega) (by omega)
theorem specAt_is (k : Nat) (ds : List Int) (hs : List S59) (a : Int) (h : grOk ds hs = true) (hk : 3000000 < k) : spec_l06At.f k ds hs a = some (topsAt hs a) := by
  obtain ⟨h1, h2, h3, h4⟩ := grOk_in h
  have hl : ∀ i : Nat, i < hs.length → (rd_T59 hs (i : Int)).f1.length = ds.length := fun i hi => by
    have := (holeOk_in (h4 i hi)).2.1
    omega
  have hr : ∀ i : Nat, i < hs.length → 0 ≤ (rd_T59 hs (i : Int)).f0 ∧ (rd_T59 hs (i : Int)).f0 ≤ 60 := fun i hi => (holeOk_in (h4 i hi)).1
  have hlt : ∀ i j : Nat, i < j → j < hs.length → (rd_T59 hs (i : Int)).f0 < (rd_T59 hs (j : Int)).f0 := fun i j hij hj => by
    have := rise_lt h4 i (j - i - 1) (by omega)
    rwa [show i + (j - i - 1) + 1 = j by omega] at this
  have hj3 := fun (i j : Nat) (hi : i < hs.length) (hj : j < hs.length) (k : Nat) (hk : 1048580 < k) => specAt_j3 ds hs a i j hi hj (by rw [hl i hi, hl j hj]) (by rw [hl i hi]; omega) ⟨hr i hi, hr j hj⟩ k hk
  have hj1 : ∀ (i b : Nat), i < hs.length → b < hs.length → (0 < b → (rd_T59 hs ((b - 1 : Nat) : Int)).f0 < a) → (∀ m : Nat, b ≤ m → m + 1 < hs.length → a ≤ (rd_T59 hs (m : Int)).f0) → ∀ k, 2000000 ≤ k → spec_l06At.j1 k a i ds hs = some (if (rd_T59 hs (i : Int)).f0 > a ∨ (rd_T59 hs (i : Int)).f0 ≥ (rd_T59 hs (b : Int)).f0 then (rd_T59 hs (i : Int)).f1 else inter (rd_T59 hs (i : Int)).f0 (rd_T59 hs (b : Int)).f0 a (rd_T59 hs (i : Int)).f1 (rd_T59 hs (b : Int)).f1 (rd_T59 hs (i : Int)).f1.length 0) := by
    intro i b hi hb hlow hup k hk
    obtain ⟨k, rfl⟩ : ∃ m, k = m + 1 := ⟨k - 1, by omega⟩
    have e : wrap64 ((hs.length : Int) - 1) = ((b + (hs.length - 1 - b) : Nat) : Int) := by rw [w64 _ (by omega) (by omega)]; omega
    simp only [spec_l06At.j1]
    rw [e]
    exact specAt_l1 ds hs a i b hb (by omega) _ hlow hup 1100000 (fun k2 hk2 => hj3 i b hi hb k2 (by omega)) (hs.length - 1 - b) k (by omega) (by omega)
  unfold spec_l06At.f topsAt
  rcases holeIx_is a hs with ⟨e, hall⟩ | ⟨j, hj, e, hge, hless⟩
  · rw [e, if_pos (by omega)]
    have hlast := hall (hs.length - 1) (by omega)
    have hz := specAt_l0 ds hs a (hs.length - 1) (by omega) (by omega) _ (fun m _ hm => by have := hall m (by omega); omega) (fun hq => by omega) 2000000 (fun k2 hk2 => hj1 (hs.length - 1) (hs.length - 1) (by omega) (by omega) (fun hq => hall (hs.length - 1 - 1) (by omega)) (fun m hm1 hm2 => by omega) k2 hk2) (hs.length - 1) k 0 (by omega) (by omega)
    rw [show ((0 : Nat) : Int) = 0 from rfl] at hz
    rw [hz, if_pos (Or.inr (Int.le_refl _))]
  · rw [e, if_neg (by omega)]
    by_cases c : j = 0
    · subst c
      rw [if_pos (show ((0 : Nat) : Int) = 0 ∨ (rd_T59 hs ((0 : Nat) : Int)).f0 = a from Or.inl rfl)]
      have hz := specAt_l0 ds hs a 0 (by omega) (by omega) _ (fun m hm1 hm2 => by omega) (fun hq => by have := hlt 0 (0 + 1) (by omega) hq; omega) 2000000 (fun k2 hk2 => hj1 0 0 (by omega) (by omega) (fun hq => by omega) (fun m hm1 hm2 => by
        rcases Nat.eq_zero_or_pos m with q | q
        · rw [q]; exact hge
        · have := hlt 0 m q (by omega); omega) k2 hk2) 0 k 0 (by omega) (by omega)
      rw [show ((0 : Nat) : Int) = 0 from rfl] at hz ⊢
      rw [hz, if_pos (Or.inr (Int.le_refl _))]
    · by_cases c2 : (rd_T59 hs (j : Int)).f0 = a
      · rw [if_pos (Or.inr c2)]
        have hz := specAt_l0 ds hs a j hj (by omega) _ (fun m hm1 hm2 => by
          rcases Nat.lt_or_ge m j with q | q
          · have := hless m q; omega
          · rw [show m = j by omega]; omega) (fun hq => by have := hlt j (j + 1) (by omega) hq; omega) 2000000 (fun k2 hk2 => hj1 j j hj hj (fun hq => hless (j - 1) (by omega)) (fun m hm1 hm2 => by
          rcases Nat.eq_or_lt_of_le hm1 with q | q
          · rw [← q]; exact hge
          · have := hlt j m q (by omega); omega) k2 hk2) j k 0 (by omega) (by omega)
        rw [show ((0 : Nat) : Int) = 0 from rfl] at hz
        rw [hz, if_pos (Or.inr (Int.le_refl _))]
      · rw [if_neg (by simp only [not_or]; exact ⟨by omega, c2⟩), Int.toNat_natCast]
        have q1 := hless (j - 1) (by omega)
        have q2 := hlt (j - 1) j (by omega) hj
        have hz := specAt_l0 ds hs a (j - 1) (by omega) (by omega) _ (fun m hm1 hm2 => by have := hless m (by omega); omega) (fun hq => by rw [show j - 1 + 1 = j by omega]; omega) 2000000 (fun k2 hk2 => hj1 (j - 1) j (by omega) hj (fun hq => hless (j - 1) (by omega)) (fun m hm1 hm2 => by
          rcases Nat.eq_or_lt_of_le hm1 with q | q
          · rw [← q]; exact hge
          · have := hlt j m q (by omega); omega) k2 hk2) (j - 1) k 0 (by omega) (by omega)
        rw [show ((0 : Nat) : Int) = 0 from rfl] at hz
        rw [hz, if_neg (by omega)]

/- The classes and the faces of a ground, as both sides reckon them. -/
def classGo (t : List Int) (h : Int) : Nat → Nat → Int → Int
  | 0, _, c => c
  | d + 1, i, c => classGo t h d (i + 1) (if rd t (i : Int) > h then (i : Int) else c)
def classOf (t : List Int) (h : Int) : Int := classGo t h t.length 0 (-1)
theorem implClass_l0 (t : List Int) (h : Int) (hb : t.length ≤ 1048576) : ∀ (d k i : Nat) (c : Int), i + d = t.length → d < k → impl_Ground_class.l0 k h c t t.length i = some (classGo t h d i c) := by
  intro d
  induction d with
  | zero =>
    intro k i c hi hk
    obtain ⟨k, rfl⟩ : ∃ m, k = m + 1 := ⟨k - 1, by omega⟩
    simp only [impl_Ground_class.l0, classGo]
    rw [if_neg (by omega)]
  | succ d ih =>
    intro k i c hi hk
    obtain ⟨k, rfl⟩ : ∃ m, k = m + 1 := ⟨k - 1, by omega⟩
    simp only [impl_Ground_class.l0, classGo]
    rw [if_pos (by omega), if_pos (by omega), if_pos (by omega), w64s i (by omega)]
    by_cases q : rd t (i : Int) > h
    · rw [if_pos q, if_pos q]
      exact ih k (i + 1) _ (by omega) (by omega)
    · rw [if_neg q, if_neg q]
      exact ih k (i + 1) _ (by omega) (by omega)
theorem specClass_l0 (t : List Int) (h : Int) (hb : t.length ≤ 1048576) : ∀ (d k i : Nat) (c : Int), i + d = t.length → d < k → spec_l06Class.l0 k t h c i = some (classGo t h d i c) := by
  intro d
  induction d with
  | zero =>
    intro k i c hi hk
    obtain ⟨k, rfl⟩ : ∃ m, k = m + 1 := ⟨k - 1, by omega⟩
    simp only [spec_l06Class.l0, classGo]
    rw [if_neg (by omega)]
  | succ d ih =>
    intro k i c hi hk
    obtain ⟨k, rfl⟩ : ∃ m, k = m + 1 := ⟨k - 1, by omega⟩
    simp only [spec_l06Class.l0, classGo]
    rw [if_pos (by omega), if_pos (by omega), w64s i (by omega)]
    by_cases q : rd t (i : Int) > h
    · rw [if_pos q, if_pos q]
      exact ih k (i + 1) _ (by omega) (by omega)
    · rw [if_neg q, if_neg q]
      exact ih k (i + 1) _ (by omega) (by omega)
theorem specClass_is (k : Nat) (t : List Int) (h : Int) (hb : t.length ≤ 1048576) (hk : t.length < k) : spec_l06Class.f k t h = some (classOf t h) := by
  unfold spec_l06Class.f classOf
  exact specClass_l0 t h hb t.length k 0 (-1) (by omega) hk
theorem implClass_is (k : Nat) (ds : List Int) (hs : List S59) (a h : Int) (hg : grOk ds hs = true) (hk : 3000000 < k) : impl_Ground_class.f k ds hs a h = some (classOf (topsAt hs a) h) := by
  have hl := topsAt_len hg a
  have hin := (grOk_in hg).1
  unfold impl_Ground_class.f classOf
  rw [implAt_is k ds hs a hg hk, bind_some_]
  exact implClass_l0 _ h (by omega) _ k 0 (-1) (by omega) (by omega)
/- What the reference asks of a ground. -/
theorem specTops_l0 (l : List Int) (n : Int) (hb : l.length ≤ 1048576) : ∀ (d k i : Nat), i + d = l.length → d < k → spec_l06Tops.l0 k l n i = some (upTo (fun j => decide (-100000 ≤ rd l (j : Int) ∧ rd l (j : Int) ≤ 100000) && dnOk l j) d i && decide ((l.length : Int) = n)) := by
  intro d
  induction d with
  | zero =>
    intro k i hi hk
    obtain ⟨k, rfl⟩ : ∃ m, k = m + 1 := ⟨k - 1, by omega⟩
    simp only [spec_l06Tops.l0]
    rw [if_neg (by omega)]
    by_cases h : (l.length : Int) = n <;> simp [upTo, h]
  | succ d ih =>
    intro k i hi hk
    obtain ⟨k, rfl⟩ : ∃ m, k = m + 1 := ⟨k - 1, by omega⟩
    have hz := ih k (i + 1) (by omega) (by omega)
    simp only [spec_l06Tops.l0, in_is, bind_some_]
    rw [if_pos (by omega), if_pos (by omega), w64s i (by omega), hz]
    simp only [upTo, dnOk]
    by_cases h : i = 0
    · rw [if_neg (show ¬ (i : Int) > 0 by omega), decide_eq_true h, ite_tt]
      simp [Bool.and_assoc]
    · have e : wrap64 ((i : Int) - 1) = ((i - 1 : Nat) : Int) := by rw [w64 _ (by omega) (by omega)]; omega
      have e2 : (!decide (rd l ((i - 1 : Nat) : Int) < rd l (i : Int))) = decide (rd l (i : Int) ≤ rd l ((i - 1 : Nat) : Int)) := by
        by_cases c : rd l ((i - 1 : Nat) : Int) < rd l (i : Int)
        · rw [decide_eq_true c, decide_eq_false (show ¬ rd l (i : Int) ≤ rd l ((i - 1 : Nat) : Int) by omega)]
          rfl
        · rw [decide_eq_false c, decide_eq_true (show rd l (i : Int) ≤ rd l ((i - 1 : Nat) : Int) by omega)]
          rfl
      rw [if_pos (show (i : Int) > 0 by omega), e, if_pos (show (0 : Int) ≤ ((i - 1 : Nat) : Int) by omega), if_pos (show ((i - 1 : Nat) : Int) < (l.length : Int) by omega), ite_ff, e2, ite_tt, decide_eq_false h, Bool.false_or]
      simp only [Bool.and_assoc]
theorem specTops_is (k : Nat) (l : List Int) (n : Int) (hb : l.length ≤ 1048576) (hk : l.length < k) : spec_l06Tops.f k l n = some (topsOk n l) := by
  unfold spec_l06Tops.f topsOk
  have h := specTops_l0 l n hb l.length k 0 (by omega) hk
  rw [show ((0 : Nat) : Int) = 0 from rfl] at h
  rw [h, upTo_and, all_upTo]
  congr 1
  ac_rfl
theorem specGround_l1 (ds : List Int) (hs : List S59) (hp : shortH hs) : ∀ (d k i : Nat), i + d = hs.length → d + 1048580 < k → spec_l06Is.l1 k i ds hs = some (upTo (holeOk ds.length hs) d i) := by
  intro d
  have hb := hp.1
  induction d with
  | zero =>
    intro k i hi hk
    obtain ⟨k, rfl⟩ : ∃ m, k = m + 1 := ⟨k - 1, by omega⟩
    simp only [spec_l06Is.l1]
    rw [if_neg (by omega)]
    rfl
  | succ d ih =>
    intro k i hi hk
    obtain ⟨k, rfl⟩ : ∃ m, k = m + 1 := ⟨k - 1, by omega⟩
    have h1 := shortH_at hp i (by omega)
    have hz := ih k (i + 1) (by omega) (by omega)
    simp only [spec_l06Is.l1, in_is, bind_some_]
    rw [if_pos (by omega), if_pos (by omega), specTops_is k _ _ h1 (by omega), bind_some_, w64s i (by omega), hz, ite_tt]
    simp only [upTo, holeOk]
    by_cases h : i = 0
    · rw [if_neg (show ¬ (i : Int) > 0 by omega), decide_eq_true h, ite_tt]
      simp [Bool.and_assoc]
    · have e : wrap64 ((i : Int) - 1) = ((i - 1 : Nat) : Int) := by rw [w64 _ (by omega) (by omega)]; omega
      rw [if_pos (show (i : Int) > 0 by omega), e, if_pos (show (0 : Int) ≤ ((i - 1 : Nat) : Int) by omega), if_pos (show ((i - 1 : Nat) : Int) < (hs.length : Int) by omega), ite_ff, not_ge_dec, ite_tt, decide_eq_false h, Bool.false_or]
      congr 1
      ac_rfl
theorem specGround_l0 (ds : List Int) (hs : List S59) (hp : shortH hs) (hd : ds.length ≤ 1048576) : ∀ (d k i : Nat), i + d = ds.length → d + 2200000 < k → spec_l06Is.l0 k i ds hs = some (upTo (fun j => decide (1 ≤ rd ds (j : Int) ∧ rd ds (j : Int) ≤ 3000)) d i && upTo (holeOk ds.length hs) hs.length 0) := by
  intro d
  have hb := hp.1
  induction d with
  | zero =>
    intro k i hi hk
    obtain ⟨k, rfl⟩ : ∃ m, k = m + 1 := ⟨k - 1, by omega⟩
    have h1 := specGround_l1 ds hs hp hs.length k 0 (by omega) (by omega)
    simp only [spec_l06Is.l0]
    rw [if_neg (by omega)]
    simpa [upTo] using h1
  | succ d ih =>
    intro k i hi hk
    obtain ⟨k, rfl⟩ : ∃ m, k = m + 1 := ⟨k - 1, by omega⟩
    have hz := ih k (i + 1) (by omega) (by omega)
    simp only [spec_l06Is.l0, in_is, bind_some_]
    rw [if_pos (by omega), if_pos (by omega), w64s i (by omega), hz, ite_tt]
    simp only [upTo, Bool.and_assoc]
theorem specGround_is (k : Nat) (ds : List Int) (hs : List S59) (hd : ds.length ≤ 1048576) (hp : shortH hs) (hk : 5000000 < k) : spec_l06Is.f k ds hs = some (grOk ds hs) := by
  have hb := hp.1
  obtain ⟨k, rfl⟩ : ∃ m, k = m + 1 := ⟨k - 1, by omega⟩
  have h0 := specGround_l0 ds hs hp hd ds.length k 0 (by omega) (by omega)
  unfold spec_l06Is.f grOk
  rw [in_is, bind_some_, in_is, bind_some_, all_upTo]
  simp only [spec_l06Is.j0]
  rw [show ((0 : Nat) : Int) = 0 from rfl] at h0
  rw [h0]
  generalize upTo (holeOk (ds.length : Int) hs) hs.length 0 = b1
  generalize upTo (fun j => decide (1 ≤ rd ds (j : Int) ∧ rd ds (j : Int) ≤ 3000)) ds.length 0 = b2
  generalize decide (1 ≤ (ds.length : Int) ∧ (ds.length : Int) ≤ 4) = b3
  generalize decide (1 ≤ (hs.length : Int) ∧ (hs.length : Int) ≤ 6) = b4
  cases b1 <;> cases b2 <;> cases b3 <;> cases b4 <;> rfl



def spec_l01Round.j0 : Nat → Int → Int → Int → Bool → Option (Int)
 | 0, _, _, _, _ => none
 | k + 1, x1, x5, x6, x21 => if x21 = true then (some (wrap64 (x5 + 1))) else (if x6 < 0 then (if (wrap64 (-x6)) ≥ (wrap64 (x1 + x6)) then (some (wrap64 (x5 - 1))) else (some x5)) else (some x5))
def spec_l01Round.f (k : Nat) (a0 : Int) (a1 : Int) : Option (Int) := if a1 = 0 then (none) else (if (Int.tmod a0 a1) ≥ 0 then (spec_l01Round.j0 k a1 (wrap64 (Int.tdiv a0 a1)) (Int.tmod a0 a1) (decide ((Int.tmod a0 a1) ≥ (wrap64 (a1 - (Int.tmod a0 a1)))))) else (spec_l01Round.j0 k a1 (wrap64 (Int.tdiv a0 a1)) (Int.tmod a0 a1) false))
def spec_l06Weight.l0 : Nat → List Int → Int → Int → List Int → List (S59) → Option (Int)
 | 0, _, _, _, _, _ => none
 | k + 1, x7, x8, x9, x1000, x1001 => if x9 < (x1000.length : Int) then (if 0 ≤ x9 then (if x9 < (x7.length : Int) then (spec_l06Weight.l0 k x7 (wrap64 (x8 + (wrap64 ((rd x7 x9) * (rd x1000 x9))))) (wrap64 (x9 + 1)) x1000 x1001) else (none)) else (none)) else ((spec_l01Round.f k x8 20).bind fun t293 => (some t293))
def spec_l06Weight.f (k : Nat) (l0_0 : List Int) (l0_1 : List (S59)) (a1 : Int) (a2 : Int) : Option (Int) := (spec_l06Face.f k l0_0 l0_1 a1 a2).bind fun t288 => (spec_l06Weight.l0 k t288 0 0 l0_0 l0_1)


/- The face and the weight of a ring, as both sides answer. -/
end Go.Proofs.Ytgfpbiaocokdeaa.P
