/- What the claim of FnExactReadHead bears, part 3: functions of the program as plain Lean functions, with proofs that the code comes to their answers, and lemmas on them. -/
import Derived.Test.YtfcadpkhmkjibaaDoorCFnExactReadHead0
import Derived.Test.YtfcadpkhmkjibaaDoorCFnExactReadHead1
import Derived.Test.YtfcadpkhmkjibaaDoorCFnExactReadHead2
set_option linter.unusedVariables false
set_option linter.unusedSimpArgs false
namespace Go.Proofs.YtfcadpkhmkjibaaDoor.P
open Go.RowKit Go.Proofs.YtfcadpkhmkjibaaDoorW.PrintWords Go.Proofs.YtfcadpkhmkjibaaDoorW.PrintLast Go.Proofs.YtfcadpkhmkjibaaDoorW.PrintMore
attribute [local go_sem] max2_int min2_int max_two min_two max_three min_three max_four min_four   -- for this text's walks alone

mutual
def impl_ReadHead.l0 : Nat → List ByteArray → List ByteArray → Int → Int → List (S77) → Int → Int → Option ((List (S77)) × List Int × List Int × Int × Int × Bool)
 | 0, _, _, _, _, _, _, _ => none
 | k + 1, x4, x26, x27, x28, x478000, x478003, x478004 => if x28 < x27 then (if 0 ≤ x28 then (if x28 < (x26.length : Int) then ((impl_readAll.f k (rdOf ByteArray.empty x26 x28) (⟨#[47]⟩ : ByteArray) (-1000000000) 1000000000).bind fun bt483 => (if bt483.2 = true then (if (bt483.1.length : Int) = 2 then (if 0 < (bt483.1.length : Int) then (if 1 < (bt483.1.length : Int) then (if x478000.length < 8796093022208 then (impl_ReadHead.l0 k x4 x26 x27 (wrap64 (x28 + 1)) (x478000 ++ [(⟨rd bt483.1 0, rd bt483.1 1⟩ : S77)]) x478003 x478004) else (none)) else (none)) else (none)) else (some (([] : List (S77)), ([] : List Int), ([] : List Int), 0, 0, false))) else (some (([] : List (S77)), ([] : List Int), ([] : List Int), 0, 0, false)))) else (none)) else (none)) else (if 1 < (x4.length : Int) then ((impl_readSome.f k (rdOf ByteArray.empty x4 1)).bind fun bt493 => (if 2 < (x4.length : Int) then ((impl_readSome.f k (rdOf ByteArray.empty x4 2)).bind fun bt498 => (if 3 < (x4.length : Int) then ((impl_readSome.f k (rdOf ByteArray.empty x4 3)).bind fun bt503 => (if bt493.2 = true then (if bt498.2 = true then (if bt503.2 = true then (impl_ReadHead.j1 k bt493.1 bt498.1 bt503.1 ((bt503.1.length : Int) != 2) x478000 x478003 x478004) else (impl_ReadHead.j1 k bt493.1 bt498.1 bt503.1 true x478000 x478003 x478004)) else (impl_ReadHead.j1 k bt493.1 bt498.1 bt503.1 true x478000 x478003 x478004)) else (impl_ReadHead.j1 k bt493.1 bt498.1 bt503.1 true x478000 x478003 x478004))) else (none))) else (none))) else (none))
def impl_ReadHead.j1 : Nat → List Int → List Int → List Int → Bool → List (S77) → Int → Int → Option ((List (S77)) × List Int × List Int × Int × Int × Bool)
 | 0, _, _, _, _, _, _, _ => none
 | k + 1, x10, x12, x14, x93, x478000, x478003, x478004 => if x93 = true then (some (([] : List (S77)), ([] : List Int), ([] : List Int), 0, 0, false)) else (if 0 < (x14.length : Int) then (if 1 < (x14.length : Int) then ((impl_ValidHead.f k x478000 x10 x12 (rd x14 0) (rd x14 1)).bind fun t509 => (if t509 = true then (some (x478000, x10, x12, rd x14 0, rd x14 1, true)) else (some (([] : List (S77)), ([] : List Int), ([] : List Int), 0, 0, false)))) else (none)) else (none))
end
def impl_ReadHead.f (k : Nat) (a0 : ByteArray) : Option ((List (S77)) × List Int × List Int × Int × Int × Bool) := (strings_Split.f a0 (⟨#[124]⟩ : ByteArray)).bind fun t474 => (if (t474.length : Int) = 4 then (if 0 < (t474.length : Int) then ((strings_Split.f (rdOf ByteArray.empty t474 0) (⟨#[44]⟩ : ByteArray)).bind fun t479 => (impl_ReadHead.l0 k t474 t479 (t479.length : Int) 0 ([] : List (S77)) 0 0)) else (none)) else (some (([] : List (S77)), ([] : List Int), ([] : List Int), 0, 0, false)))
def impl_ReadHead.T11 : Bool × List (List Nat × List Nat) := (true, [([], []), ([0], [0]), ([], []), ([2], [2]), ([3], [3]), ([], []), ([5], [5]), ([6], [6]), ([4, 7], [4, 7]), ([8], [8]), ([1, 9], [1, 9]), ([0, 1, 2, 3, 4, 5, 6, 7, 8, 9, 10], []), ([11, 10, 10, 0, 1, 2, 3, 4, 5, 6, 7, 8, 9, 10], [10, 11])])
def impl_ReadHead.B11 : List Nat := [0, 1, 0, 4, 12, 0, 32, 96, 252, 508, 1023, 2047, 4095]
theorem impl_ReadHead.tab11 : rtab .any (opsOf Tryd.f18 11) = impl_ReadHead.T11 := by kernel_rfl
theorem impl_ReadHead.bits11 : waitsOk impl_ReadHead.T11.2 impl_ReadHead.B11 = true := by kernel_rfl
def impl_ReadHead.T18 : Bool × List (List Nat × List Nat) := (true, [([], []), ([], []), ([], []), ([2], [2]), ([3], [3]), ([], []), ([5], [5]), ([6], [6]), ([0], []), ([8, 0, 0], [0, 8]), ([0, 1, 8, 9], []), ([10, 1, 9, 0, 1, 8, 9], [1, 10]), ([0, 1, 2, 3, 4, 8, 9, 10, 11], []), ([12, 4, 11, 0, 1, 2, 3, 4, 8, 9, 10, 11], [4, 12]), ([0, 1, 2, 3, 4, 5, 6, 7, 8, 9, 10, 11, 12, 13], []), ([14, 7, 13, 0, 1, 2, 3, 4, 5, 6, 7, 8, 9, 10, 11, 12, 13], [7, 14])])
def impl_ReadHead.B18 : List Nat := [0, 0, 0, 4, 12, 0, 32, 96, 1, 257, 771, 1795, 3871, 7967, 16383, 32767]
theorem impl_ReadHead.tab18 : rtab .any (opsOf Tryd.f18 18) = impl_ReadHead.T18 := by kernel_rfl
theorem impl_ReadHead.bits18 : waitsOk impl_ReadHead.T18.2 impl_ReadHead.B18 = true := by kernel_rfl
abbrev p23_18000 : Array Bool := #[false, false, false, false, false, false, false, false, false, false, false, false, false]
abbrev p23_18001 : Array Bool := #[true, false, false, false, false, false, false, false, false, false, false, false, false]
abbrev p23_18002 : Array Bool := #[true, false, true, false, false, false, false, false, false, false, false, false, false]
abbrev p23_18003 : Array Bool := #[true, false, true, true, false, false, false, false, false, false, false, false, false]
abbrev p23_18004 : Array Bool := #[true, false, true, true, false, true, false, false, false, false, false, false, false]
abbrev p23_18005 : Array Bool := #[true, false, true, true, false, true, true, false, false, false, false, false, false]
abbrev p23_18006 : Array Bool := #[true, true, true, true, false, true, true, false, false, false, false, false, false]
abbrev p23_18007 : Array Bool := #[true, true, true, true, true, true, true, false, false, false, false, false, false]
abbrev p23_18008 : Array Bool := #[true, true, true, true, true, true, true, true, false, false, false, false, false]
abbrev p23_18009 : Array Bool := #[true, true, true, true, true, true, true, true, true, false, false, false, false]
abbrev p23_18010 : Array Bool := #[true, true, true, true, true, true, true, true, true, true, false, false, false]
abbrev p23_18011 : Array Bool := #[true, true, true, true, true, true, true, true, true, true, true, false, false]
abbrev p23_18012 : Array Bool := #[true, true, true, true, true, true, true, true, true, true, true, true, false]
abbrev p23_18013 : Array Bool := #[true, true, true, true, true, true, true, true, true, true, true, true, true]
abbrev p23_18014 : Array Bool := #[false, false, false, false, false, false, false, false, false, false, false, false, false, false, false, false]
abbrev p23_18015 : Array Bool := #[true, false, false, false, false, false, false, false, false, false, false, false, false, false, false, false]
abbrev p23_18016 : Array Bool := #[true, true, false, false, false, false, false, false, false, false, false, false, false, false, false, false]
abbrev p23_18017 : Array Bool := #[true, true, true, false, false, false, false, false, false, false, false, false, false, false, false, false]
abbrev p23_18018 : Array Bool := #[true, true, true, true, false, false, false, false, false, false, false, false, false, false, false, false]
abbrev p23_18019 : Array Bool := #[true, true, true, true, false, true, false, false, false, false, false, false, false, false, false, false]
abbrev p23_18020 : Array Bool := #[true, true, true, true, false, true, true, false, false, false, false, false, false, false, false, false]
abbrev p23_18021 : Array Bool := #[true, true, true, true, false, true, true, false, true, false, false, false, false, false, false, false]
abbrev p23_18022 : Array Bool := #[true, true, true, true, true, true, true, false, true, false, false, false, false, false, false, false]
abbrev p23_18023 : Array Bool := #[true, true, true, true, true, true, true, true, true, false, false, false, false, false, false, false]
abbrev p23_18024 : Array Bool := #[true, true, true, true, true, true, true, true, true, true, false, false, false, false, false, false]
abbrev p23_18025 : Array Bool := #[true, true, true, true, true, true, true, true, true, true, true, false, false, false, false, false]
abbrev p23_18026 : Array Bool := #[true, true, true, true, true, true, true, true, true, true, true, true, false, false, false, false]
abbrev p23_18027 : Array Bool := #[true, true, true, true, true, true, true, true, true, true, true, true, true, false, false, false]
abbrev p23_18028 : Array Bool := #[true, true, true, true, true, true, true, true, true, true, true, true, true, true, false, false]
abbrev p23_18029 : Array Bool := #[true, true, true, true, true, true, true, true, true, true, true, true, true, true, true, false]
abbrev p23_18030 : Array Bool := #[true, true, true, true, true, true, true, true, true, true, true, true, true, true, true, true]
set_option maxHeartbeats 8000000 in
set_option maxRecDepth 100000 in
theorem impl_ReadHead.calls (k : Nat) (a0 : ByteArray) (r1 : List (S77)) (r2 : List Int) (r3 : List Int) (r4 : Int) (r5 : Int) (r6 : Bool) (w : World) (hT_ : Tab2 w) (h : impl_ReadHead.f k a0 = some (r1, r2, r3, r4, r5, r6)) :
  Calls Tryd.prog 18 #[.string a0] w fun e w' => ∃ v0_ v1_ v2_ : Value, e = .returned (.tuple #[.agg #[v0_, v1_, v2_, .int .i64 r4, .int .i64 r5], .bool r6]) ∧ Kd.R k77 77 w' w.heap.size (fun _ => True) v0_ r1 ∧ Kd.R (Kd.int .i64) 2 w' w.heap.size (fun k_ => some k_ ≠ (v2_ : Value).ownBlock) v1_ r2 ∧ Kd.R (Kd.int .i64) 2 w' w.heap.size (fun k_ => some k_ ≠ (v1_ : Value).ownBlock) v2_ r3 ∧ Below w.heap.size w w' := by
 have hu31 := Tryd.underlying31
 have hu77 := Tryd.underlying77
 have HLT_ := Aside0.mk hT_
 clear hT_
 have HB := Aside0.mk (Below.refl w.heap.size w)
 have H : ((strings_Split.f a0 (⟨#[124]⟩ : ByteArray)).bind fun t474 => (if (t474.length : Int) = 4 then (if 0 < (t474.length : Int) then ((strings_Split.f (rdOf ByteArray.empty t474 0) (⟨#[44]⟩ : ByteArray)).bind fun t479 => (impl_ReadHead.l0 k t474 t479 (t479.length : Int) 0 ([] : List (S77)) 0 0)) else (none)) else (some (([] : List (S77)), ([] : List Int), ([] : List Int), 0, 0, false)))) = some (r1, r2, r3, r4, r5, r6) := h
 clear h
 replace H := Option.bind_eq_some_iff.mp H
 obtain ⟨t474, A20, H⟩ := H
 replace H : (if (t474.length : Int) = 4 then (if 0 < (t474.length : Int) then ((strings_Split.f (rdOf ByteArray.empty t474 0) (⟨#[44]⟩ : ByteArray)).bind fun t479 => (impl_ReadHead.l0 k t474 t479 (t479.length : Int) 0 ([] : List (S77)) 0 0)) else (none)) else (some (([] : List (S77)), ([] : List Int), ([] : List Int), 0, 0, false))) = some (r1, r2, r3, r4, r5, r6) := H
 have A2 := Aside0.mk A20
 clear A20
 by_cases c3 : (t474.length : Int) = 4
 ·rw [if_pos c3] at H
  have c3b0 : ((t474.length : Int) == 4) = true := beq_iff_eq.mpr c3
  have c3b1 : ((t474.length : Int) != 4) = false := bne_eq_false_iff_eq.mpr c3
  clear c3
  by_cases c4 : 0 < (t474.length : Int)
  ·rw [if_pos c4] at H
   have c4b0 : decide (0 < (t474.length : Int)) = true := decide_eq_true c4
   have c4b1 : decide (0 < t474.length) = true := decide_eq_true (by omega)
   clear c4
   replace H := Option.bind_eq_some_iff.mp H
   obtain ⟨t479, A50, H⟩ := H
   replace H : (impl_ReadHead.l0 k t474 t479 (t479.length : Int) 0 ([] : List (S77)) 0 0) = some (r1, r2, r3, r4, r5, r6) := H
   have A5 := Aside0.mk A50
   clear A50
   have H' := Aside0.mk H
   clear H
   go_enter Tryd.func18, Tryd.ntmps18
   go_wp2_with (first | ((with_reducible refine gate_dst (N := 2) rfl ?_); (try (refine gate_guard (by rfl) ?_; dsimp only)); refine box_event ?hg (N := 2) ?hd (cs := #[.slice none 0 0, .slice none 0 0, .slice none 0 0, .int .i64 0, .int .i64 0]) (t := 31) ?hr ?_; (case hd => rfl); (case hg => rfl); (case hr => first | (go_simp; done) | (go_simp; rfl)); intro gb473 hg w6 hbox hb; have n0_ := Aside0.mk (below_step (by repeat (first | (with_reducible first | exact HB.out | apply below_alloc | apply pw_below_drewN | apply below_drew1) | exact HB.out)) hb); have n1_ := Aside0.mk (hbox); have n2_ := Aside0.mk ((by rw [hg]; exact (below_size (by repeat (first | (with_reducible first | exact HB.out | apply below_alloc | apply pw_below_drewN | apply below_drew1) | exact HB.out))) : w.heap.size ≤ gb473)); have n3_ := Aside0.mk ((by rw [hg]; exact (below_size (by repeat (first | (with_reducible first | exact HB.out | apply below_alloc | apply pw_below_drewN | apply below_drew1) | exact HB.out))) : w.heap.size ≤ gb473)); clear HB; have HB := n0_; have BK473 := n1_; have GW473 := n2_; have GE473 := n3_; clear n0_ n1_ n2_ n3_; clear hb hbox hg) | ((with_reducible refine gate_callee (f := 46) rfl ?_); refine goesL_ (some 17) rfl rfl Tryd.func46 (by kernel_rfl) rfl #[.string a0, .string (⟨#[124]⟩ : ByteArray)] rfl (by (try simp only [List.map_toArray, List.map_cons, List.map_nil]); first | done | rfl) ?_; (with_reducible refine (strings_Split.calls a0 (⟨#[124]⟩ : ByteArray) t474 _ ?side1 A2.out).mono ?_); (case side1 => exact Tab2.on HLT_.out (by repeat (first | (with_reducible first | exact HB.out | apply below_alloc | apply pw_below_drewN | apply below_drew1 | refine below_set ?_ GE473.out) | exact HB.out))); rintro e w7 ⟨v475, rfl, ho0, hb⟩; refine ⟨_, rfl, ?_⟩; have n0_ := Aside0.mk (Kd.R_lower ho0 (below_size (by repeat (first | (with_reducible first | exact HB.out | apply below_alloc | apply pw_below_drewN | apply below_drew1 | refine below_set ?_ GE473.out) | exact HB.out)))); have n1_ := Aside0.mk (blk_below (g := gb473) (o := .cells #[.slice none 0 0, .slice none 0 0, .slice none 0 0, .int .i64 0, .int .i64 0] 31 (0, 0)) (by (with_reducible repeat (first | refine blk_drewN ?_ _ | refine blk_drew ?_ | refine blk_alloc ?_ _)); exact BK473.out) hb); have n2_ := Aside0.mk (below_step (by repeat (first | (with_reducible first | exact HB.out | apply below_alloc | apply pw_below_drewN | apply below_drew1 | refine below_set ?_ GE473.out) | exact HB.out)) hb); clear BK473; clear HB; have HO476 := n0_; have BK473 := n1_; have HB := n2_; clear n0_ n1_ n2_; (try clear hb); (try clear hb2); (try clear hk); (try clear hi); (try clear ho0); obtain ⟨Ao8, co8, eo8⟩ := Kd.R_slice HO476.out; subst eo8) | ((with_reducible refine gate_dst (N := 5) rfl ?_); (try (refine gate_guard (by rfl) ?_; dsimp only)); refine box_event ?hg (N := 5) ?hd (cs := #[.slice none 0 0, .slice none 0 0, .slice none 0 0, .int .i64 0, .int .i64 0]) (t := 31) ?hr ?_; (case hd => rfl); (case hg => rfl); (case hr => first | (go_simp; done) | (go_simp; rfl)); intro gb477 hg w9 hbox hb; have n0_ := Aside0.mk (Kd.R_below (by (with_reducible repeat (first | apply Kd.R_alloc | apply Kd.R_drewN | apply Kd.R_drew)); exact HO476.out) hb); have n1_ := Aside0.mk (blk_below (g := gb473) (o := .cells #[.slice none 0 0, .slice none 0 0, .slice none 0 0, .int .i64 0, .int .i64 0] 31 (0, 0)) (by (with_reducible repeat (first | refine blk_drewN ?_ _ | refine blk_drew ?_ | refine blk_alloc ?_ _)); exact BK473.out) hb); have n2_ := Aside0.mk (below_step (by repeat (first | (with_reducible first | exact HB.out | apply below_alloc | apply pw_below_drewN | apply below_drew1 | refine below_set ?_ GE473.out) | exact HB.out)) hb); have n3_ := Aside0.mk (hbox); have n4_ := Aside0.mk ((by rw [hg]; exact (below_size (by repeat (first | (with_reducible first | exact HB.out | apply below_alloc | apply pw_below_drewN | apply below_drew1 | refine below_set ?_ GE473.out) | exact HB.out))) : w.heap.size ≤ gb477)); have n5_ := Aside0.mk ((by rw [hg]; exact (below_size (by repeat (first | (with_reducible first | exact HB.out | apply below_alloc | apply pw_below_drewN | apply below_drew1 | refine below_set ?_ GE473.out) | exact HB.out))) : w.heap.size ≤ gb477)); have n6_ := Aside0.mk ((by rw [hg]; exact Nat.ne_of_lt (blk_lt (g := gb473) (o := .cells #[.slice none 0 0, .slice none 0 0, .slice none 0 0, .int .i64 0, .int .i64 0] 31 (0, 0)) (by (with_reducible repeat (first | refine blk_drewN ?_ _ | refine blk_drew ?_ | refine blk_alloc ?_ _)); exact BK473.out)) : gb473 ≠ gb477)); have n7_ := Aside0.mk ((by rw [hg]; exact Nat.ne_of_gt (blk_lt (g := gb473) (o := .cells #[.slice none 0 0, .slice none 0 0, .slice none 0 0, .int .i64 0, .int .i64 0] 31 (0, 0)) (by (with_reducible repeat (first | refine blk_drewN ?_ _ | refine blk_drew ?_ | refine blk_alloc ?_ _)); exact BK473.out)) : gb477 ≠ gb473)); clear HO476; clear BK473; clear HB; have HO476 := n0_; have BK473 := n1_; have HB := n2_; have BK477 := n3_; have GW477 := n4_; have GE477 := n5_; have NB473_477 := n6_; have NB477_473 := n7_; clear n0_ n1_ n2_ n3_ n4_ n5_ n6_ n7_; clear hb hbox hg; have hnb10 := NB477_473.out; have hnc10 := NB473_477.out; have hcz11_0 : w9.cell? ⟨gb477, 0, none⟩ = some (.slice none 0 0) := (blk_cell BK477.out 0).trans rfl; have hcz11_1 : w9.cell? ⟨gb477, 1, none⟩ = some (.slice none 0 0) := (blk_cell BK477.out 1).trans rfl; have hcz11_2 : w9.cell? ⟨gb477, 2, none⟩ = some (.slice none 0 0) := (blk_cell BK477.out 2).trans rfl; have hcz11_3 : w9.cell? ⟨gb477, 3, none⟩ = some (.int .i64 0) := (blk_cell BK477.out 3).trans rfl; have hcz11_4 : w9.cell? ⟨gb477, 4, none⟩ = some (.int .i64 0) := (blk_cell BK477.out 4).trans rfl; have hfz11_0 := blk_frozen BK477.out 0; have hfz11_1 := blk_frozen BK477.out 1; have hfz11_2 := blk_frozen BK477.out 2; have hfz11_3 := blk_frozen BK477.out 3; have hfz11_4 := blk_frozen BK477.out 4; have p478 : 0 ≤ (0 : Int) := (by omega); have q478 : 0 < (t474.length : Int) := of_decide_eq_true (by assumption); obtain ⟨ad478, e478, hx478_0⟩ := Kd.at_string (Kd.R_reads' HO476.out).2.2 0 p478 q478; cases e478; have qi478 : (0 < t474.length) = True := eq_true (by omega); (try rw [show ((0 : Int)).toNat = 0 from rfl] at hx478_0); (try rw [Addr.add_zero'] at hx478_0); have hn478_0 : ad478.block ≠ gb477 := Kd.own_blk (Kd.R_ne HO476.out BK477.out (by decide)); have hn478_1 : ad478.block ≠ gb477 := Kd.own_blk (Kd.R_ne HO476.out BK477.out (by decide)); have hn478_2 : ad478.block ≠ gb477 := Kd.own_blk (Kd.R_ne HO476.out BK477.out (by decide)); have hn478_3 : ad478.block ≠ gb477 := Kd.own_blk (Kd.R_ne HO476.out BK477.out (by decide)); have hn478_4 : ad478.block ≠ gb477 := Kd.own_blk (Kd.R_ne HO476.out BK477.out (by decide)); replace hx478_0 := (cell_far (p := ⟨gb477, 0, none⟩) (by first | (rw [add_block]; exact hn478_0) | (show (Addr.add _ _).block ≠ _; rw [add_block]; exact hn478_0) | exact hn478_0) (.slice none 0 0)).trans hx478_0; replace hx478_0 := (cell_far (p := ⟨gb477, 1, none⟩) (by first | (rw [add_block]; exact hn478_1) | (show (Addr.add _ _).block ≠ _; rw [add_block]; exact hn478_1) | exact hn478_1) (.slice none 0 0)).trans hx478_0; replace hx478_0 := (cell_far (p := ⟨gb477, 2, none⟩) (by first | (rw [add_block]; exact hn478_2) | (show (Addr.add _ _).block ≠ _; rw [add_block]; exact hn478_2) | exact hn478_2) (.slice none 0 0)).trans hx478_0; replace hx478_0 := (cell_far (p := ⟨gb477, 3, none⟩) (by first | (rw [add_block]; exact hn478_3) | (show (Addr.add _ _).block ≠ _; rw [add_block]; exact hn478_3) | exact hn478_3) (.int .i64 0)).trans hx478_0; replace hx478_0 := (cell_far (p := ⟨gb477, 4, none⟩) (by first | (rw [add_block]; exact hn478_4) | (show (Addr.add _ _).block ≠ _; rw [add_block]; exact hn478_4) | exact hn478_4) (.int .i64 0)).trans hx478_0; clear hn478_0; clear hn478_1; clear hn478_2; clear hn478_3; clear hn478_4; replace p478 := eq_true p478; replace q478 := eq_true q478) | ((with_reducible refine gate_callee (f := 46) rfl ?_); refine goesL_ (some 26) rfl rfl Tryd.func46 (by kernel_rfl) rfl #[.string (rdOf ByteArray.empty t474 0), .string (⟨#[44]⟩ : ByteArray)] rfl (by (try simp only [List.map_toArray, List.map_cons, List.map_nil]); first | done | rfl) ?_; (with_reducible refine (strings_Split.calls (rdOf ByteArray.empty t474 0) (⟨#[44]⟩ : ByteArray) t479 _ ?side1 A5.out).mono ?_); (case side1 => exact Tab2.on HLT_.out (by repeat (first | (with_reducible first | exact HB.out | apply below_alloc | apply pw_below_drewN | apply below_drew1 | refine below_set ?_ GE473.out | refine below_set ?_ GE477.out) | exact HB.out))); rintro e w12 ⟨v480, rfl, ho0, hb⟩; refine ⟨_, rfl, ?_⟩; have n0_ := Aside0.mk (Kd.R_elder' (by (with_reducible repeat (first | apply Kd.R_alloc | apply Kd.R_drewN | apply Kd.R_drew)); exact (Kd.R_mono (Kd.R_far (p := ⟨gb477, 4, none⟩) (Kd.R_far (p := ⟨gb477, 3, none⟩) (Kd.R_far (p := ⟨gb477, 2, none⟩) (Kd.R_far (p := ⟨gb477, 1, none⟩) (Kd.R_far (p := ⟨gb477, 0, none⟩) (Kd.R_types HO476.out BK477.out (by decide)) (fun _ hk => hk.2) (.slice none 0 0)) (fun _ hk => hk.2) (.slice none 0 0)) (fun _ hk => hk.2) (.slice none 0 0)) (fun _ hk => hk.2) (.int .i64 0)) (fun _ hk => hk.2) (.int .i64 0)) (fun _ h_ => h_.1))) (Kd.R_base ho0) hb); have n1_ := Aside0.mk (Kd.R_lower (Kd.R_new' ho0 (Kd.R_lt (by (with_reducible repeat (first | apply Kd.R_alloc | apply Kd.R_drewN | apply Kd.R_drew)); exact (Kd.R_mono (Kd.R_far (p := ⟨gb477, 4, none⟩) (Kd.R_far (p := ⟨gb477, 3, none⟩) (Kd.R_far (p := ⟨gb477, 2, none⟩) (Kd.R_far (p := ⟨gb477, 1, none⟩) (Kd.R_far (p := ⟨gb477, 0, none⟩) (Kd.R_types HO476.out BK477.out (by decide)) (fun _ hk => hk.2) (.slice none 0 0)) (fun _ hk => hk.2) (.slice none 0 0)) (fun _ hk => hk.2) (.slice none 0 0)) (fun _ hk => hk.2) (.int .i64 0)) (fun _ hk => hk.2) (.int .i64 0)) (fun _ h_ => h_.1))))) (below_size (by repeat (first | (with_reducible first | exact HB.out | apply below_alloc | apply pw_below_drewN | apply below_drew1 | refine below_set ?_ GE473.out | refine below_set ?_ GE477.out) | exact HB.out)))); have n2_ := Aside0.mk (blk_below (g := gb473) (o := .cells #[.slice none 0 0, .slice none 0 0, .slice none 0 0, .int .i64 0, .int .i64 0] 31 (0, 0)) (by (with_reducible repeat (first | refine blk_drewN ?_ _ | refine blk_drew ?_ | refine blk_alloc ?_ _)); refine blk_far ?_ NB473_477.out _; (with_reducible repeat (first | refine blk_drewN ?_ _ | refine blk_drew ?_ | refine blk_alloc ?_ _)); refine blk_far ?_ NB473_477.out _; (with_reducible repeat (first | refine blk_drewN ?_ _ | refine blk_drew ?_ | refine blk_alloc ?_ _)); refine blk_far ?_ NB473_477.out _; (with_reducible repeat (first | refine blk_drewN ?_ _ | refine blk_drew ?_ | refine blk_alloc ?_ _)); refine blk_far ?_ NB473_477.out _; (with_reducible repeat (first | refine blk_drewN ?_ _ | refine blk_drew ?_ | refine blk_alloc ?_ _)); refine blk_far ?_ NB473_477.out _; (with_reducible repeat (first | refine blk_drewN ?_ _ | refine blk_drew ?_ | refine blk_alloc ?_ _)); exact BK473.out) hb); have n3_ := Aside0.mk (blk_below (g := gb477) (o := .cells #[.slice none 0 0, .slice none 0 0, .slice none 0 0, .int .i64 0, .int .i64 0] 31 (0, 0)) (by (with_reducible repeat (first | refine blk_drewN ?_ _ | refine blk_drew ?_ | refine blk_alloc ?_ _)); refine blk_put (cs := #[.slice none 0 0, .slice none 0 0, .slice none 0 0, .int .i64 0, .int .i64 0]) ?_ 4 _ rfl; (with_reducible repeat (first | refine blk_drewN ?_ _ | refine blk_drew ?_ | refine blk_alloc ?_ _)); refine blk_put (cs := #[.slice none 0 0, .slice none 0 0, .slice none 0 0, .int .i64 0, .int .i64 0]) ?_ 3 _ rfl; (with_reducible repeat (first | refine blk_drewN ?_ _ | refine blk_drew ?_ | refine blk_alloc ?_ _)); refine blk_put (cs := #[.slice none 0 0, .slice none 0 0, .slice none 0 0, .int .i64 0, .int .i64 0]) ?_ 2 _ rfl; (with_reducible repeat (first | refine blk_drewN ?_ _ | refine blk_drew ?_ | refine blk_alloc ?_ _)); refine blk_put (cs := #[.slice none 0 0, .slice none 0 0, .slice none 0 0, .int .i64 0, .int .i64 0]) ?_ 1 _ rfl; (with_reducible repeat (first | refine blk_drewN ?_ _ | refine blk_drew ?_ | refine blk_alloc ?_ _)); refine blk_put (cs := #[.slice none 0 0, .slice none 0 0, .slice none 0 0, .int .i64 0, .int .i64 0]) ?_ 0 _ rfl; (with_reducible repeat (first | refine blk_drewN ?_ _ | refine blk_drew ?_ | refine blk_alloc ?_ _)); exact BK477.out) hb); have n4_ := Aside0.mk (below_step (by repeat (first | (with_reducible first | exact HB.out | apply below_alloc | apply pw_below_drewN | apply below_drew1 | refine below_set ?_ GE473.out | refine below_set ?_ GE477.out) | exact HB.out)) hb); clear HO476; clear BK473; clear BK477; clear HB; have HO476 := n0_; have HO481 := n1_; have BK473 := n2_; have BK477 := n3_; have HB := n4_; clear n0_ n1_ n2_ n3_ n4_; (try clear hb); (try clear hb2); (try clear hk); (try clear hi); (try clear ho0); obtain ⟨Ao13, co13, eo13⟩ := Kd.R_slice HO481.out; subst eo13))
   go_loopg [28] k (fun kq v28 w' => ∃ (x28_1 : Int) (x474003_1 : Int) (x474004_1 : Int) (x478000_1 : List (S77)) (u478000 : Value), v28 = .int .i64 x28_1 ∧ Aside0 (impl_ReadHead.l0 kq t474 t479 (t479.length : Int) x28_1 x478000_1 0 0 = some (r1, r2, r3, r4, r5, r6)) ∧ Aside0 (kq ≤ k) ∧ Aside0 (Kd.R Kd.string 9 w' w.heap.size (fun k_ => some k_ ≠ ((.slice Ao13 t479.length co13) : Value).ownBlock) (.slice (some ad478) t474.length co8) t474) ∧ Aside0 (Kd.R Kd.string 9 w' w.heap.size (fun k_ => some k_ ≠ ((.slice (some ad478) t474.length co8) : Value).ownBlock) (.slice Ao13 t479.length co13) t479) ∧ Aside0 (Kd.R k77 77 w' w.heap.size (fun _ => True) u478000 x478000_1) ∧ Aside0 (w'.heap[gb473]? = some (.cells #[(.slice none 0 0), (.slice none 0 0), (.slice none 0 0), .int .i64 x474003_1, .int .i64 x474004_1] 31 (0, 0))) ∧ Aside0 (w'.heap[gb477]? = some (.cells #[u478000, (.slice none 0 0), (.slice none 0 0), .int .i64 0, .int .i64 0] 31 (0, 0))) ∧ Aside0 (Below w.heap.size w w'))
   case atStart => exact ⟨(0), (0), (0), (([] : List (S77))), (.slice none 0 0), (by first | rfl | (simp; done) | (simp [*]; done) | (simp [tz_, *]; done)), H', ⟨Nat.le_refl _⟩, ⟨by (with_reducible repeat (first | apply Kd.R_alloc | apply Kd.R_drewN | apply Kd.R_drew)); exact Kd.R_mono HO476.out (fun _ hk => hk.2)⟩, ⟨by (with_reducible repeat (first | apply Kd.R_alloc | apply Kd.R_drewN | apply Kd.R_drew)); exact Kd.R_mono HO481.out (fun _ hk => hk.2)⟩, ⟨by first | exact Kd.R_nil _ _ _ _ _ | exact Kd.N_nil _ _ _ _ _ | exact Kd.V_nil _ _ _ _ _ | exact Kd.Q_nil _ _ _ _ _ | exact Kd.S_nil _ _ _ _ _⟩, ⟨by (with_reducible repeat (first | refine blk_drewN ?_ _ | refine blk_drew ?_ | refine blk_alloc ?_ _)); exact BK473.out⟩, ⟨by (with_reducible repeat (first | refine blk_drewN ?_ _ | refine blk_drew ?_ | refine blk_alloc ?_ _)); exact BK477.out⟩, ⟨by repeat (first | (with_reducible first | exact HB.out | apply below_alloc | apply pw_below_drewN | apply below_drew1 | refine below_set ?_ GE473.out | refine below_set ?_ GE477.out) | exact HB.out)⟩⟩
   case round =>
    clear H'
    try clear c1
    try clear p2
    try clear c3
    try clear c3b0
    try clear c3b1
    try clear c4
    try clear c4b0
    try clear c4b1
    try clear p4
    try clear q4
    try clear hx4
    try clear qi4
    try clear c10
    try clear hcz11_0
    try clear hcz11_1
    try clear hcz11_2
    try clear hcz11_3
    try clear hcz11_4
    try clear hfz11_0
    try clear hfz11_1
    try clear hfz11_2
    try clear hfz11_3
    try clear hfz11_4
    try clear hx478_0
    try clear p478
    try clear q478
    obtain ⟨x28_1, x474003_1, x474004_1, x478000_1, u478000, rfl, HA, HK1, HO_4, HO_26, HO_478000, BK473, BK477, HB⟩ := hrel
    cases gk with
    | zero => exact absurd HA.out (by simp [impl_ReadHead.l0])
    | succ k1 =>
     have H := HA.out
     clear HA
     simp only [impl_ReadHead.l0] at H
     by_cases c14 : x28_1 < (t479.length : Int)
     ·rw [if_pos c14] at H
      have c14b0 : decide (x28_1 < (t479.length : Int)) = true := decide_eq_true c14
      clear c14
      by_cases c15 : 0 ≤ x28_1
      ·rw [if_pos c15] at H
       have c15b0 : decide (0 ≤ x28_1) = true := decide_eq_true c15
       clear c15
       by_cases c16 : x28_1 < (t479.length : Int)
       ·rw [if_pos c16] at H
        have c16b0 : decide (x28_1 < (t479.length : Int)) = true := decide_eq_true c16
        clear c16
        replace H := Option.bind_eq_some_iff.mp H
        obtain ⟨⟨t483, t484⟩, A170, H⟩ := H
        replace H : (if t484 = true then (if (t483.length : Int) = 2 then (if 0 < (t483.length : Int) then (if 1 < (t483.length : Int) then (if x478000_1.length < 8796093022208 then (impl_ReadHead.l0 k1 t474 t479 (t479.length : Int) (wrap64 (x28_1 + 1)) (x478000_1 ++ [(⟨rd t483 0, rd t483 1⟩ : S77)]) 0 0) else (none)) else (none)) else (none)) else (some (([] : List (S77)), ([] : List Int), ([] : List Int), 0, 0, false))) else (some (([] : List (S77)), ([] : List Int), ([] : List Int), 0, 0, false))) = some (r1, r2, r3, r4, r5, r6) := H
        have A17 := Aside0.mk A170
        clear A170
        by_cases c18 : t484 = true
        ·subst c18
         have H1 : (if (t483.length : Int) = 2 then (if 0 < (t483.length : Int) then (if 1 < (t483.length : Int) then (if x478000_1.length < 8796093022208 then (impl_ReadHead.l0 k1 t474 t479 (t479.length : Int) (wrap64 (x28_1 + 1)) (x478000_1 ++ [(⟨rd t483 0, rd t483 1⟩ : S77)]) 0 0) else (none)) else (none)) else (none)) else (some (([] : List (S77)), ([] : List Int), ([] : List Int), 0, 0, false))) = some (r1, r2, r3, r4, r5, r6) := by rw [if_pos rfl] at H; exact H
         clear H
         have H := H1
         clear H1
         by_cases c19 : (t483.length : Int) = 2
         ·rw [if_pos c19] at H
          have c19b0 : ((t483.length : Int) == 2) = true := beq_iff_eq.mpr c19
          have c19b1 : ((t483.length : Int) != 2) = false := bne_eq_false_iff_eq.mpr c19
          clear c19
          by_cases c20 : 0 < (t483.length : Int)
          ·rw [if_pos c20] at H
           have c20b0 : decide (0 < (t483.length : Int)) = true := decide_eq_true c20
           have c20b1 : decide (0 < t483.length) = true := decide_eq_true (by omega)
           clear c20
           by_cases c21 : 1 < (t483.length : Int)
           ·rw [if_pos c21] at H
            have c21b0 : decide (1 < (t483.length : Int)) = true := decide_eq_true c21
            have c21b1 : decide (1 < t483.length) = true := decide_eq_true (by omega)
            clear c21
            by_cases c22 : x478000_1.length < 8796093022208
            ·rw [if_pos c22] at H
             have LMc22 := Aside0.mk c22
             clear c22
             obtain ⟨y489, hy489⟩ : ∃ y_ : List (S77), y_ = (x478000_1 ++ [(⟨rd t483 0, rd t483 1⟩ : S77)]) := ⟨_, rfl⟩
             replace H : (impl_ReadHead.l0 k1 t474 t479 (t479.length : Int) (wrap64 (x28_1 + 1)) y489 0 0) = some (r1, r2, r3, r4, r5, r6) := by first | (rw [hy489]; with_reducible exact H) | (have H2_ := (Option.bind_some _ _).symm.trans H; rw [hy489]; with_reducible exact H2_) | (have H2_ := (Option.bind_some _ _).symm.trans H; with_reducible exact H2_) | with_reducible exact H | (rw [hy489]; exact H) | exact H
             have Ny489 := Aside0.mk hy489
             clear hy489
             have H' := Aside0.mk H
             clear H
             have p482 : 0 ≤ (x28_1 : Int) := of_decide_eq_true (by assumption)
             have q482 : x28_1 < (t479.length : Int) := of_decide_eq_true (by assumption)
             obtain ⟨ad482, e482, hx482_0⟩ := Kd.at_string (Kd.R_reads' HO_26.out).2.2 x28_1 p482 q482
             cases e482
             replace p482 := eq_true p482
             replace q482 := eq_true q482
             try go_wp2_with (first | ((with_reducible refine gate_callee (f := 47) rfl ?_); refine goesL_ (some 34) rfl rfl Tryd.func47 (by kernel_rfl) rfl #[.string (rdOf ByteArray.empty t479 x28_1), .string (⟨#[47]⟩ : ByteArray), .int .i64 (-1000000000), .int .i64 1000000000] rfl (by (try simp only [List.map_toArray, List.map_cons, List.map_nil]); first | done | rfl) ?_; (with_reducible refine (impl_readAll.calls k1 (rdOf ByteArray.empty t479 x28_1) (⟨#[47]⟩ : ByteArray) (-1000000000) 1000000000 t483 true _ ?side1 A17.out).mono ?_); (case side1 => exact Tab2.on HLT_.out (by repeat (first | (with_reducible first | exact HB.out | apply below_alloc | apply pw_below_drewN | apply below_drew1 | refine below_set ?_ GE473.out | refine below_set ?_ GE477.out) | exact HB.out))); rintro e w23 ⟨v485, rfl, ho0, hb⟩; refine ⟨_, rfl, ?_⟩; have n0_ := Aside0.mk (Kd.R_below (by (with_reducible repeat (first | apply Kd.R_alloc | apply Kd.R_drewN | apply Kd.R_drew)); exact HO_4.out) hb); have n1_ := Aside0.mk (Kd.R_below (by (with_reducible repeat (first | apply Kd.R_alloc | apply Kd.R_drewN | apply Kd.R_drew)); exact HO_26.out) hb); have n2_ := Aside0.mk (Kd.R_below (by (with_reducible repeat (first | apply Kd.R_alloc | apply Kd.R_drewN | apply Kd.R_drew)); exact HO_478000.out) hb); have n3_ := Aside0.mk (Kd.R_lower ho0 (below_size (by repeat (first | (with_reducible first | exact HB.out | apply below_alloc | apply pw_below_drewN | apply below_drew1 | refine below_set ?_ GE473.out | refine below_set ?_ GE477.out) | exact HB.out)))); have n4_ := Aside0.mk (blk_below (g := gb473) (o := .cells #[.slice none 0 0, .slice none 0 0, .slice none 0 0, .int .i64 x474003_1, .int .i64 x474004_1] 31 (0, 0)) (by (with_reducible repeat (first | refine blk_drewN ?_ _ | refine blk_drew ?_ | refine blk_alloc ?_ _)); exact BK473.out) hb); have n5_ := Aside0.mk (blk_below (g := gb477) (o := .cells #[u478000, .slice none 0 0, .slice none 0 0, .int .i64 0, .int .i64 0] 31 (0, 0)) (by (with_reducible repeat (first | refine blk_drewN ?_ _ | refine blk_drew ?_ | refine blk_alloc ?_ _)); exact BK477.out) hb); have n6_ := Aside0.mk (below_step (by repeat (first | (with_reducible first | exact HB.out | apply below_alloc | apply pw_below_drewN | apply below_drew1 | refine below_set ?_ GE473.out | refine below_set ?_ GE477.out) | exact HB.out)) hb); clear HO_4; clear HO_26; clear HO_478000; clear BK473; clear BK477; clear HB; have HO_4 := n0_; have HO_26 := n1_; have HO_478000 := n2_; have HO486 := n3_; have BK473 := n4_; have BK477 := n5_; have HB := n6_; clear n0_ n1_ n2_ n3_ n4_ n5_ n6_; (try clear hb); (try clear hb2); (try clear hk); (try clear hi); (try clear ho0); obtain ⟨Ao24, co24, eo24⟩ := Kd.R_slice HO486.out; subst eo24))
             have n0_ := Aside0.mk (Kd.R_drew HO_4.out)
             have n1_ := Aside0.mk (Kd.R_drew HO_26.out)
             have n2_ := Aside0.mk (Kd.R_drew HO_478000.out)
             have n3_ := Aside0.mk (Kd.R_drew HO486.out)
             have n4_ := Aside0.mk (blk_drew BK473.out)
             have n5_ := Aside0.mk (blk_drew BK477.out)
             have n6_ := Aside0.mk (below_drew1 HB.out)
             clear HO_4
             clear HO_26
             clear HO_478000
             clear HO486
             clear BK473
             clear BK477
             clear HB
             have HO_4 := n0_
             have HO_26 := n1_
             have HO_478000 := n2_
             have HO486 := n3_
             have BK473 := n4_
             have BK477 := n5_
             have HB := n6_
             clear n0_ n1_ n2_ n3_ n4_ n5_ n6_
             have p487 : 0 ≤ (0 : Int) := (by omega)
             have q487 : 0 < (t483.length : Int) := of_decide_eq_true (by assumption)
             obtain ⟨ad487, e487, hx487_0⟩ := Kd.at_int (Kd.R_reads' HO486.out).2.2 0 p487 q487
             cases e487
             have qi487 : (0 < t483.length) = True := eq_true (by omega)
             (try rw [show ((0 : Int)).toNat = 0 from rfl] at hx487_0)
             (try rw [Addr.add_zero'] at hx487_0)
             replace p487 := eq_true p487
             replace q487 := eq_true q487
             have p488 : 0 ≤ (1 : Int) := (by omega)
             have q488 : 1 < (t483.length : Int) := of_decide_eq_true (by assumption)
             obtain ⟨ad488, e488, hx488_0⟩ := Kd.at_int (Kd.R_reads' HO486.out).2.2 1 p488 q488
             obtain rfl : ad487 = ad488 := (by injection e488)
             (try simp only [show (1 : Int).toNat = 1 from rfl, Nat.reduceMul, Nat.reduceEqDiff, Go.Addr.add, ↓reduceIte] at hx488_0)
             have qi488 : (1 < t483.length) = True := eq_true (by omega)
             (try rw [show ((1 : Int)).toNat = 1 from rfl] at hx488_0)
             replace p488 := eq_true p488
             replace q488 := eq_true q488
             refine start_ (n := 13) (S := fun w' => w'.cell? ⟨gb477, 0, none⟩ = some (u478000) ∧ w'.cell? ⟨gb477, 1, none⟩ = some (.slice none 0 0) ∧ w'.cell? ⟨gb477, 2, none⟩ = some (.slice none 0 0) ∧ w'.cell? ⟨gb477, 3, none⟩ = some (.int .i64 0) ∧ w'.cell? ⟨gb477, 4, none⟩ = some (.int .i64 0) ∧ w'.cell? ad487 = some (.int .i64 (rd t483 0)) ∧ w'.cell? ⟨ad487.block, ad487.off + 1, none⟩ = some (.int .i64 (rd t483 1))) (ds := [10, 12]) p23_18000 (by kernel_rfl) rfl rfl ⟨(blk_cell BK477.out 0).trans rfl, (blk_cell BK477.out 1).trans rfl, (blk_cell BK477.out 2).trans rfl, (blk_cell BK477.out 3).trans rfl, (blk_cell BK477.out 4).trans rfl, hx487_0, hx488_0⟩ (fun hHeld => ?_); refine with_tabW impl_ReadHead.tab11 impl_ReadHead.bits11 (fun HT_ HW_ => ?_)
             generalize w23.drew = w25 at HO_4 HO_26 HO_478000 HO486 BK473 BK477 HB hx487_0 hx488_0 hHeld ⊢
             refine pure_ (i := 0) (N := some 45) (v := ?_) (a' := ?_) p23_18001 rfl rfl (any_of HT_.out (by kernel_rfl)) (fun _ _ _ h => h) (Or.inl ⟨by rfl, ?_⟩) ?_ ?_
             rotate_left
             ·intro w'
              go_simp
              with_reducible rfl
             rotate_left
             ·simp only [Act.put, qa_, qz_, qs_, i64_w, i32_w]
              rfl
             refine pure_ (i := 2) (N := some 47) (v := ?_) (a' := ?_) p23_18002 rfl rfl (any_of HT_.out (by kernel_rfl)) (fun _ _ _ h => h) (Or.inl ⟨by rfl, ?_⟩) ?_ ?_
             rotate_left
             ·intro w'
              go_simp
              with_reducible rfl
             rotate_left
             ·simp only [Act.put, qa_, qz_, qs_, i64_w, i32_w]
              rfl
             refine pure_ (i := 3) (N := some 48) (v := ?_) (a' := ?_) p23_18003 rfl rfl (any_of HT_.out (by kernel_rfl)) (fun _ _ _ h => h) (Or.inl ⟨by rfl, ?_⟩) ?_ ?_
             rotate_left
             ·intro w'
              go_simp
              with_reducible rfl
             rotate_left
             ·simp only [Act.put, qa_, qz_, qs_, i64_w, i32_w]
              rfl
             refine pure_ (i := 5) (N := some 50) (v := ?_) (a' := ?_) p23_18004 rfl rfl (any_of HT_.out (by kernel_rfl)) (fun _ _ _ h => h) (Or.inl ⟨by rfl, ?_⟩) ?_ ?_
             rotate_left
             ·intro w'
              go_simp
              with_reducible rfl
             rotate_left
             ·simp only [Act.put, qa_, qz_, qs_, i64_w, i32_w]
              rfl
             refine pure_ (i := 6) (N := some 51) (v := ?_) (a' := ?_) p23_18005 rfl rfl (any_of HT_.out (by kernel_rfl)) (fun _ _ _ h => h) (Or.inl ⟨by rfl, ?_⟩) ?_ ?_
             rotate_left
             ·intro w'
              go_simp
              with_reducible rfl
             rotate_left
             ·simp only [Act.put, qa_, qz_, qs_, i64_w, i32_w]
              rfl
             refine take_ (i := 1) (N := some 46) (v := ?_) (a' := ?_) p23_18006 rfl rfl (take_ofW HT_.out HW_.out (by kernel_rfl)) (fun _ _ _ h => h) (Or.inl ⟨by rfl, ?_⟩) hHeld ?_ ?_
             rotate_left
             ·rintro w' ⟨s0, s1, s2, s3, s4, s5, s6⟩
              go_simp
              with_reducible rfl
             rotate_left
             ·simp only [Act.put, qa_, qz_, qs_, i64_w, i32_w]
              rfl
             refine take_ (i := 4) (N := some 49) (v := ?_) (a' := ?_) p23_18007 rfl rfl (take_ofW HT_.out HW_.out (by kernel_rfl)) (fun _ _ _ h => h) (Or.inl ⟨by rfl, ?_⟩) hHeld ?_ ?_
             rotate_left
             ·rintro w' ⟨s0, s1, s2, s3, s4, s5, s6⟩
              go_simp
              with_reducible rfl
             rotate_left
             ·simp only [Act.put, qa_, qz_, qs_, i64_w, i32_w]
              rfl
             refine take_ (i := 7) (N := some 52) (v := ?_) (a' := ?_) p23_18008 rfl rfl (take_ofW HT_.out HW_.out (by kernel_rfl)) (fun _ _ _ h => h) (Or.inl ⟨by rfl, ?_⟩) hHeld ?_ ?_
             rotate_left
             ·rintro w' ⟨s0, s1, s2, s3, s4, s5, s6⟩
              go_simp
              with_reducible rfl
             rotate_left
             ·simp only [Act.put, qa_, qz_, qs_, i64_w, i32_w]
              rfl
             refine pure_ (i := 8) (N := some 53) (v := ?_) (a' := ?_) p23_18009 rfl rfl (any_of HT_.out (by kernel_rfl)) (fun _ _ _ h => h) (Or.inl ⟨by rfl, ?_⟩) ?_ ?_
             rotate_left
             ·intro w'
              go_simp
              with_reducible rfl
             rotate_left
             ·simp only [Act.put, qa_, qz_, qs_, i64_w, i32_w]
              rfl
             refine one_ (i := 9) (N := some 54) p23_18010 rfl rfl (one_of HT_.out (by kernel_rfl)) (by decide) (fun K hK => ?_)
             refine value_ (w1 := ?_) (v := ?_) (by rfl) rfl ?_ ?_
             rotate_left 2
             ·go_simp
              constructor
              ·rfl
              ·rfl
             refine hK.out _ _ ⟨(blk_cell (blk_alloc BK477.out _) 0).trans rfl, (blk_cell (blk_alloc BK477.out _) 1).trans rfl, (blk_cell (blk_alloc BK477.out _) 2).trans rfl, (blk_cell (blk_alloc BK477.out _) 3).trans rfl, (blk_cell (blk_alloc BK477.out _) 4).trans rfl, (World.cell?_alloc_lt _ _ _ (World.block_lt_of_cell? _ _ (hHeld.2.2.2.2.2.1))).trans (hHeld.2.2.2.2.2.1), (World.cell?_alloc_lt _ _ _ (World.block_lt_of_cell? _ _ (hHeld.2.2.2.2.2.2))).trans (hHeld.2.2.2.2.2.2)⟩ (fun hHeld => ?_)
             clear hK K
             refine norm_ (a' := ?_) ?_ ?_
             rotate_left
             ·show Act.put _ (some 54) _ = _
              simp only [Act.put, qa_, qz_, qs_, i64_w, i32_w]
              rfl
             refine last_ (i := 10) (N := some 55) p23_18011 rfl rfl (one_of HT_.out (by kernel_rfl)) (by decide) (fun K hK => ?_)
             refine Kd.R_append_step k77 (w0 := w) w.heap.size (by rfl) (.tmp 46) (.tmp 54) 29 77 (.agg #[(.int .i64 0), (.int .i64 0)]) 16 rfl Tryd.underlying29 info77 rfl (by decide) (by omega) u478000 x478000_1 (⟨rd t483 0, rd t483 1⟩ : S77) [.int .i64 (rd t483 0), .int .i64 (rd t483 1)] (fun _ => True) (fun _ => False) rfl rfl ?aP (fun _ hk => hk.elim) ?aF ?aO ?aB ?aS ?aL ?_
             (case aP => exact k77_mkM _ _ _ (⟨rd t483 0, rd t483 1⟩ : S77))
             (case aB => exact (by repeat (first | (with_reducible first | exact HB.out | apply below_alloc | apply pw_below_drewN | apply below_drew1 | refine below_set ?_ GE473.out | refine below_set ?_ GE477.out) | exact HB.out)))
             (case aF => exact (fun _ _ => trivial))
             (case aO => exact (by (with_reducible repeat (first | apply Kd.R_alloc | apply Kd.R_drewN | apply Kd.R_drew)); exact HO_478000.out))
             (case aS => exact (below_size (by repeat (first | (with_reducible first | exact HB.out | apply below_alloc | apply pw_below_drewN | apply below_drew1 | refine below_set ?_ GE473.out | refine below_set ?_ GE477.out) | exact HB.out))))
             (case aL => have := LMc22.out; omega)
             intro v490 w26 ho hb hg hat
             rw [← Ny489.out] at ho
             have n0_ := Aside0.mk (Kd.R_over' (by (with_reducible repeat (first | apply Kd.R_alloc | apply Kd.R_drewN | apply Kd.R_drew)); exact HO_4.out) (Kd.R_typed (by (with_reducible repeat (first | apply Kd.R_alloc | apply Kd.R_drewN | apply Kd.R_drew)); exact HO_478000.out)) (by decide) hg)
             have n1_ := Aside0.mk (Kd.R_over' (by (with_reducible repeat (first | apply Kd.R_alloc | apply Kd.R_drewN | apply Kd.R_drew)); exact HO_26.out) (Kd.R_typed (by (with_reducible repeat (first | apply Kd.R_alloc | apply Kd.R_drewN | apply Kd.R_drew)); exact HO_478000.out)) (by decide) hg)
             have n2_ := Aside0.mk (blk_grown (g := gb473) (o := .cells #[.slice none 0 0, .slice none 0 0, .slice none 0 0, .int .i64 x474003_1, .int .i64 x474004_1] 31 (0, 0)) (by (with_reducible repeat (first | refine blk_drewN ?_ _ | refine blk_drew ?_ | refine blk_alloc ?_ _)); exact BK473.out) hg (Kd.R_ne HO_478000.out BK473.out (by decide)))
             have n3_ := Aside0.mk (blk_grown (g := gb477) (o := .cells #[u478000, .slice none 0 0, .slice none 0 0, .int .i64 0, .int .i64 0] 31 (0, 0)) (by (with_reducible repeat (first | refine blk_drewN ?_ _ | refine blk_drew ?_ | refine blk_alloc ?_ _)); exact BK477.out) hg (Kd.R_ne HO_478000.out BK477.out (by decide)))
             have n4_ := Aside0.mk (Kd.R_over' (by (with_reducible repeat (first | apply Kd.R_alloc | apply Kd.R_drewN | apply Kd.R_drew)); exact HO486.out) (Kd.R_typed (by (with_reducible repeat (first | apply Kd.R_alloc | apply Kd.R_drewN | apply Kd.R_drew)); exact HO_478000.out)) (by decide) hg)
             have n5_ := Aside0.mk (hb)
             have n6_ := Aside0.mk (ho)
             clear HO_4
             clear HO_26
             clear BK473
             clear BK477
             clear HO486
             clear HB
             clear HO_478000
             have HO_4 := n0_
             have HO_26 := n1_
             have BK473 := n2_
             have BK477 := n3_
             have HO486 := n4_
             have HB := n5_
             have HO491 := n6_
             clear n0_ n1_ n2_ n3_ n4_ n5_ n6_
             clear ho hb hg hat
             obtain ⟨Ao27, co27, eo27⟩ := Kd.R_slice HO491.out
             (first | subst eo27 | (injection eo27 with f1_ f2_ f3_; have f4_ := f1_.symm; have f5_ := f3_.symm; clear f1_ f2_ f3_; subst f4_; subst f5_))
             refine hK.out _ _ ?_
             clear hK K
             refine norm_ (a' := ?_) ?_ ?_
             rotate_left
             ·show Act.put _ (some 55) _ = _
              simp only [Act.put, qa_, qz_, qs_, i64_w, i32_w]
              rfl
             refine pure_ (i := 11) (N := some 56) (v := ?_) (a' := ?_) p23_18012 rfl rfl (any_of HT_.out (by kernel_rfl)) (fun _ _ _ h => h) (Or.inl ⟨by rfl, ?_⟩) ?_ ?_
             rotate_left
             ·intro w'
              go_simp
              with_reducible rfl
             rotate_left
             ·simp only [Act.put, qa_, qz_, qs_, i64_w, i32_w]
              rfl
             refine last_ (i := 12) (N := none) p23_18013 rfl rfl (one_of HT_.out (by kernel_rfl)) (by decide) (fun K hK => ?_)
             have hs28 : w26.cell? ⟨gb477, 0, none⟩ = some (u478000) := (blk_cell BK477.out 0).trans rfl
             have hfs28 := blk_frozen BK477.out 0
             have hns28_0 := NB473_477.out
             have hms28_0 := NB477_473.out
             refine skip_ (w1 := ?_) (by rfl) rfl ?_ ?_
             rotate_left
             ·go_simp
              rfl
             refine hK.out _ _ ?_
             clear hK K
             refine done_ (done_of HT_.out (by kernel_rfl)) ?_
             try go_wp2
             go_roundg k1
             case measure => have := HK1.out; omega
             case rel => exact ⟨(wrap64 (x28_1 + 1)), (x474003_1), (x474004_1), (y489), (.slice Ao27 y489.length co27), (by first | rfl | (simp; done) | (simp [*]; done) | (simp [tz_, *]; done)), H', ⟨by have := HK1.out; omega⟩, ⟨by (with_reducible repeat (first | apply Kd.R_alloc | apply Kd.R_drewN | apply Kd.R_drew)); exact Kd.R_mono (Kd.R_far (p := ⟨gb477, 0, none⟩) (Kd.R_types HO_4.out BK477.out (by decide)) (fun _ hk => hk.2) (.slice Ao27 y489.length co27)) (fun _ hk => hk.1)⟩, ⟨by (with_reducible repeat (first | apply Kd.R_alloc | apply Kd.R_drewN | apply Kd.R_drew)); exact Kd.R_mono (Kd.R_far (p := ⟨gb477, 0, none⟩) (Kd.R_types HO_26.out BK477.out (by decide)) (fun _ hk => hk.2) (.slice Ao27 y489.length co27)) (fun _ hk => hk.1)⟩, ⟨by (with_reducible repeat (first | apply Kd.R_alloc | apply Kd.R_drewN | apply Kd.R_drew)); exact Kd.R_mono (Kd.R_far (p := ⟨gb477, 0, none⟩) (Kd.R_types HO491.out BK477.out (by decide)) (fun _ hk => hk.2) (.slice Ao27 y489.length co27)) (fun _ hk => trivial)⟩, ⟨by (with_reducible repeat (first | refine blk_drewN ?_ _ | refine blk_drew ?_ | refine blk_alloc ?_ _)); refine blk_far ?_ NB473_477.out _; (with_reducible repeat (first | refine blk_drewN ?_ _ | refine blk_drew ?_ | refine blk_alloc ?_ _)); exact BK473.out⟩, ⟨by (with_reducible repeat (first | refine blk_drewN ?_ _ | refine blk_drew ?_ | refine blk_alloc ?_ _)); refine blk_put (cs := #[u478000, .slice none 0 0, .slice none 0 0, .int .i64 0, .int .i64 0]) ?_ 0 _ rfl; (with_reducible repeat (first | refine blk_drewN ?_ _ | refine blk_drew ?_ | refine blk_alloc ?_ _)); exact BK477.out⟩, ⟨by repeat (first | (with_reducible first | exact HB.out | apply below_alloc | apply pw_below_drewN | apply below_drew1 | refine below_set ?_ GE473.out | refine below_set ?_ GE477.out) | exact HB.out)⟩⟩
            ·rw [if_neg c22] at H
             exact absurd H (by simp)
           ·rw [if_neg c21] at H
            exact absurd H (by simp)
          ·rw [if_neg c20] at H
           exact absurd H (by simp)
         ·rw [if_neg c19] at H
          have c19b0 : ((t483.length : Int) == 2) = false := beq_eq_false_iff_ne.mpr c19
          have c19b1 : ((t483.length : Int) != 2) = true := bne_iff_ne.mpr c19
          simp only [Option.some.injEq, Prod.mk.injEq] at H
          obtain ⟨rfl, rfl, rfl, rfl, rfl, rfl⟩ := H
          have p482 : 0 ≤ (x28_1 : Int) := of_decide_eq_true (by assumption)
          have q482 : x28_1 < (t479.length : Int) := of_decide_eq_true (by assumption)
          obtain ⟨ad482, e482, hx482_0⟩ := Kd.at_string (Kd.R_reads' HO_26.out).2.2 x28_1 p482 q482
          cases e482
          replace p482 := eq_true p482
          replace q482 := eq_true q482
          go_wp2_with (first | ((with_reducible refine gate_callee (f := 47) rfl ?_); refine goesL_ (some 34) rfl rfl Tryd.func47 (by kernel_rfl) rfl #[.string (rdOf ByteArray.empty t479 x28_1), .string (⟨#[47]⟩ : ByteArray), .int .i64 (-1000000000), .int .i64 1000000000] rfl (by (try simp only [List.map_toArray, List.map_cons, List.map_nil]); first | done | rfl) ?_; (with_reducible refine (impl_readAll.calls k1 (rdOf ByteArray.empty t479 x28_1) (⟨#[47]⟩ : ByteArray) (-1000000000) 1000000000 t483 true _ ?side1 A17.out).mono ?_); (case side1 => exact Tab2.on HLT_.out (by repeat (first | (with_reducible first | exact HB.out | apply below_alloc | apply pw_below_drewN | apply below_drew1 | refine below_set ?_ GE473.out | refine below_set ?_ GE477.out) | exact HB.out))); rintro e w29 ⟨v485, rfl, ho0, hb⟩; refine ⟨_, rfl, ?_⟩; have n0_ := Aside0.mk (Kd.R_below (by (with_reducible repeat (first | apply Kd.R_alloc | apply Kd.R_drewN | apply Kd.R_drew)); exact HO_4.out) hb); have n1_ := Aside0.mk (Kd.R_below (by (with_reducible repeat (first | apply Kd.R_alloc | apply Kd.R_drewN | apply Kd.R_drew)); exact HO_26.out) hb); have n2_ := Aside0.mk (Kd.R_below (by (with_reducible repeat (first | apply Kd.R_alloc | apply Kd.R_drewN | apply Kd.R_drew)); exact HO_478000.out) hb); have n3_ := Aside0.mk (Kd.R_lower ho0 (below_size (by repeat (first | (with_reducible first | exact HB.out | apply below_alloc | apply pw_below_drewN | apply below_drew1 | refine below_set ?_ GE473.out | refine below_set ?_ GE477.out) | exact HB.out)))); have n4_ := Aside0.mk (blk_below (g := gb473) (o := .cells #[.slice none 0 0, .slice none 0 0, .slice none 0 0, .int .i64 x474003_1, .int .i64 x474004_1] 31 (0, 0)) (by (with_reducible repeat (first | refine blk_drewN ?_ _ | refine blk_drew ?_ | refine blk_alloc ?_ _)); exact BK473.out) hb); have n5_ := Aside0.mk (blk_below (g := gb477) (o := .cells #[u478000, .slice none 0 0, .slice none 0 0, .int .i64 0, .int .i64 0] 31 (0, 0)) (by (with_reducible repeat (first | refine blk_drewN ?_ _ | refine blk_drew ?_ | refine blk_alloc ?_ _)); exact BK477.out) hb); have n6_ := Aside0.mk (below_step (by repeat (first | (with_reducible first | exact HB.out | apply below_alloc | apply pw_below_drewN | apply below_drew1 | refine below_set ?_ GE473.out | refine below_set ?_ GE477.out) | exact HB.out)) hb); clear HO_4; clear HO_26; clear HO_478000; clear BK473; clear BK477; clear HB; have HO_4 := n0_; have HO_26 := n1_; have HO_478000 := n2_; have HO486 := n3_; have BK473 := n4_; have BK477 := n5_; have HB := n6_; clear n0_ n1_ n2_ n3_ n4_ n5_ n6_; (try clear hb); (try clear hb2); (try clear hk); (try clear hi); (try clear ho0); obtain ⟨Ao30, co30, eo30⟩ := Kd.R_slice HO486.out; subst eo30; have hnb31 := NB473_477.out; have hnc31 := NB477_473.out; have hcz32_0 : w29.cell? ⟨gb473, 0, none⟩ = some (.slice none 0 0) := (blk_cell BK473.out 0).trans rfl; have hcz32_1 : w29.cell? ⟨gb473, 1, none⟩ = some (.slice none 0 0) := (blk_cell BK473.out 1).trans rfl; have hcz32_2 : w29.cell? ⟨gb473, 2, none⟩ = some (.slice none 0 0) := (blk_cell BK473.out 2).trans rfl; have hcz32_3 : w29.cell? ⟨gb473, 3, none⟩ = some (.int .i64 x474003_1) := (blk_cell BK473.out 3).trans rfl; have hcz32_4 : w29.cell? ⟨gb473, 4, none⟩ = some (.int .i64 x474004_1) := (blk_cell BK473.out 4).trans rfl; have hfz32_0 := blk_frozen BK473.out 0; have hfz32_1 := blk_frozen BK473.out 1; have hfz32_2 := blk_frozen BK473.out 2; have hfz32_3 := blk_frozen BK473.out 3; have hfz32_4 := blk_frozen BK473.out 4))
          refine bodyPost_ret (results_ct rfl _ _ gb473 31 #[.slice none 0 0, .slice none 0 0, .slice none 0 0, .int .i64 0, .int .i64 0] (0, 0) _ rfl (by (with_reducible repeat (first | refine blk_drewN ?_ _ | refine blk_drew ?_ | refine blk_alloc ?_ _)); refine blk_put (cs := #[.slice none 0 0, .slice none 0 0, .slice none 0 0, .int .i64 0, .int .i64 x474004_1]) ?_ 4 _ rfl; (with_reducible repeat (first | refine blk_drewN ?_ _ | refine blk_drew ?_ | refine blk_alloc ?_ _)); refine blk_put (cs := #[.slice none 0 0, .slice none 0 0, .slice none 0 0, .int .i64 x474003_1, .int .i64 x474004_1]) ?_ 3 _ rfl; (with_reducible repeat (first | refine blk_drewN ?_ _ | refine blk_drew ?_ | refine blk_alloc ?_ _)); refine blk_put (cs := #[.slice none 0 0, .slice none 0 0, .slice none 0 0, .int .i64 x474003_1, .int .i64 x474004_1]) ?_ 2 _ rfl; (with_reducible repeat (first | refine blk_drewN ?_ _ | refine blk_drew ?_ | refine blk_alloc ?_ _)); refine blk_put (cs := #[.slice none 0 0, .slice none 0 0, .slice none 0 0, .int .i64 x474003_1, .int .i64 x474004_1]) ?_ 1 _ rfl; (with_reducible repeat (first | refine blk_drewN ?_ _ | refine blk_drew ?_ | refine blk_alloc ?_ _)); refine blk_put (cs := #[.slice none 0 0, .slice none 0 0, .slice none 0 0, .int .i64 x474003_1, .int .i64 x474004_1]) ?_ 0 _ rfl; (with_reducible repeat (first | refine blk_drewN ?_ _ | refine blk_drew ?_ | refine blk_alloc ?_ _)); exact BK473.out) Tryd.underlying31 rfl (by kernel_rfl)) rfl ?_
          exact ⟨_, _, _, by first | rfl | (simp [errW_none, errW_some] <;> rfl) | (simp [*, errW_none, errW_some] <;> rfl) | (simp [tz_, *]; done), by first | exact Kd.R_nil _ _ _ _ _ | exact Kd.N_nil _ _ _ _ _ | exact Kd.V_nil _ _ _ _ _ | exact Kd.Q_nil _ _ _ _ _ | exact Kd.S_nil _ _ _ _ _, by first | exact Kd.R_nil _ _ _ _ _ | exact Kd.N_nil _ _ _ _ _ | exact Kd.V_nil _ _ _ _ _ | exact Kd.Q_nil _ _ _ _ _ | exact Kd.S_nil _ _ _ _ _, by first | exact Kd.R_nil _ _ _ _ _ | exact Kd.N_nil _ _ _ _ _ | exact Kd.V_nil _ _ _ _ _ | exact Kd.Q_nil _ _ _ _ _ | exact Kd.S_nil _ _ _ _ _, by repeat (first | (with_reducible first | exact HB.out | apply below_alloc | apply pw_below_drewN | apply below_drew1 | refine below_set ?_ GE473.out | refine below_set ?_ GE477.out) | exact HB.out)⟩
        ·replace c18 := Bool.eq_false_iff.mpr c18
         subst c18
         have H1 : (some (([] : List (S77)), ([] : List Int), ([] : List Int), 0, 0, false)) = some (r1, r2, r3, r4, r5, r6) := by rw [if_neg (show ¬ (false = true) by decide)] at H; exact H
         clear H
         have H := H1
         clear H1
         simp only [Option.some.injEq, Prod.mk.injEq] at H
         obtain ⟨rfl, rfl, rfl, rfl, rfl, rfl⟩ := H
         have p482 : 0 ≤ (x28_1 : Int) := of_decide_eq_true (by assumption)
         have q482 : x28_1 < (t479.length : Int) := of_decide_eq_true (by assumption)
         obtain ⟨ad482, e482, hx482_0⟩ := Kd.at_string (Kd.R_reads' HO_26.out).2.2 x28_1 p482 q482
         cases e482
         replace p482 := eq_true p482
         replace q482 := eq_true q482
         go_wp2_with (first | ((with_reducible refine gate_callee (f := 47) rfl ?_); refine goesL_ (some 34) rfl rfl Tryd.func47 (by kernel_rfl) rfl #[.string (rdOf ByteArray.empty t479 x28_1), .string (⟨#[47]⟩ : ByteArray), .int .i64 (-1000000000), .int .i64 1000000000] rfl (by (try simp only [List.map_toArray, List.map_cons, List.map_nil]); first | done | rfl) ?_; (with_reducible refine (impl_readAll.calls k1 (rdOf ByteArray.empty t479 x28_1) (⟨#[47]⟩ : ByteArray) (-1000000000) 1000000000 t483 false _ ?side1 A17.out).mono ?_); (case side1 => exact Tab2.on HLT_.out (by repeat (first | (with_reducible first | exact HB.out | apply below_alloc | apply pw_below_drewN | apply below_drew1 | refine below_set ?_ GE473.out | refine below_set ?_ GE477.out) | exact HB.out))); rintro e w33 ⟨v485, rfl, ho0, hb⟩; refine ⟨_, rfl, ?_⟩; have n0_ := Aside0.mk (Kd.R_below (by (with_reducible repeat (first | apply Kd.R_alloc | apply Kd.R_drewN | apply Kd.R_drew)); exact HO_4.out) hb); have n1_ := Aside0.mk (Kd.R_below (by (with_reducible repeat (first | apply Kd.R_alloc | apply Kd.R_drewN | apply Kd.R_drew)); exact HO_26.out) hb); have n2_ := Aside0.mk (Kd.R_below (by (with_reducible repeat (first | apply Kd.R_alloc | apply Kd.R_drewN | apply Kd.R_drew)); exact HO_478000.out) hb); have n3_ := Aside0.mk (Kd.R_lower ho0 (below_size (by repeat (first | (with_reducible first | exact HB.out | apply below_alloc | apply pw_below_drewN | apply below_drew1 | refine below_set ?_ GE473.out | refine below_set ?_ GE477.out) | exact HB.out)))); have n4_ := Aside0.mk (blk_below (g := gb473) (o := .cells #[.slice none 0 0, .slice none 0 0, .slice none 0 0, .int .i64 x474003_1, .int .i64 x474004_1] 31 (0, 0)) (by (with_reducible repeat (first | refine blk_drewN ?_ _ | refine blk_drew ?_ | refine blk_alloc ?_ _)); exact BK473.out) hb); have n5_ := Aside0.mk (blk_below (g := gb477) (o := .cells #[u478000, .slice none 0 0, .slice none 0 0, .int .i64 0, .int .i64 0] 31 (0, 0)) (by (with_reducible repeat (first | refine blk_drewN ?_ _ | refine blk_drew ?_ | refine blk_alloc ?_ _)); exact BK477.out) hb); have n6_ := Aside0.mk (below_step (by repeat (first | (with_reducible first | exact HB.out | apply below_alloc | apply pw_below_drewN | apply below_drew1 | refine below_set ?_ GE473.out | refine below_set ?_ GE477.out) | exact HB.out)) hb); clear HO_4; clear HO_26; clear HO_478000; clear BK473; clear BK477; clear HB; have HO_4 := n0_; have HO_26 := n1_; have HO_478000 := n2_; have HO486 := n3_; have BK473 := n4_; have BK477 := n5_; have HB := n6_; clear n0_ n1_ n2_ n3_ n4_ n5_ n6_; (try clear hb); (try clear hb2); (try clear hk); (try clear hi); (try clear ho0); have hnb34 := NB473_477.out; have hnc34 := NB477_473.out; have hcz35_0 : w33.cell? ⟨gb473, 0, none⟩ = some (.slice none 0 0) := (blk_cell BK473.out 0).trans rfl; have hcz35_1 : w33.cell? ⟨gb473, 1, none⟩ = some (.slice none 0 0) := (blk_cell BK473.out 1).trans rfl; have hcz35_2 : w33.cell? ⟨gb473, 2, none⟩ = some (.slice none 0 0) := (blk_cell BK473.out 2).trans rfl; have hcz35_3 : w33.cell? ⟨gb473, 3, none⟩ = some (.int .i64 x474003_1) := (blk_cell BK473.out 3).trans rfl; have hcz35_4 : w33.cell? ⟨gb473, 4, none⟩ = some (.int .i64 x474004_1) := (blk_cell BK473.out 4).trans rfl; have hfz35_0 := blk_frozen BK473.out 0; have hfz35_1 := blk_frozen BK473.out 1; have hfz35_2 := blk_frozen BK473.out 2; have hfz35_3 := blk_frozen BK473.out 3; have hfz35_4 := blk_frozen BK473.out 4))
         refine bodyPost_ret (results_ct rfl _ _ gb473 31 #[.slice none 0 0, .slice none 0 0, .slice none 0 0, .int .i64 0, .int .i64 0] (0, 0) _ rfl (by (with_reducible repeat (first | refine blk_drewN ?_ _ | refine blk_drew ?_ | refine blk_alloc ?_ _)); refine blk_put (cs := #[.slice none 0 0, .slice none 0 0, .slice none 0 0, .int .i64 0, .int .i64 x474004_1]) ?_ 4 _ rfl; (with_reducible repeat (first | refine blk_drewN ?_ _ | refine blk_drew ?_ | refine blk_alloc ?_ _)); refine blk_put (cs := #[.slice none 0 0, .slice none 0 0, .slice none 0 0, .int .i64 x474003_1, .int .i64 x474004_1]) ?_ 3 _ rfl; (with_reducible repeat (first | refine blk_drewN ?_ _ | refine blk_drew ?_ | refine blk_alloc ?_ _)); refine blk_put (cs := #[.slice none 0 0, .slice none 0 0, .slice none 0 0, .int .i64 x474003_1, .int .i64 x474004_1]) ?_ 2 _ rfl; (with_reducible repeat (first | refine blk_drewN ?_ _ | refine blk_drew ?_ | refine blk_alloc ?_ _)); refine blk_put (cs := #[.slice none 0 0, .slice none 0 0, .slice none 0 0, .int .i64 x474003_1, .int .i64 x474004_1]) ?_ 1 _ rfl; (with_reducible repeat (first | refine blk_drewN ?_ _ | refine blk_drew ?_ | refine blk_alloc ?_ _)); refine blk_put (cs := #[.slice none 0 0, .slice none 0 0, .slice none 0 0, .int .i64 x474003_1, .int .i64 x474004_1]) ?_ 0 _ rfl; (with_reducible repeat (first | refine blk_drewN ?_ _ | refine blk_drew ?_ | refine blk_alloc ?_ _)); exact BK473.out) Tryd.underlying31 rfl (by kernel_rfl)) rfl ?_
         exact ⟨_, _, _, by first | rfl | (simp [errW_none, errW_some] <;> rfl) | (simp [*, errW_none, errW_some] <;> rfl) | (simp [tz_, *]; done), by first | exact Kd.R_nil _ _ _ _ _ | exact Kd.N_nil _ _ _ _ _ | exact Kd.V_nil _ _ _ _ _ | exact Kd.Q_nil _ _ _ _ _ | exact Kd.S_nil _ _ _ _ _, by first | exact Kd.R_nil _ _ _ _ _ | exact Kd.N_nil _ _ _ _ _ | exact Kd.V_nil _ _ _ _ _ | exact Kd.Q_nil _ _ _ _ _ | exact Kd.S_nil _ _ _ _ _, by first | exact Kd.R_nil _ _ _ _ _ | exact Kd.N_nil _ _ _ _ _ | exact Kd.V_nil _ _ _ _ _ | exact Kd.Q_nil _ _ _ _ _ | exact Kd.S_nil _ _ _ _ _, by repeat (first | (with_reducible first | exact HB.out | apply below_alloc | apply pw_below_drewN | apply below_drew1 | refine below_set ?_ GE473.out | refine below_set ?_ GE477.out) | exact HB.out)⟩
       ·rw [if_neg c16] at H
        exact absurd H (by simp)
      ·rw [if_neg c15] at H
       exact absurd H (by simp)
     ·rw [if_neg c14] at H
      have c14b0 : decide (x28_1 < (t479.length : Int)) = false := decide_eq_false c14
      clear c14
      by_cases c36 : 1 < (t474.length : Int)
      ·rw [if_pos c36] at H
       have c36b0 : decide (1 < (t474.length : Int)) = true := decide_eq_true c36
       have c36b1 : decide (1 < t474.length) = true := decide_eq_true (by omega)
       clear c36
       replace H := Option.bind_eq_some_iff.mp H
       obtain ⟨⟨t493, t494⟩, A370, H⟩ := H
       replace H : (if 2 < (t474.length : Int) then ((impl_readSome.f k1 (rdOf ByteArray.empty t474 2)).bind fun bt498 => (if 3 < (t474.length : Int) then ((impl_readSome.f k1 (rdOf ByteArray.empty t474 3)).bind fun bt503 => (if t494 = true then (if bt498.2 = true then (if bt503.2 = true then (impl_ReadHead.j1 k1 t493 bt498.1 bt503.1 ((bt503.1.length : Int) != 2) x478000_1 0 0) else (impl_ReadHead.j1 k1 t493 bt498.1 bt503.1 true x478000_1 0 0)) else (impl_ReadHead.j1 k1 t493 bt498.1 bt503.1 true x478000_1 0 0)) else (impl_ReadHead.j1 k1 t493 bt498.1 bt503.1 true x478000_1 0 0))) else (none))) else (none)) = some (r1, r2, r3, r4, r5, r6) := H
       have A37 := Aside0.mk A370
       clear A370
       by_cases c38 : 2 < (t474.length : Int)
       ·rw [if_pos c38] at H
        have c38b0 : decide (2 < (t474.length : Int)) = true := decide_eq_true c38
        have c38b1 : decide (2 < t474.length) = true := decide_eq_true (by omega)
        clear c38
        replace H := Option.bind_eq_some_iff.mp H
        obtain ⟨⟨t498, t499⟩, A390, H⟩ := H
        replace H : (if 3 < (t474.length : Int) then ((impl_readSome.f k1 (rdOf ByteArray.empty t474 3)).bind fun bt503 => (if t494 = true then (if t499 = true then (if bt503.2 = true then (impl_ReadHead.j1 k1 t493 t498 bt503.1 ((bt503.1.length : Int) != 2) x478000_1 0 0) else (impl_ReadHead.j1 k1 t493 t498 bt503.1 true x478000_1 0 0)) else (impl_ReadHead.j1 k1 t493 t498 bt503.1 true x478000_1 0 0)) else (impl_ReadHead.j1 k1 t493 t498 bt503.1 true x478000_1 0 0))) else (none)) = some (r1, r2, r3, r4, r5, r6) := H
        have A39 := Aside0.mk A390
        clear A390
        by_cases c40 : 3 < (t474.length : Int)
        ·rw [if_pos c40] at H
         have c40b0 : decide (3 < (t474.length : Int)) = true := decide_eq_true c40
         have c40b1 : decide (3 < t474.length) = true := decide_eq_true (by omega)
         clear c40
         replace H := Option.bind_eq_some_iff.mp H
         obtain ⟨⟨t503, t504⟩, A410, H⟩ := H
         replace H : (if t494 = true then (if t499 = true then (if t504 = true then (impl_ReadHead.j1 k1 t493 t498 t503 ((t503.length : Int) != 2) x478000_1 0 0) else (impl_ReadHead.j1 k1 t493 t498 t503 true x478000_1 0 0)) else (impl_ReadHead.j1 k1 t493 t498 t503 true x478000_1 0 0)) else (impl_ReadHead.j1 k1 t493 t498 t503 true x478000_1 0 0)) = some (r1, r2, r3, r4, r5, r6) := H
         have A41 := Aside0.mk A410
         clear A410
         have HC42 := Aside0.mk H
         clear H
         have p492 : 0 ≤ (1 : Int) := (by omega)
         have q492 : 1 < (t474.length : Int) := of_decide_eq_true (by assumption)
         obtain ⟨ad492, e492, hx492_0⟩ := Kd.at_string (Kd.R_reads' HO_4.out).2.2 1 p492 q492
         obtain rfl : ad478 = ad492 := (by injection e492)
         (try simp only [show (1 : Int).toNat = 1 from rfl, Nat.reduceMul, Nat.reduceEqDiff, Go.Addr.add, ↓reduceIte] at hx492_0)
         have qi492 : (1 < t474.length) = True := eq_true (by omega)
         (try rw [show ((1 : Int)).toNat = 1 from rfl] at hx492_0)
         replace p492 := eq_true p492
         replace q492 := eq_true q492
         go_upto_region 16 with (first | ((with_reducible refine gate_callee (f := 48) rfl ?_); refine goesL_ (some 62) rfl rfl Tryd.func48 (by kernel_rfl) rfl #[.string (rdOf ByteArray.empty t474 1)] rfl (by (try simp only [List.map_toArray, List.map_cons, List.map_nil]); first | done | rfl) ?_; (with_reducible refine (impl_readSome.calls k1 (rdOf ByteArray.empty t474 1) t493 t494 _ ?side1 A37.out).mono ?_); (case side1 => exact Tab2.on HLT_.out (by repeat (first | (with_reducible first | exact HB.out | apply below_alloc | apply pw_below_drewN | apply below_drew1 | refine below_set ?_ GE473.out | refine below_set ?_ GE477.out) | exact HB.out))); rintro e w43 ⟨v495, rfl, ho0, hb⟩; refine ⟨_, rfl, ?_⟩; have n0_ := Aside0.mk (Kd.R_below (by (with_reducible repeat (first | apply Kd.R_alloc | apply Kd.R_drewN | apply Kd.R_drew)); exact HO_4.out) hb); have n1_ := Aside0.mk (Kd.R_below (by (with_reducible repeat (first | apply Kd.R_alloc | apply Kd.R_drewN | apply Kd.R_drew)); exact HO_26.out) hb); have n2_ := Aside0.mk (Kd.R_below (by (with_reducible repeat (first | apply Kd.R_alloc | apply Kd.R_drewN | apply Kd.R_drew)); exact HO_478000.out) hb); have n3_ := Aside0.mk (Kd.R_lower ho0 (below_size (by repeat (first | (with_reducible first | exact HB.out | apply below_alloc | apply pw_below_drewN | apply below_drew1 | refine below_set ?_ GE473.out | refine below_set ?_ GE477.out) | exact HB.out)))); have n4_ := Aside0.mk (blk_below (g := gb473) (o := .cells #[.slice none 0 0, .slice none 0 0, .slice none 0 0, .int .i64 x474003_1, .int .i64 x474004_1] 31 (0, 0)) (by (with_reducible repeat (first | refine blk_drewN ?_ _ | refine blk_drew ?_ | refine blk_alloc ?_ _)); exact BK473.out) hb); have n5_ := Aside0.mk (blk_below (g := gb477) (o := .cells #[u478000, .slice none 0 0, .slice none 0 0, .int .i64 0, .int .i64 0] 31 (0, 0)) (by (with_reducible repeat (first | refine blk_drewN ?_ _ | refine blk_drew ?_ | refine blk_alloc ?_ _)); exact BK477.out) hb); have n6_ := Aside0.mk (below_step (by repeat (first | (with_reducible first | exact HB.out | apply below_alloc | apply pw_below_drewN | apply below_drew1 | refine below_set ?_ GE473.out | refine below_set ?_ GE477.out) | exact HB.out)) hb); clear HO_4; clear HO_26; clear HO_478000; clear BK473; clear BK477; clear HB; have HO_4 := n0_; have HO_26 := n1_; have HO_478000 := n2_; have HO496 := n3_; have BK473 := n4_; have BK477 := n5_; have HB := n6_; clear n0_ n1_ n2_ n3_ n4_ n5_ n6_; (try clear hb); (try clear hb2); (try clear hk); (try clear hi); (try clear ho0); have p497 : 0 ≤ (2 : Int) := (by omega); have q497 : 2 < (t474.length : Int) := of_decide_eq_true (by assumption); obtain ⟨ad497, e497, hx497_0⟩ := Kd.at_string (Kd.R_reads' HO_4.out).2.2 2 p497 q497; obtain rfl : ad478 = ad497 := (by injection e497); (try simp only [show (2 : Int).toNat = 2 from rfl, Nat.reduceMul, Nat.reduceEqDiff, Go.Addr.add, ↓reduceIte] at hx497_0); have qi497 : (2 < t474.length) = True := eq_true (by omega); (try rw [show ((2 : Int)).toNat = 2 from rfl] at hx497_0); replace p497 := eq_true p497; replace q497 := eq_true q497) | ((with_reducible refine gate_callee (f := 48) rfl ?_); refine goesL_ (some 69) rfl rfl Tryd.func48 (by kernel_rfl) rfl #[.string (rdOf ByteArray.empty t474 2)] rfl (by (try simp only [List.map_toArray, List.map_cons, List.map_nil]); first | done | rfl) ?_; (with_reducible refine (impl_readSome.calls k1 (rdOf ByteArray.empty t474 2) t498 t499 _ ?side1 A39.out).mono ?_); (case side1 => exact Tab2.on HLT_.out (by repeat (first | (with_reducible first | exact HB.out | apply below_alloc | apply pw_below_drewN | apply below_drew1 | refine below_set ?_ GE473.out | refine below_set ?_ GE477.out) | exact HB.out))); rintro e w44 ⟨v500, rfl, ho0, hb⟩; refine ⟨_, rfl, ?_⟩; have n0_ := Aside0.mk (Kd.R_below (by (with_reducible repeat (first | apply Kd.R_alloc | apply Kd.R_drewN | apply Kd.R_drew)); exact HO_4.out) hb); have n1_ := Aside0.mk (Kd.R_below (by (with_reducible repeat (first | apply Kd.R_alloc | apply Kd.R_drewN | apply Kd.R_drew)); exact HO_26.out) hb); have n2_ := Aside0.mk (Kd.R_below (by (with_reducible repeat (first | apply Kd.R_alloc | apply Kd.R_drewN | apply Kd.R_drew)); exact HO_478000.out) hb); have n3_ := Aside0.mk (Kd.R_elder' (by (with_reducible repeat (first | apply Kd.R_alloc | apply Kd.R_drewN | apply Kd.R_drew)); exact HO496.out) (Kd.R_base ho0) hb); have n4_ := Aside0.mk (Kd.R_lower (Kd.R_new' ho0 (Kd.R_lt (by (with_reducible repeat (first | apply Kd.R_alloc | apply Kd.R_drewN | apply Kd.R_drew)); exact HO496.out))) (below_size (by repeat (first | (with_reducible first | exact HB.out | apply below_alloc | apply pw_below_drewN | apply below_drew1 | refine below_set ?_ GE473.out | refine below_set ?_ GE477.out) | exact HB.out)))); have n5_ := Aside0.mk (blk_below (g := gb473) (o := .cells #[.slice none 0 0, .slice none 0 0, .slice none 0 0, .int .i64 x474003_1, .int .i64 x474004_1] 31 (0, 0)) (by (with_reducible repeat (first | refine blk_drewN ?_ _ | refine blk_drew ?_ | refine blk_alloc ?_ _)); exact BK473.out) hb); have n6_ := Aside0.mk (blk_below (g := gb477) (o := .cells #[u478000, .slice none 0 0, .slice none 0 0, .int .i64 0, .int .i64 0] 31 (0, 0)) (by (with_reducible repeat (first | refine blk_drewN ?_ _ | refine blk_drew ?_ | refine blk_alloc ?_ _)); exact BK477.out) hb); have n7_ := Aside0.mk (below_step (by repeat (first | (with_reducible first | exact HB.out | apply below_alloc | apply pw_below_drewN | apply below_drew1 | refine below_set ?_ GE473.out | refine below_set ?_ GE477.out) | exact HB.out)) hb); clear HO_4; clear HO_26; clear HO_478000; clear HO496; clear BK473; clear BK477; clear HB; have HO_4 := n0_; have HO_26 := n1_; have HO_478000 := n2_; have HO496 := n3_; have HO501 := n4_; have BK473 := n5_; have BK477 := n6_; have HB := n7_; clear n0_ n1_ n2_ n3_ n4_ n5_ n6_ n7_; (try clear hb); (try clear hb2); (try clear hk); (try clear hi); (try clear ho0); have p502 : 0 ≤ (3 : Int) := (by omega); have q502 : 3 < (t474.length : Int) := of_decide_eq_true (by assumption); obtain ⟨ad502, e502, hx502_0⟩ := Kd.at_string (Kd.R_reads' HO_4.out).2.2 3 p502 q502; obtain rfl : ad478 = ad502 := (by injection e502); (try simp only [show (3 : Int).toNat = 3 from rfl, Nat.reduceMul, Nat.reduceEqDiff, Go.Addr.add, ↓reduceIte] at hx502_0); have qi502 : (3 < t474.length) = True := eq_true (by omega); (try rw [show ((3 : Int)).toNat = 3 from rfl] at hx502_0); replace p502 := eq_true p502; replace q502 := eq_true q502) | ((with_reducible refine gate_callee (f := 48) rfl ?_); refine goesL_ (some 76) rfl rfl Tryd.func48 (by kernel_rfl) rfl #[.string (rdOf ByteArray.empty t474 3)] rfl (by (try simp only [List.map_toArray, List.map_cons, List.map_nil]); first | done | rfl) ?_; (with_reducible refine (impl_readSome.calls k1 (rdOf ByteArray.empty t474 3) t503 t504 _ ?side1 A41.out).mono ?_); (case side1 => exact Tab2.on HLT_.out (by repeat (first | (with_reducible first | exact HB.out | apply below_alloc | apply pw_below_drewN | apply below_drew1 | refine below_set ?_ GE473.out | refine below_set ?_ GE477.out) | exact HB.out))); rintro e w45 ⟨v505, rfl, ho0, hb⟩; refine ⟨_, rfl, ?_⟩; have n0_ := Aside0.mk (Kd.R_below (by (with_reducible repeat (first | apply Kd.R_alloc | apply Kd.R_drewN | apply Kd.R_drew)); exact HO_4.out) hb); have n1_ := Aside0.mk (Kd.R_below (by (with_reducible repeat (first | apply Kd.R_alloc | apply Kd.R_drewN | apply Kd.R_drew)); exact HO_26.out) hb); have n2_ := Aside0.mk (Kd.R_below (by (with_reducible repeat (first | apply Kd.R_alloc | apply Kd.R_drewN | apply Kd.R_drew)); exact HO_478000.out) hb); have n3_ := Aside0.mk (Kd.R_elder' (by (with_reducible repeat (first | apply Kd.R_alloc | apply Kd.R_drewN | apply Kd.R_drew)); exact HO496.out) (Kd.R_base ho0) hb); have n4_ := Aside0.mk (Kd.R_elder' (by (with_reducible repeat (first | apply Kd.R_alloc | apply Kd.R_drewN | apply Kd.R_drew)); exact HO501.out) (Kd.R_base ho0) hb); have n5_ := Aside0.mk (Kd.R_lower (Kd.R_new' (Kd.R_new' ho0 (Kd.R_lt (by (with_reducible repeat (first | apply Kd.R_alloc | apply Kd.R_drewN | apply Kd.R_drew)); exact HO496.out))) (Kd.R_lt (by (with_reducible repeat (first | apply Kd.R_alloc | apply Kd.R_drewN | apply Kd.R_drew)); exact HO501.out))) (below_size (by repeat (first | (with_reducible first | exact HB.out | apply below_alloc | apply pw_below_drewN | apply below_drew1 | refine below_set ?_ GE473.out | refine below_set ?_ GE477.out) | exact HB.out)))); have n6_ := Aside0.mk (blk_below (g := gb473) (o := .cells #[.slice none 0 0, .slice none 0 0, .slice none 0 0, .int .i64 x474003_1, .int .i64 x474004_1] 31 (0, 0)) (by (with_reducible repeat (first | refine blk_drewN ?_ _ | refine blk_drew ?_ | refine blk_alloc ?_ _)); exact BK473.out) hb); have n7_ := Aside0.mk (blk_below (g := gb477) (o := .cells #[u478000, .slice none 0 0, .slice none 0 0, .int .i64 0, .int .i64 0] 31 (0, 0)) (by (with_reducible repeat (first | refine blk_drewN ?_ _ | refine blk_drew ?_ | refine blk_alloc ?_ _)); exact BK477.out) hb); have n8_ := Aside0.mk (below_step (by repeat (first | (with_reducible first | exact HB.out | apply below_alloc | apply pw_below_drewN | apply below_drew1 | refine below_set ?_ GE473.out | refine below_set ?_ GE477.out) | exact HB.out)) hb); clear HO_4; clear HO_26; clear HO_478000; clear HO496; clear HO501; clear BK473; clear BK477; clear HB; have HO_4 := n0_; have HO_26 := n1_; have HO_478000 := n2_; have HO496 := n3_; have HO501 := n4_; have HO506 := n5_; have BK473 := n6_; have BK477 := n7_; have HB := n8_; clear n0_ n1_ n2_ n3_ n4_ n5_ n6_ n7_ n8_; (try clear hb); (try clear hb2); (try clear hk); (try clear hi); (try clear ho0)))
         (try simp only [Act.put, qa_, qz_, qs_])
         go_cut [93] (fun v93 wc => ∃ (kq : Nat) (x93_41 : Bool), v93 = .bool x93_41 ∧ Aside0 (impl_ReadHead.j1 kq t493 t498 t503 x93_41 x478000_1 0 0 = some (r1, r2, r3, r4, r5, r6)) ∧ Aside0 (kq ≤ k1) ∧ Aside0 (Kd.R (Kd.int .i64) 2 wc w.heap.size (fun k_ => some k_ ≠ (v500 : Value).ownBlock ∧ some k_ ≠ (v505 : Value).ownBlock) v495 t493) ∧ Aside0 (Kd.R (Kd.int .i64) 2 wc w.heap.size (fun k_ => some k_ ≠ (v495 : Value).ownBlock ∧ some k_ ≠ (v505 : Value).ownBlock) v500 t498) ∧ Aside0 (Kd.R (Kd.int .i64) 2 wc w.heap.size (fun k_ => some k_ ≠ (v495 : Value).ownBlock ∧ some k_ ≠ (v500 : Value).ownBlock) v505 t503) ∧ Aside0 (Kd.R k77 77 wc w.heap.size (fun _ => True) u478000 x478000_1) ∧ Aside0 (wc.heap[gb473]? = some (.cells #[(.slice none 0 0), (.slice none 0 0), (.slice none 0 0), .int .i64 x474003_1, .int .i64 x474004_1] 31 (0, 0))) ∧ Aside0 (wc.heap[gb477]? = some (.cells #[u478000, (.slice none 0 0), (.slice none 0 0), .int .i64 0, .int .i64 0] 31 (0, 0))) ∧ Aside0 (Below w.heap.size w wc))
         case first =>
          have H := HC42.out
          clear HC42
          by_cases c46 : t494 = true
          ·subst c46
           have H1 : (if t499 = true then (if t504 = true then (impl_ReadHead.j1 k1 t493 t498 t503 ((t503.length : Int) != 2) x478000_1 0 0) else (impl_ReadHead.j1 k1 t493 t498 t503 true x478000_1 0 0)) else (impl_ReadHead.j1 k1 t493 t498 t503 true x478000_1 0 0)) = some (r1, r2, r3, r4, r5, r6) := by rw [if_pos rfl] at H; exact H
           clear H
           have H := H1
           clear H1
           by_cases c47 : t499 = true
           ·subst c47
            have H1 : (if t504 = true then (impl_ReadHead.j1 k1 t493 t498 t503 ((t503.length : Int) != 2) x478000_1 0 0) else (impl_ReadHead.j1 k1 t493 t498 t503 true x478000_1 0 0)) = some (r1, r2, r3, r4, r5, r6) := by rw [if_pos rfl] at H; exact H
            clear H
            have H := H1
            clear H1
            by_cases c48 : t504 = true
            ·subst c48
             have H1 : (impl_ReadHead.j1 k1 t493 t498 t503 ((t503.length : Int) != 2) x478000_1 0 0) = some (r1, r2, r3, r4, r5, r6) := by rw [if_pos rfl] at H; exact H
             clear H
             have H := H1
             clear H1
             have H' := Aside0.mk H
             clear H
             obtain ⟨Ao49, co49, eo49⟩ := Kd.R_slice HO506.out
             subst eo49
             go_wp2
             go_meet
             case rel => exact ⟨_, (((t503.length : Int) != 2)), (by first | rfl | (simp; done) | (simp [*]; done) | (simp [tz_, *]; done)), H', ⟨by have := HK1.out; first | omega | exact Nat.le_refl _⟩, ⟨by (with_reducible repeat (first | apply Kd.R_alloc | apply Kd.R_drewN | apply Kd.R_drew)); exact Kd.R_mono HO496.out (fun _ hk => ⟨hk.1.2, hk.2⟩)⟩, ⟨by (with_reducible repeat (first | apply Kd.R_alloc | apply Kd.R_drewN | apply Kd.R_drew)); exact Kd.R_mono HO501.out (fun _ hk => ⟨hk.1.2, hk.2⟩)⟩, ⟨by (with_reducible repeat (first | apply Kd.R_alloc | apply Kd.R_drewN | apply Kd.R_drew)); exact Kd.R_mono HO506.out (fun _ hk => ⟨hk.1.2, hk.2⟩)⟩, ⟨by (with_reducible repeat (first | apply Kd.R_alloc | apply Kd.R_drewN | apply Kd.R_drew)); exact HO_478000.out⟩, ⟨by (with_reducible repeat (first | refine blk_drewN ?_ _ | refine blk_drew ?_ | refine blk_alloc ?_ _)); exact BK473.out⟩, ⟨by (with_reducible repeat (first | refine blk_drewN ?_ _ | refine blk_drew ?_ | refine blk_alloc ?_ _)); exact BK477.out⟩, ⟨by repeat (first | (with_reducible first | exact HB.out | apply below_alloc | apply pw_below_drewN | apply below_drew1 | refine below_set ?_ GE473.out | refine below_set ?_ GE477.out) | exact HB.out)⟩⟩
            ·replace c48 := Bool.eq_false_iff.mpr c48
             subst c48
             have H1 : (impl_ReadHead.j1 k1 t493 t498 t503 true x478000_1 0 0) = some (r1, r2, r3, r4, r5, r6) := by rw [if_neg (show ¬ (false = true) by decide)] at H; exact H
             clear H
             have H := H1
             clear H1
             have H' := Aside0.mk H
             clear H
             go_wp2
             go_meet
             case rel => exact ⟨_, (true), (by first | rfl | (simp; done) | (simp [*]; done) | (simp [tz_, *]; done)), H', ⟨by have := HK1.out; first | omega | exact Nat.le_refl _⟩, ⟨by (with_reducible repeat (first | apply Kd.R_alloc | apply Kd.R_drewN | apply Kd.R_drew)); exact Kd.R_mono HO496.out (fun _ hk => ⟨hk.1.2, hk.2⟩)⟩, ⟨by (with_reducible repeat (first | apply Kd.R_alloc | apply Kd.R_drewN | apply Kd.R_drew)); exact Kd.R_mono HO501.out (fun _ hk => ⟨hk.1.2, hk.2⟩)⟩, ⟨by (with_reducible repeat (first | apply Kd.R_alloc | apply Kd.R_drewN | apply Kd.R_drew)); exact Kd.R_mono HO506.out (fun _ hk => ⟨hk.1.2, hk.2⟩)⟩, ⟨by (with_reducible repeat (first | apply Kd.R_alloc | apply Kd.R_drewN | apply Kd.R_drew)); exact HO_478000.out⟩, ⟨by (with_reducible repeat (first | refine blk_drewN ?_ _ | refine blk_drew ?_ | refine blk_alloc ?_ _)); exact BK473.out⟩, ⟨by (with_reducible repeat (first | refine blk_drewN ?_ _ | refine blk_drew ?_ | refine blk_alloc ?_ _)); exact BK477.out⟩, ⟨by repeat (first | (with_reducible first | exact HB.out | apply below_alloc | apply pw_below_drewN | apply below_drew1 | refine below_set ?_ GE473.out | refine below_set ?_ GE477.out) | exact HB.out)⟩⟩
           ·replace c47 := Bool.eq_false_iff.mpr c47
            subst c47
            have H1 : (impl_ReadHead.j1 k1 t493 t498 t503 true x478000_1 0 0) = some (r1, r2, r3, r4, r5, r6) := by rw [if_neg (show ¬ (false = true) by decide)] at H; exact H
            clear H
            have H := H1
            clear H1
            have H' := Aside0.mk H
            clear H
            go_wp2
            go_meet
            case rel => exact ⟨_, (true), (by first | rfl | (simp; done) | (simp [*]; done) | (simp [tz_, *]; done)), H', ⟨by have := HK1.out; first | omega | exact Nat.le_refl _⟩, ⟨by (with_reducible repeat (first | apply Kd.R_alloc | apply Kd.R_drewN | apply Kd.R_drew)); exact Kd.R_mono HO496.out (fun _ hk => ⟨hk.1.2, hk.2⟩)⟩, ⟨by (with_reducible repeat (first | apply Kd.R_alloc | apply Kd.R_drewN | apply Kd.R_drew)); exact Kd.R_mono HO501.out (fun _ hk => ⟨hk.1.2, hk.2⟩)⟩, ⟨by (with_reducible repeat (first | apply Kd.R_alloc | apply Kd.R_drewN | apply Kd.R_drew)); exact Kd.R_mono HO506.out (fun _ hk => ⟨hk.1.2, hk.2⟩)⟩, ⟨by (with_reducible repeat (first | apply Kd.R_alloc | apply Kd.R_drewN | apply Kd.R_drew)); exact HO_478000.out⟩, ⟨by (with_reducible repeat (first | refine blk_drewN ?_ _ | refine blk_drew ?_ | refine blk_alloc ?_ _)); exact BK473.out⟩, ⟨by (with_reducible repeat (first | refine blk_drewN ?_ _ | refine blk_drew ?_ | refine blk_alloc ?_ _)); exact BK477.out⟩, ⟨by repeat (first | (with_reducible first | exact HB.out | apply below_alloc | apply pw_below_drewN | apply below_drew1 | refine below_set ?_ GE473.out | refine below_set ?_ GE477.out) | exact HB.out)⟩⟩
          ·replace c46 := Bool.eq_false_iff.mpr c46
           subst c46
           have H1 : (impl_ReadHead.j1 k1 t493 t498 t503 true x478000_1 0 0) = some (r1, r2, r3, r4, r5, r6) := by rw [if_neg (show ¬ (false = true) by decide)] at H; exact H
           clear H
           have H := H1
           clear H1
           have H' := Aside0.mk H
           clear H
           go_wp2
           go_meet
           case rel => exact ⟨_, (true), (by first | rfl | (simp; done) | (simp [*]; done) | (simp [tz_, *]; done)), H', ⟨by have := HK1.out; first | omega | exact Nat.le_refl _⟩, ⟨by (with_reducible repeat (first | apply Kd.R_alloc | apply Kd.R_drewN | apply Kd.R_drew)); exact Kd.R_mono HO496.out (fun _ hk => ⟨hk.1.2, hk.2⟩)⟩, ⟨by (with_reducible repeat (first | apply Kd.R_alloc | apply Kd.R_drewN | apply Kd.R_drew)); exact Kd.R_mono HO501.out (fun _ hk => ⟨hk.1.2, hk.2⟩)⟩, ⟨by (with_reducible repeat (first | apply Kd.R_alloc | apply Kd.R_drewN | apply Kd.R_drew)); exact Kd.R_mono HO506.out (fun _ hk => ⟨hk.1.2, hk.2⟩)⟩, ⟨by (with_reducible repeat (first | apply Kd.R_alloc | apply Kd.R_drewN | apply Kd.R_drew)); exact HO_478000.out⟩, ⟨by (with_reducible repeat (first | refine blk_drewN ?_ _ | refine blk_drew ?_ | refine blk_alloc ?_ _)); exact BK473.out⟩, ⟨by (with_reducible repeat (first | refine blk_drewN ?_ _ | refine blk_drew ?_ | refine blk_alloc ?_ _)); exact BK477.out⟩, ⟨by repeat (first | (with_reducible first | exact HB.out | apply below_alloc | apply pw_below_drewN | apply below_drew1 | refine below_set ?_ GE473.out | refine below_set ?_ GE477.out) | exact HB.out)⟩⟩
         case rest =>
          clear HC42
          try clear c1
          try clear c2
          try clear p2
          try clear c3
          try clear c3b0
          try clear c3b1
          try clear c4
          try clear c4b0
          try clear c4b1
          try clear p4
          try clear q4
          try clear hx4
          try clear qi4
          try clear p5
          try clear q5
          try clear hx5
          try clear qi5
          try clear p6
          try clear c10
          try clear c14
          try clear c14b0
          try clear c15
          try clear c15b0
          try clear c16
          try clear c16b0
          try clear c18
          try clear c19
          try clear c19b0
          try clear c19b1
          try clear c20
          try clear c20b0
          try clear c20b1
          try clear c21
          try clear c21b0
          try clear c21b1
          try clear c22
          try clear c31
          try clear c34
          try clear c36
          try clear c36b0
          try clear c36b1
          try clear c38
          try clear c38b0
          try clear c38b1
          try clear c40
          try clear c40b0
          try clear c40b1
          try clear c46
          try clear c47
          try clear p47
          try clear q47
          try clear hx47
          try clear qi47
          try clear c48
          try clear p48
          try clear q48
          try clear hx48
          try clear qi48
          try clear p49
          try clear q49
          try clear hx49
          try clear qi49
          try clear hcz11_0
          try clear hcz11_1
          try clear hcz11_2
          try clear hcz11_3
          try clear hcz11_4
          try clear hcz32_0
          try clear hcz32_1
          try clear hcz32_2
          try clear hcz32_3
          try clear hcz32_4
          try clear hcz35_0
          try clear hcz35_1
          try clear hcz35_2
          try clear hcz35_3
          try clear hcz35_4
          try clear hfz11_0
          try clear hfz11_1
          try clear hfz11_2
          try clear hfz11_3
          try clear hfz11_4
          try clear hfz32_0
          try clear hfz32_1
          try clear hfz32_2
          try clear hfz32_3
          try clear hfz32_4
          try clear hfz35_0
          try clear hfz35_1
          try clear hfz35_2
          try clear hfz35_3
          try clear hfz35_4
          try clear hx478_0
          try clear hx482_0
          try clear hx487_0
          try clear hx488_0
          try clear hx492_0
          try clear hx497_0
          try clear hx502_0
          try clear p2
          try clear p4
          try clear p478
          try clear p482
          try clear p487
          try clear p488
          try clear p492
          try clear p497
          try clear p502
          try clear q4
          try clear q478
          try clear q482
          try clear q487
          try clear q488
          try clear q492
          try clear q497
          try clear q502
          obtain ⟨kq, x93_41, rfl, HA, HJ41, HO_10, HO_12, HO_14, HO_478000, BK473, BK477, HB⟩ := hcut
          cases kq with
          | zero => exact absurd HA.out (by simp [impl_ReadHead.j1])
          | succ kj41 =>
           have H := HA.out
           clear HA
           simp only [impl_ReadHead.j1] at H
           by_cases c50 : x93_41 = true
           ·subst c50
            have H1 : (some (([] : List (S77)), ([] : List Int), ([] : List Int), 0, 0, false)) = some (r1, r2, r3, r4, r5, r6) := by rw [if_pos rfl] at H; exact H
            clear H
            have H := H1
            clear H1
            simp only [Option.some.injEq, Prod.mk.injEq] at H
            obtain ⟨rfl, rfl, rfl, rfl, rfl, rfl⟩ := H
            have hnb51 := NB473_477.out
            have hnc51 := NB477_473.out
            have hcz52_0 : wc.cell? ⟨gb473, 0, none⟩ = some (.slice none 0 0) := (blk_cell BK473.out 0).trans rfl
            have hcz52_1 : wc.cell? ⟨gb473, 1, none⟩ = some (.slice none 0 0) := (blk_cell BK473.out 1).trans rfl
            have hcz52_2 : wc.cell? ⟨gb473, 2, none⟩ = some (.slice none 0 0) := (blk_cell BK473.out 2).trans rfl
            have hcz52_3 : wc.cell? ⟨gb473, 3, none⟩ = some (.int .i64 x474003_1) := (blk_cell BK473.out 3).trans rfl
            have hcz52_4 : wc.cell? ⟨gb473, 4, none⟩ = some (.int .i64 x474004_1) := (blk_cell BK473.out 4).trans rfl
            have hfz52_0 := blk_frozen BK473.out 0
            have hfz52_1 := blk_frozen BK473.out 1
            have hfz52_2 := blk_frozen BK473.out 2
            have hfz52_3 := blk_frozen BK473.out 3
            have hfz52_4 := blk_frozen BK473.out 4
            go_wp2
            refine bodyPost_ret (results_ct rfl _ _ gb473 31 #[.slice none 0 0, .slice none 0 0, .slice none 0 0, .int .i64 0, .int .i64 0] (0, 0) _ rfl (by (with_reducible repeat (first | refine blk_drewN ?_ _ | refine blk_drew ?_ | refine blk_alloc ?_ _)); refine blk_put (cs := #[.slice none 0 0, .slice none 0 0, .slice none 0 0, .int .i64 0, .int .i64 x474004_1]) ?_ 4 _ rfl; (with_reducible repeat (first | refine blk_drewN ?_ _ | refine blk_drew ?_ | refine blk_alloc ?_ _)); refine blk_put (cs := #[.slice none 0 0, .slice none 0 0, .slice none 0 0, .int .i64 x474003_1, .int .i64 x474004_1]) ?_ 3 _ rfl; (with_reducible repeat (first | refine blk_drewN ?_ _ | refine blk_drew ?_ | refine blk_alloc ?_ _)); refine blk_put (cs := #[.slice none 0 0, .slice none 0 0, .slice none 0 0, .int .i64 x474003_1, .int .i64 x474004_1]) ?_ 2 _ rfl; (with_reducible repeat (first | refine blk_drewN ?_ _ | refine blk_drew ?_ | refine blk_alloc ?_ _)); refine blk_put (cs := #[.slice none 0 0, .slice none 0 0, .slice none 0 0, .int .i64 x474003_1, .int .i64 x474004_1]) ?_ 1 _ rfl; (with_reducible repeat (first | refine blk_drewN ?_ _ | refine blk_drew ?_ | refine blk_alloc ?_ _)); refine blk_put (cs := #[.slice none 0 0, .slice none 0 0, .slice none 0 0, .int .i64 x474003_1, .int .i64 x474004_1]) ?_ 0 _ rfl; (with_reducible repeat (first | refine blk_drewN ?_ _ | refine blk_drew ?_ | refine blk_alloc ?_ _)); exact BK473.out) Tryd.underlying31 rfl (by kernel_rfl)) rfl ?_
            exact ⟨_, _, _, by first | rfl | (simp [errW_none, errW_some] <;> rfl) | (simp [*, errW_none, errW_some] <;> rfl) | (simp [tz_, *]; done), by first | exact Kd.R_nil _ _ _ _ _ | exact Kd.N_nil _ _ _ _ _ | exact Kd.V_nil _ _ _ _ _ | exact Kd.Q_nil _ _ _ _ _ | exact Kd.S_nil _ _ _ _ _, by first | exact Kd.R_nil _ _ _ _ _ | exact Kd.N_nil _ _ _ _ _ | exact Kd.V_nil _ _ _ _ _ | exact Kd.Q_nil _ _ _ _ _ | exact Kd.S_nil _ _ _ _ _, by first | exact Kd.R_nil _ _ _ _ _ | exact Kd.N_nil _ _ _ _ _ | exact Kd.V_nil _ _ _ _ _ | exact Kd.Q_nil _ _ _ _ _ | exact Kd.S_nil _ _ _ _ _, by repeat (first | (with_reducible first | exact HB.out | apply below_alloc | apply pw_below_drewN | apply below_drew1 | refine below_set ?_ GE473.out | refine below_set ?_ GE477.out) | exact HB.out)⟩
           ·replace c50 := Bool.eq_false_iff.mpr c50
            subst c50
            have H1 : (if 0 < (t503.length : Int) then (if 1 < (t503.length : Int) then ((impl_ValidHead.f kj41 x478000_1 t493 t498 (rd t503 0) (rd t503 1)).bind fun t509 => (if t509 = true then (some (x478000_1, t493, t498, rd t503 0, rd t503 1, true)) else (some (([] : List (S77)), ([] : List Int), ([] : List Int), 0, 0, false)))) else (none)) else (none)) = some (r1, r2, r3, r4, r5, r6) := by rw [if_neg (show ¬ (false = true) by decide)] at H; exact H
            clear H
            have H := H1
            clear H1
            by_cases c53 : 0 < (t503.length : Int)
            ·rw [if_pos c53] at H
             have c53b0 : decide (0 < (t503.length : Int)) = true := decide_eq_true c53
             have c53b1 : decide (0 < t503.length) = true := decide_eq_true (by omega)
             clear c53
             by_cases c54 : 1 < (t503.length : Int)
             ·rw [if_pos c54] at H
              have c54b0 : decide (1 < (t503.length : Int)) = true := decide_eq_true c54
              have c54b1 : decide (1 < t503.length) = true := decide_eq_true (by omega)
              clear c54
              replace H := Option.bind_eq_some_iff.mp H
              obtain ⟨t509, A550, H⟩ := H
              replace H : (if t509 = true then (some (x478000_1, t493, t498, rd t503 0, rd t503 1, true)) else (some (([] : List (S77)), ([] : List Int), ([] : List Int), 0, 0, false))) = some (r1, r2, r3, r4, r5, r6) := H
              have A55 := Aside0.mk A550
              clear A550
              by_cases c56 : t509 = true
              ·subst c56
               have H1 : (some (x478000_1, t493, t498, rd t503 0, rd t503 1, true)) = some (r1, r2, r3, r4, r5, r6) := by rw [if_pos rfl] at H; exact H
               clear H
               have H := H1
               clear H1
               simp only [Option.some.injEq, Prod.mk.injEq] at H
               obtain ⟨rfl, rfl, rfl, rfl, rfl, rfl⟩ := H
               try go_wp2
               have n0_ := Aside0.mk (Kd.R_drew HO_10.out)
               have n1_ := Aside0.mk (Kd.R_drew HO_12.out)
               have n2_ := Aside0.mk (Kd.R_drew HO_14.out)
               have n3_ := Aside0.mk (Kd.R_drew HO_478000.out)
               have n4_ := Aside0.mk (blk_drew BK473.out)
               have n5_ := Aside0.mk (blk_drew BK477.out)
               have n6_ := Aside0.mk (below_drew1 HB.out)
               clear HO_10
               clear HO_12
               clear HO_14
               clear HO_478000
               clear BK473
               clear BK477
               clear HB
               have HO_10 := n0_
               have HO_12 := n1_
               have HO_14 := n2_
               have HO_478000 := n3_
               have BK473 := n4_
               have BK477 := n5_
               have HB := n6_
               clear n0_ n1_ n2_ n3_ n4_ n5_ n6_
               obtain ⟨Ao58, co58, eo58⟩ := Kd.R_slice HO_14.out
               (first | subst eo58 | (injection eo58 with f1_ f2_ f3_; have f4_ := f1_.symm; have f5_ := f3_.symm; clear f1_ f2_ f3_; subst f4_; subst f5_))
               have p507 : 0 ≤ (0 : Int) := (by omega)
               have q507 : 0 < (t503.length : Int) := of_decide_eq_true (by assumption)
               obtain ⟨ad507, e507, hx507_0⟩ := Kd.at_int (Kd.R_reads' HO_14.out).2.2 0 p507 q507
               cases e507
               have qi507 : (0 < t503.length) = True := eq_true (by omega)
               (try rw [show ((0 : Int)).toNat = 0 from rfl] at hx507_0)
               (try rw [Addr.add_zero'] at hx507_0)
               replace p507 := eq_true p507
               replace q507 := eq_true q507
               have p508 : 0 ≤ (1 : Int) := (by omega)
               have q508 : 1 < (t503.length : Int) := of_decide_eq_true (by assumption)
               obtain ⟨ad508, e508, hx508_0⟩ := Kd.at_int (Kd.R_reads' HO_14.out).2.2 1 p508 q508
               obtain rfl : ad507 = ad508 := (by injection e508)
               (try simp only [show (1 : Int).toNat = 1 from rfl, Nat.reduceMul, Nat.reduceEqDiff, Go.Addr.add, ↓reduceIte] at hx508_0)
               have qi508 : (1 < t503.length) = True := eq_true (by omega)
               (try rw [show ((1 : Int)).toNat = 1 from rfl] at hx508_0)
               replace p508 := eq_true p508
               replace q508 := eq_true q508
               obtain ⟨Ao59, co59, eo59⟩ := Kd.R_slice HO_10.out
               (first | subst eo59 | (injection eo59 with f1_ f2_ f3_; have f4_ := f1_.symm; have f5_ := f3_.symm; clear f1_ f2_ f3_; subst f4_; subst f5_))
               obtain ⟨Ao61, co61, eo61⟩ := Kd.R_slice HO_12.out
               (first | subst eo61 | (injection eo61 with f1_ f2_ f3_; have f4_ := f1_.symm; have f5_ := f3_.symm; clear f1_ f2_ f3_; subst f4_; subst f5_))
               refine start_ (n := 16) (S := fun w' => w'.cell? ad507 = some (.int .i64 (rd t503 0)) ∧ w'.cell? ⟨ad507.block, ad507.off + 1, none⟩ = some (.int .i64 (rd t503 1))) (ds := []) p23_18014 (by kernel_rfl) rfl rfl ⟨hx507_0, hx508_0⟩ (fun hHeld => ?_); refine with_tabW impl_ReadHead.tab18 impl_ReadHead.bits18 (fun HT_ HW_ => ?_)
               generalize wc.drew = w57 at HO_10 HO_12 HO_14 HO_478000 BK473 BK477 HB hx507_0 hx508_0 hHeld ⊢
               refine pure_ (i := 0) (N := some 95) (v := ?_) (a' := ?_) p23_18015 rfl rfl (any_of HT_.out (by kernel_rfl)) (fun _ _ _ h => h) (Or.inl ⟨by rfl, ?_⟩) ?_ ?_
               rotate_left
               ·intro w'
                go_simp
                with_reducible rfl
               rotate_left
               ·simp only [Act.put, qa_, qz_, qs_, i64_w, i32_w]
                rfl
               refine pure_ (i := 1) (N := some 96) (v := ?_) (a' := ?_) p23_18016 rfl rfl (any_of HT_.out (by kernel_rfl)) (fun _ _ _ h => h) (Or.inl ⟨by rfl, ?_⟩) ?_ ?_
               rotate_left
               ·intro w'
                go_simp
                with_reducible rfl
               rotate_left
               ·simp only [Act.put, qa_, qz_, qs_, i64_w, i32_w]
                rfl
               refine pure_ (i := 2) (N := some 97) (v := ?_) (a' := ?_) p23_18017 rfl rfl (any_of HT_.out (by kernel_rfl)) (fun _ _ _ h => h) (Or.inl ⟨by rfl, ?_⟩) ?_ ?_
               rotate_left
               ·intro w'
                go_simp
                with_reducible rfl
               rotate_left
               ·simp only [Act.put, qa_, qz_, qs_, i64_w, i32_w]
                rfl
               refine pure_ (i := 3) (N := some 98) (v := ?_) (a' := ?_) p23_18018 rfl rfl (any_of HT_.out (by kernel_rfl)) (fun _ _ _ h => h) (Or.inl ⟨by rfl, ?_⟩) ?_ ?_
               rotate_left
               ·intro w'
                go_simp
                with_reducible rfl
               rotate_left
               ·simp only [Act.put, qa_, qz_, qs_, i64_w, i32_w]
                rfl
               refine pure_ (i := 5) (N := some 100) (v := ?_) (a' := ?_) p23_18019 rfl rfl (any_of HT_.out (by kernel_rfl)) (fun _ _ _ h => h) (Or.inl ⟨by rfl, ?_⟩) ?_ ?_
               rotate_left
               ·intro w'
                go_simp
                with_reducible rfl
               rotate_left
               ·simp only [Act.put, qa_, qz_, qs_, i64_w, i32_w]
                rfl
               refine pure_ (i := 6) (N := some 101) (v := ?_) (a' := ?_) p23_18020 rfl rfl (any_of HT_.out (by kernel_rfl)) (fun _ _ _ h => h) (Or.inl ⟨by rfl, ?_⟩) ?_ ?_
               rotate_left
               ·intro w'
                go_simp
                with_reducible rfl
               rotate_left
               ·simp only [Act.put, qa_, qz_, qs_, i64_w, i32_w]
                rfl
               refine pure_ (i := 8) (N := some 103) (v := ?_) (a' := ?_) p23_18021 rfl rfl (any_of HT_.out (by kernel_rfl)) (fun _ _ _ h => h) (Or.inl ⟨by rfl, ?_⟩) ?_ ?_
               rotate_left
               ·intro w'
                go_simp
                with_reducible rfl
               rotate_left
               ·simp only [Act.put, qa_, qz_, qs_, i64_w, i32_w]
                rfl
               refine take_ (i := 4) (N := some 99) (v := ?_) (a' := ?_) p23_18022 rfl rfl (take_ofW HT_.out HW_.out (by kernel_rfl)) (fun _ _ _ h => h) (Or.inl ⟨by rfl, ?_⟩) hHeld ?_ ?_
               rotate_left
               ·rintro w' ⟨s0, s1⟩
                go_simp
                with_reducible rfl
               rotate_left
               ·simp only [Act.put, qa_, qz_, qs_, i64_w, i32_w]
                rfl
               refine take_ (i := 7) (N := some 102) (v := ?_) (a' := ?_) p23_18023 rfl rfl (take_ofW HT_.out HW_.out (by kernel_rfl)) (fun _ _ _ h => h) (Or.inl ⟨by rfl, ?_⟩) hHeld ?_ ?_
               rotate_left
               ·rintro w' ⟨s0, s1⟩
                go_simp
                with_reducible rfl
               rotate_left
               ·simp only [Act.put, qa_, qz_, qs_, i64_w, i32_w]
                rfl
               refine one_ (i := 9) (N := none) p23_18024 rfl rfl (one_of HT_.out (by kernel_rfl)) (by decide) (fun K hK => ?_)
               have hs60 : w57.cell? ⟨gb477, 1, none⟩ = some (.slice none 0 0) := (blk_cell BK477.out 1).trans rfl
               have hfs60 := blk_frozen BK477.out 1
               have hns60_0 := NB473_477.out
               have hms60_0 := NB477_473.out
               refine skip_ (w1 := ?_) (by rfl) rfl ?_ ?_
               rotate_left
               ·go_simp
                rfl
               refine hK.out _ _ ⟨((cell_far (p := ⟨gb477, _, none⟩) (by first | exact Kd.own_blk (Kd.R_ne HO_14.out BK477.out (by decide)) | (rw [add_block]; exact Kd.own_blk (Kd.R_ne HO_14.out BK477.out (by decide))) | (show (Addr.add _ _).block ≠ _; rw [add_block]; exact Kd.own_blk (Kd.R_ne HO_14.out BK477.out (by decide))) | (dsimp only; exact Kd.own_blk (Kd.R_ne HO_14.out BK477.out (by decide)))) _).trans (hHeld.1)), ((cell_far (p := ⟨gb477, _, none⟩) (by first | exact Kd.own_blk (Kd.R_ne HO_14.out BK477.out (by decide)) | (rw [add_block]; exact Kd.own_blk (Kd.R_ne HO_14.out BK477.out (by decide))) | (show (Addr.add _ _).block ≠ _; rw [add_block]; exact Kd.own_blk (Kd.R_ne HO_14.out BK477.out (by decide))) | (dsimp only; exact Kd.own_blk (Kd.R_ne HO_14.out BK477.out (by decide)))) _).trans (hHeld.2))⟩ (fun hHeld => ?_)
               clear hK K
               refine pure_ (i := 10) (N := some 104) (v := ?_) (a' := ?_) p23_18025 rfl rfl (any_of HT_.out (by kernel_rfl)) (fun _ _ _ h => h) (Or.inl ⟨by rfl, ?_⟩) ?_ ?_
               rotate_left
               ·intro w'
                go_simp
                with_reducible rfl
               rotate_left
               ·simp only [Act.put, qa_, qz_, qs_, i64_w, i32_w]
                rfl
               refine one_ (i := 11) (N := none) p23_18026 rfl rfl (one_of HT_.out (by kernel_rfl)) (by decide) (fun K hK => ?_)
               have hs62 : w57.cell? ⟨gb477, 2, none⟩ = some (.slice none 0 0) := (blk_cell BK477.out 2).trans rfl
               have hfs62 := blk_frozen BK477.out 2
               have hns62_0 := NB473_477.out
               have hms62_0 := NB477_473.out
               refine skip_ (w1 := ?_) (by rfl) rfl ?_ ?_
               rotate_left
               ·go_simp
                rfl
               refine hK.out _ _ ⟨((cell_far (p := ⟨gb477, _, none⟩) (by first | exact Kd.own_blk (Kd.R_ne HO_14.out BK477.out (by decide)) | (rw [add_block]; exact Kd.own_blk (Kd.R_ne HO_14.out BK477.out (by decide))) | (show (Addr.add _ _).block ≠ _; rw [add_block]; exact Kd.own_blk (Kd.R_ne HO_14.out BK477.out (by decide))) | (dsimp only; exact Kd.own_blk (Kd.R_ne HO_14.out BK477.out (by decide)))) _).trans (hHeld.1)), ((cell_far (p := ⟨gb477, _, none⟩) (by first | exact Kd.own_blk (Kd.R_ne HO_14.out BK477.out (by decide)) | (rw [add_block]; exact Kd.own_blk (Kd.R_ne HO_14.out BK477.out (by decide))) | (show (Addr.add _ _).block ≠ _; rw [add_block]; exact Kd.own_blk (Kd.R_ne HO_14.out BK477.out (by decide))) | (dsimp only; exact Kd.own_blk (Kd.R_ne HO_14.out BK477.out (by decide)))) _).trans (hHeld.2))⟩ (fun hHeld => ?_)
               clear hK K
               refine pure_ (i := 12) (N := some 105) (v := ?_) (a' := ?_) p23_18027 rfl rfl (any_of HT_.out (by kernel_rfl)) (fun _ _ _ h => h) (Or.inl ⟨by rfl, ?_⟩) ?_ ?_
               rotate_left
               ·intro w'
                go_simp
                with_reducible rfl
               rotate_left
               ·simp only [Act.put, qa_, qz_, qs_, i64_w, i32_w]
                rfl
               refine one_ (i := 13) (N := none) p23_18028 rfl rfl (one_of HT_.out (by kernel_rfl)) (by decide) (fun K hK => ?_)
               have hs63 : w57.cell? ⟨gb477, 3, none⟩ = some (.int .i64 0) := (blk_cell BK477.out 3).trans rfl
               have hfs63 := blk_frozen BK477.out 3
               have hns63_0 := NB473_477.out
               have hms63_0 := NB477_473.out
               refine skip_ (w1 := ?_) (by rfl) rfl ?_ ?_
               rotate_left
               ·go_simp
                rfl
               refine hK.out _ _ ⟨((cell_far (p := ⟨gb477, _, none⟩) (by first | exact Kd.own_blk (Kd.R_ne HO_14.out BK477.out (by decide)) | (rw [add_block]; exact Kd.own_blk (Kd.R_ne HO_14.out BK477.out (by decide))) | (show (Addr.add _ _).block ≠ _; rw [add_block]; exact Kd.own_blk (Kd.R_ne HO_14.out BK477.out (by decide))) | (dsimp only; exact Kd.own_blk (Kd.R_ne HO_14.out BK477.out (by decide)))) _).trans (hHeld.1)), ((cell_far (p := ⟨gb477, _, none⟩) (by first | exact Kd.own_blk (Kd.R_ne HO_14.out BK477.out (by decide)) | (rw [add_block]; exact Kd.own_blk (Kd.R_ne HO_14.out BK477.out (by decide))) | (show (Addr.add _ _).block ≠ _; rw [add_block]; exact Kd.own_blk (Kd.R_ne HO_14.out BK477.out (by decide))) | (dsimp only; exact Kd.own_blk (Kd.R_ne HO_14.out BK477.out (by decide)))) _).trans (hHeld.2))⟩ (fun hHeld => ?_)
               clear hK K
               refine pure_ (i := 14) (N := some 106) (v := ?_) (a' := ?_) p23_18029 rfl rfl (any_of HT_.out (by kernel_rfl)) (fun _ _ _ h => h) (Or.inl ⟨by rfl, ?_⟩) ?_ ?_
               rotate_left
               ·intro w'
                go_simp
                with_reducible rfl
               rotate_left
               ·simp only [Act.put, qa_, qz_, qs_, i64_w, i32_w]
                rfl
               refine one_ (i := 15) (N := none) p23_18030 rfl rfl (one_of HT_.out (by kernel_rfl)) (by decide) (fun K hK => ?_)
               have hs64 : w57.cell? ⟨gb477, 4, none⟩ = some (.int .i64 0) := (blk_cell BK477.out 4).trans rfl
               have hfs64 := blk_frozen BK477.out 4
               have hns64_0 := NB473_477.out
               have hms64_0 := NB477_473.out
               refine skip_ (w1 := ?_) (by rfl) rfl ?_ ?_
               rotate_left
               ·go_simp
                rfl
               refine hK.out _ _ ⟨((cell_far (p := ⟨gb477, _, none⟩) (by first | exact Kd.own_blk (Kd.R_ne HO_14.out BK477.out (by decide)) | (rw [add_block]; exact Kd.own_blk (Kd.R_ne HO_14.out BK477.out (by decide))) | (show (Addr.add _ _).block ≠ _; rw [add_block]; exact Kd.own_blk (Kd.R_ne HO_14.out BK477.out (by decide))) | (dsimp only; exact Kd.own_blk (Kd.R_ne HO_14.out BK477.out (by decide)))) _).trans (hHeld.1)), ((cell_far (p := ⟨gb477, _, none⟩) (by first | exact Kd.own_blk (Kd.R_ne HO_14.out BK477.out (by decide)) | (rw [add_block]; exact Kd.own_blk (Kd.R_ne HO_14.out BK477.out (by decide))) | (show (Addr.add _ _).block ≠ _; rw [add_block]; exact Kd.own_blk (Kd.R_ne HO_14.out BK477.out (by decide))) | (dsimp only; exact Kd.own_blk (Kd.R_ne HO_14.out BK477.out (by decide)))) _).trans (hHeld.2))⟩ (fun hHeld => ?_)
               clear hK K
               refine done_ (done_of HT_.out (by kernel_rfl)) ?_
               have hnb65 := NB477_473.out
               have hnc65 := NB473_477.out
               have hcz66_0 : w57.cell? ⟨gb477, 0, none⟩ = some (u478000) := (blk_cell BK477.out 0).trans rfl
               have hcz66_1 : w57.cell? ⟨gb477, 1, none⟩ = some (.slice none 0 0) := (blk_cell BK477.out 1).trans rfl
               have hcz66_2 : w57.cell? ⟨gb477, 2, none⟩ = some (.slice none 0 0) := (blk_cell BK477.out 2).trans rfl
               have hcz66_3 : w57.cell? ⟨gb477, 3, none⟩ = some (.int .i64 0) := (blk_cell BK477.out 3).trans rfl
               have hcz66_4 : w57.cell? ⟨gb477, 4, none⟩ = some (.int .i64 0) := (blk_cell BK477.out 4).trans rfl
               have hfz66_0 := blk_frozen BK477.out 0
               have hfz66_1 := blk_frozen BK477.out 1
               have hfz66_2 := blk_frozen BK477.out 2
               have hfz66_3 := blk_frozen BK477.out 3
               have hfz66_4 := blk_frozen BK477.out 4
               obtain ⟨Ao67, co67, eo67⟩ := Kd.R_slice HO_478000.out
               subst eo67
               try go_wp2_with (first | ((with_reducible refine gate_callee (f := 31) rfl ?_); refine goesL_ (some 108) rfl rfl Tryd.func31 (by kernel_rfl) rfl #[.agg #[.slice Ao67 x478000_1.length co67, .slice Ao59 t493.length co59, .slice Ao61 t498.length co61, .int .i64 (rd t503 0), .int .i64 (rd t503 1)]] rfl (by (try simp only [List.map_toArray, List.map_cons, List.map_nil]); first | done | rfl) ?_; (with_reducible refine (impl_ValidHead.calls kj41 _ _ x478000_1 _ _ t493 _ _ t498 (rd t503 0) (rd t503 1) true _ ?side1 ?side2 ?side3 ?side4 ?side5 ?side6 A55.out).mono ?_); (case side1 => refine (Kd.R_reads' (e := 77) (base := w.heap.size) (ok := fun k_ => True) (n := x478000_1.length) (c := co67) ?_).2.2; exact (by (with_reducible repeat (first | apply Kd.R_alloc | apply Kd.R_drewN | apply Kd.R_drew)); exact (Kd.R_mono (Kd.R_far (p := ⟨gb477, 4, none⟩) (Kd.R_far (p := ⟨gb477, 3, none⟩) (Kd.R_far (p := ⟨gb477, 2, none⟩) (Kd.R_far (p := ⟨gb477, 1, none⟩) (Kd.R_types HO_478000.out BK477.out (by decide)) (fun _ hk => hk.2) (.slice Ao59 t493.length co59)) (fun _ hk => hk.2) (.slice Ao61 t498.length co61)) (fun _ hk => hk.2) (.int .i64 (rd t503 0))) (fun _ hk => hk.2) (.int .i64 (rd t503 1))) (fun _ h_ => h_.1)))); (case side2 => exact (Kd.R_reads' HO_478000.out).2.1); (case side3 => refine (Kd.R_reads' (e := 2) (base := w.heap.size) (ok := fun k_ => (some k_ ≠ (.slice Ao61 t498.length co61 : Value).ownBlock ∧ some k_ ≠ (.slice (some ad507) t503.length co58 : Value).ownBlock)) (n := t493.length) (c := co59) ?_).2.2; exact (by (with_reducible repeat (first | apply Kd.R_alloc | apply Kd.R_drewN | apply Kd.R_drew)); exact (Kd.R_mono (Kd.R_far (p := ⟨gb477, 4, none⟩) (Kd.R_far (p := ⟨gb477, 3, none⟩) (Kd.R_far (p := ⟨gb477, 2, none⟩) (Kd.R_far (p := ⟨gb477, 1, none⟩) (Kd.R_types HO_10.out BK477.out (by decide)) (fun _ hk => hk.2) (.slice Ao59 t493.length co59)) (fun _ hk => hk.2) (.slice Ao61 t498.length co61)) (fun _ hk => hk.2) (.int .i64 (rd t503 0))) (fun _ hk => hk.2) (.int .i64 (rd t503 1))) (fun _ h_ => h_.1)))); (case side4 => exact (Kd.R_reads' HO_10.out).2.1); (case side5 => refine (Kd.R_reads' (e := 2) (base := w.heap.size) (ok := fun k_ => (some k_ ≠ (.slice Ao59 t493.length co59 : Value).ownBlock ∧ some k_ ≠ (.slice (some ad507) t503.length co58 : Value).ownBlock)) (n := t498.length) (c := co61) ?_).2.2; exact (by (with_reducible repeat (first | apply Kd.R_alloc | apply Kd.R_drewN | apply Kd.R_drew)); exact (Kd.R_mono (Kd.R_far (p := ⟨gb477, 4, none⟩) (Kd.R_far (p := ⟨gb477, 3, none⟩) (Kd.R_far (p := ⟨gb477, 2, none⟩) (Kd.R_far (p := ⟨gb477, 1, none⟩) (Kd.R_types HO_12.out BK477.out (by decide)) (fun _ hk => hk.2) (.slice Ao59 t493.length co59)) (fun _ hk => hk.2) (.slice Ao61 t498.length co61)) (fun _ hk => hk.2) (.int .i64 (rd t503 0))) (fun _ hk => hk.2) (.int .i64 (rd t503 1))) (fun _ h_ => h_.1)))); (case side6 => exact (Kd.R_reads' HO_12.out).2.1); rintro e w68 ⟨rfl, hb⟩; refine ⟨_, rfl, ?_⟩; have n0_ := Aside0.mk (Kd.R_below (by (with_reducible repeat (first | apply Kd.R_alloc | apply Kd.R_drewN | apply Kd.R_drew)); exact (Kd.R_mono (Kd.R_far (p := ⟨gb477, 4, none⟩) (Kd.R_far (p := ⟨gb477, 3, none⟩) (Kd.R_far (p := ⟨gb477, 2, none⟩) (Kd.R_far (p := ⟨gb477, 1, none⟩) (Kd.R_types HO_10.out BK477.out (by decide)) (fun _ hk => hk.2) (.slice Ao59 t493.length co59)) (fun _ hk => hk.2) (.slice Ao61 t498.length co61)) (fun _ hk => hk.2) (.int .i64 (rd t503 0))) (fun _ hk => hk.2) (.int .i64 (rd t503 1))) (fun _ h_ => h_.1))) hb); have n1_ := Aside0.mk (Kd.R_below (by (with_reducible repeat (first | apply Kd.R_alloc | apply Kd.R_drewN | apply Kd.R_drew)); exact (Kd.R_mono (Kd.R_far (p := ⟨gb477, 4, none⟩) (Kd.R_far (p := ⟨gb477, 3, none⟩) (Kd.R_far (p := ⟨gb477, 2, none⟩) (Kd.R_far (p := ⟨gb477, 1, none⟩) (Kd.R_types HO_12.out BK477.out (by decide)) (fun _ hk => hk.2) (.slice Ao59 t493.length co59)) (fun _ hk => hk.2) (.slice Ao61 t498.length co61)) (fun _ hk => hk.2) (.int .i64 (rd t503 0))) (fun _ hk => hk.2) (.int .i64 (rd t503 1))) (fun _ h_ => h_.1))) hb); have n2_ := Aside0.mk (Kd.R_below (by (with_reducible repeat (first | apply Kd.R_alloc | apply Kd.R_drewN | apply Kd.R_drew)); exact (Kd.R_mono (Kd.R_far (p := ⟨gb477, 4, none⟩) (Kd.R_far (p := ⟨gb477, 3, none⟩) (Kd.R_far (p := ⟨gb477, 2, none⟩) (Kd.R_far (p := ⟨gb477, 1, none⟩) (Kd.R_types HO_14.out BK477.out (by decide)) (fun _ hk => hk.2) (.slice Ao59 t493.length co59)) (fun _ hk => hk.2) (.slice Ao61 t498.length co61)) (fun _ hk => hk.2) (.int .i64 (rd t503 0))) (fun _ hk => hk.2) (.int .i64 (rd t503 1))) (fun _ h_ => h_.1))) hb); have n3_ := Aside0.mk (Kd.R_below (by (with_reducible repeat (first | apply Kd.R_alloc | apply Kd.R_drewN | apply Kd.R_drew)); exact (Kd.R_mono (Kd.R_far (p := ⟨gb477, 4, none⟩) (Kd.R_far (p := ⟨gb477, 3, none⟩) (Kd.R_far (p := ⟨gb477, 2, none⟩) (Kd.R_far (p := ⟨gb477, 1, none⟩) (Kd.R_types HO_478000.out BK477.out (by decide)) (fun _ hk => hk.2) (.slice Ao59 t493.length co59)) (fun _ hk => hk.2) (.slice Ao61 t498.length co61)) (fun _ hk => hk.2) (.int .i64 (rd t503 0))) (fun _ hk => hk.2) (.int .i64 (rd t503 1))) (fun _ h_ => h_.1))) hb); have n4_ := Aside0.mk (blk_below (g := gb473) (o := .cells #[.slice none 0 0, .slice none 0 0, .slice none 0 0, .int .i64 x474003_1, .int .i64 x474004_1] 31 (0, 0)) (by (with_reducible repeat (first | refine blk_drewN ?_ _ | refine blk_drew ?_ | refine blk_alloc ?_ _)); refine blk_far ?_ NB473_477.out _; (with_reducible repeat (first | refine blk_drewN ?_ _ | refine blk_drew ?_ | refine blk_alloc ?_ _)); refine blk_far ?_ NB473_477.out _; (with_reducible repeat (first | refine blk_drewN ?_ _ | refine blk_drew ?_ | refine blk_alloc ?_ _)); refine blk_far ?_ NB473_477.out _; (with_reducible repeat (first | refine blk_drewN ?_ _ | refine blk_drew ?_ | refine blk_alloc ?_ _)); refine blk_far ?_ NB473_477.out _; (with_reducible repeat (first | refine blk_drewN ?_ _ | refine blk_drew ?_ | refine blk_alloc ?_ _)); exact BK473.out) hb); have n5_ := Aside0.mk (blk_below (g := gb477) (o := .cells #[.slice Ao67 x478000_1.length co67, .slice Ao59 t493.length co59, .slice Ao61 t498.length co61, .int .i64 (rd t503 0), .int .i64 (rd t503 1)] 31 (0, 0)) (by (with_reducible repeat (first | refine blk_drewN ?_ _ | refine blk_drew ?_ | refine blk_alloc ?_ _)); refine blk_put (cs := #[.slice Ao67 x478000_1.length co67, .slice Ao59 t493.length co59, .slice Ao61 t498.length co61, .int .i64 (rd t503 0), .int .i64 0]) ?_ 4 _ rfl; (with_reducible repeat (first | refine blk_drewN ?_ _ | refine blk_drew ?_ | refine blk_alloc ?_ _)); refine blk_put (cs := #[.slice Ao67 x478000_1.length co67, .slice Ao59 t493.length co59, .slice Ao61 t498.length co61, .int .i64 0, .int .i64 0]) ?_ 3 _ rfl; (with_reducible repeat (first | refine blk_drewN ?_ _ | refine blk_drew ?_ | refine blk_alloc ?_ _)); refine blk_put (cs := #[.slice Ao67 x478000_1.length co67, .slice Ao59 t493.length co59, .slice none 0 0, .int .i64 0, .int .i64 0]) ?_ 2 _ rfl; (with_reducible repeat (first | refine blk_drewN ?_ _ | refine blk_drew ?_ | refine blk_alloc ?_ _)); refine blk_put (cs := #[.slice Ao67 x478000_1.length co67, .slice none 0 0, .slice none 0 0, .int .i64 0, .int .i64 0]) ?_ 1 _ rfl; (with_reducible repeat (first | refine blk_drewN ?_ _ | refine blk_drew ?_ | refine blk_alloc ?_ _)); exact BK477.out) hb); have n6_ := Aside0.mk (below_step (by repeat (first | (with_reducible first | exact HB.out | apply below_alloc | apply pw_below_drewN | apply below_drew1 | refine below_set ?_ GE473.out | refine below_set ?_ GE477.out) | exact HB.out)) hb); clear HO_10; clear HO_12; clear HO_14; clear HO_478000; clear BK473; clear BK477; clear HB; have HO_10 := n0_; have HO_12 := n1_; have HO_14 := n2_; have HO_478000 := n3_; have BK473 := n4_; have BK477 := n5_; have HB := n6_; clear n0_ n1_ n2_ n3_ n4_ n5_ n6_; (try clear hb); (try clear hb2); (try clear hk); (try clear hi); have hcz69_0 : w68.cell? ⟨gb477, 0, none⟩ = some (.slice Ao67 x478000_1.length co67) := (blk_cell BK477.out 0).trans rfl; have hcz69_1 : w68.cell? ⟨gb477, 1, none⟩ = some (.slice Ao59 t493.length co59) := (blk_cell BK477.out 1).trans rfl; have hcz69_2 : w68.cell? ⟨gb477, 2, none⟩ = some (.slice Ao61 t498.length co61) := (blk_cell BK477.out 2).trans rfl; have hcz69_3 : w68.cell? ⟨gb477, 3, none⟩ = some (.int .i64 (rd t503 0)) := (blk_cell BK477.out 3).trans rfl; have hcz69_4 : w68.cell? ⟨gb477, 4, none⟩ = some (.int .i64 (rd t503 1)) := (blk_cell BK477.out 4).trans rfl; have hfz69_0 := blk_frozen BK477.out 0; have hfz69_1 := blk_frozen BK477.out 1; have hfz69_2 := blk_frozen BK477.out 2; have hfz69_3 := blk_frozen BK477.out 3; have hfz69_4 := blk_frozen BK477.out 4; have hcz70_0 : w68.cell? ⟨gb473, 0, none⟩ = some (.slice none 0 0) := (blk_cell BK473.out 0).trans rfl; have hcz70_1 : w68.cell? ⟨gb473, 1, none⟩ = some (.slice none 0 0) := (blk_cell BK473.out 1).trans rfl; have hcz70_2 : w68.cell? ⟨gb473, 2, none⟩ = some (.slice none 0 0) := (blk_cell BK473.out 2).trans rfl; have hcz70_3 : w68.cell? ⟨gb473, 3, none⟩ = some (.int .i64 x474003_1) := (blk_cell BK473.out 3).trans rfl; have hcz70_4 : w68.cell? ⟨gb473, 4, none⟩ = some (.int .i64 x474004_1) := (blk_cell BK473.out 4).trans rfl; have hfz70_0 := blk_frozen BK473.out 0; have hfz70_1 := blk_frozen BK473.out 1; have hfz70_2 := blk_frozen BK473.out 2; have hfz70_3 := blk_frozen BK473.out 3; have hfz70_4 := blk_frozen BK473.out 4))
               refine bodyPost_ret (results_ct rfl _ _ gb473 31 #[.slice Ao67 x478000_1.length co67, .slice Ao59 t493.length co59, .slice Ao61 t498.length co61, .int .i64 (rd t503 0), .int .i64 (rd t503 1)] (0, 0) _ rfl (by (with_reducible repeat (first | refine blk_drewN ?_ _ | refine blk_drew ?_ | refine blk_alloc ?_ _)); refine blk_put (cs := #[.slice Ao67 x478000_1.length co67, .slice Ao59 t493.length co59, .slice Ao61 t498.length co61, .int .i64 (rd t503 0), .int .i64 x474004_1]) ?_ 4 _ rfl; (with_reducible repeat (first | refine blk_drewN ?_ _ | refine blk_drew ?_ | refine blk_alloc ?_ _)); refine blk_put (cs := #[.slice Ao67 x478000_1.length co67, .slice Ao59 t493.length co59, .slice Ao61 t498.length co61, .int .i64 x474003_1, .int .i64 x474004_1]) ?_ 3 _ rfl; (with_reducible repeat (first | refine blk_drewN ?_ _ | refine blk_drew ?_ | refine blk_alloc ?_ _)); refine blk_put (cs := #[.slice Ao67 x478000_1.length co67, .slice Ao59 t493.length co59, .slice none 0 0, .int .i64 x474003_1, .int .i64 x474004_1]) ?_ 2 _ rfl; (with_reducible repeat (first | refine blk_drewN ?_ _ | refine blk_drew ?_ | refine blk_alloc ?_ _)); refine blk_put (cs := #[.slice Ao67 x478000_1.length co67, .slice none 0 0, .slice none 0 0, .int .i64 x474003_1, .int .i64 x474004_1]) ?_ 1 _ rfl; (with_reducible repeat (first | refine blk_drewN ?_ _ | refine blk_drew ?_ | refine blk_alloc ?_ _)); refine blk_put (cs := #[.slice none 0 0, .slice none 0 0, .slice none 0 0, .int .i64 x474003_1, .int .i64 x474004_1]) ?_ 0 _ rfl; (with_reducible repeat (first | refine blk_drewN ?_ _ | refine blk_drew ?_ | refine blk_alloc ?_ _)); exact BK473.out) Tryd.underlying31 rfl (by kernel_rfl)) rfl ?_
               exact ⟨_, _, _, by first | rfl | (simp [errW_none, errW_some] <;> rfl) | (simp [*, errW_none, errW_some] <;> rfl) | (simp [tz_, *]; done), by (with_reducible repeat (first | apply Kd.R_alloc | apply Kd.R_drewN | apply Kd.R_drew)); exact Kd.R_mono (Kd.R_far (p := ⟨gb473, 4, none⟩) (Kd.R_far (p := ⟨gb473, 3, none⟩) (Kd.R_far (p := ⟨gb473, 2, none⟩) (Kd.R_far (p := ⟨gb473, 1, none⟩) (Kd.R_far (p := ⟨gb473, 0, none⟩) (Kd.R_types HO_478000.out BK473.out (by decide)) (fun _ hk => hk.2) (.slice Ao67 x478000_1.length co67)) (fun _ hk => hk.2) (.slice Ao59 t493.length co59)) (fun _ hk => hk.2) (.slice Ao61 t498.length co61)) (fun _ hk => hk.2) (.int .i64 (rd t503 0))) (fun _ hk => hk.2) (.int .i64 (rd t503 1))) (fun _ hk => trivial), by (with_reducible repeat (first | apply Kd.R_alloc | apply Kd.R_drewN | apply Kd.R_drew)); exact Kd.R_mono (Kd.R_far (p := ⟨gb473, 4, none⟩) (Kd.R_far (p := ⟨gb473, 3, none⟩) (Kd.R_far (p := ⟨gb473, 2, none⟩) (Kd.R_far (p := ⟨gb473, 1, none⟩) (Kd.R_far (p := ⟨gb473, 0, none⟩) (Kd.R_types HO_10.out BK473.out (by decide)) (fun _ hk => hk.2) (.slice Ao67 x478000_1.length co67)) (fun _ hk => hk.2) (.slice Ao59 t493.length co59)) (fun _ hk => hk.2) (.slice Ao61 t498.length co61)) (fun _ hk => hk.2) (.int .i64 (rd t503 0))) (fun _ hk => hk.2) (.int .i64 (rd t503 1))) (fun _ hk => hk.1.1), by (with_reducible repeat (first | apply Kd.R_alloc | apply Kd.R_drewN | apply Kd.R_drew)); exact Kd.R_mono (Kd.R_far (p := ⟨gb473, 4, none⟩) (Kd.R_far (p := ⟨gb473, 3, none⟩) (Kd.R_far (p := ⟨gb473, 2, none⟩) (Kd.R_far (p := ⟨gb473, 1, none⟩) (Kd.R_far (p := ⟨gb473, 0, none⟩) (Kd.R_types HO_12.out BK473.out (by decide)) (fun _ hk => hk.2) (.slice Ao67 x478000_1.length co67)) (fun _ hk => hk.2) (.slice Ao59 t493.length co59)) (fun _ hk => hk.2) (.slice Ao61 t498.length co61)) (fun _ hk => hk.2) (.int .i64 (rd t503 0))) (fun _ hk => hk.2) (.int .i64 (rd t503 1))) (fun _ hk => hk.1.1), by repeat (first | (with_reducible first | exact HB.out | apply below_alloc | apply pw_below_drewN | apply below_drew1 | refine below_set ?_ GE473.out | refine below_set ?_ GE477.out) | exact HB.out)⟩
              ·replace c56 := Bool.eq_false_iff.mpr c56
               subst c56
               have H1 : (some (([] : List (S77)), ([] : List Int), ([] : List Int), 0, 0, false)) = some (r1, r2, r3, r4, r5, r6) := by rw [if_neg (show ¬ (false = true) by decide)] at H; exact H
               clear H
               have H := H1
               clear H1
               simp only [Option.some.injEq, Prod.mk.injEq] at H
               obtain ⟨rfl, rfl, rfl, rfl, rfl, rfl⟩ := H
               try go_wp2
               have n0_ := Aside0.mk (Kd.R_drew HO_10.out)
               have n1_ := Aside0.mk (Kd.R_drew HO_12.out)
               have n2_ := Aside0.mk (Kd.R_drew HO_14.out)
               have n3_ := Aside0.mk (Kd.R_drew HO_478000.out)
               have n4_ := Aside0.mk (blk_drew BK473.out)
               have n5_ := Aside0.mk (blk_drew BK477.out)
               have n6_ := Aside0.mk (below_drew1 HB.out)
               clear HO_10
               clear HO_12
               clear HO_14
               clear HO_478000
               clear BK473
               clear BK477
               clear HB
               have HO_10 := n0_
               have HO_12 := n1_
               have HO_14 := n2_
               have HO_478000 := n3_
               have BK473 := n4_
               have BK477 := n5_
               have HB := n6_
               clear n0_ n1_ n2_ n3_ n4_ n5_ n6_
               obtain ⟨Ao72, co72, eo72⟩ := Kd.R_slice HO_14.out
               (first | subst eo72 | (injection eo72 with f1_ f2_ f3_; have f4_ := f1_.symm; have f5_ := f3_.symm; clear f1_ f2_ f3_; subst f4_; subst f5_))
               have p507 : 0 ≤ (0 : Int) := (by omega)
               have q507 : 0 < (t503.length : Int) := of_decide_eq_true (by assumption)
               obtain ⟨ad507, e507, hx507_0⟩ := Kd.at_int (Kd.R_reads' HO_14.out).2.2 0 p507 q507
               cases e507
               have qi507 : (0 < t503.length) = True := eq_true (by omega)
               (try rw [show ((0 : Int)).toNat = 0 from rfl] at hx507_0)
               (try rw [Addr.add_zero'] at hx507_0)
               replace p507 := eq_true p507
               replace q507 := eq_true q507
               have p508 : 0 ≤ (1 : Int) := (by omega)
               have q508 : 1 < (t503.length : Int) := of_decide_eq_true (by assumption)
               obtain ⟨ad508, e508, hx508_0⟩ := Kd.at_int (Kd.R_reads' HO_14.out).2.2 1 p508 q508
               obtain rfl : ad507 = ad508 := (by injection e508)
               (try simp only [show (1 : Int).toNat = 1 from rfl, Nat.reduceMul, Nat.reduceEqDiff, Go.Addr.add, ↓reduceIte] at hx508_0)
               have qi508 : (1 < t503.length) = True := eq_true (by omega)
               (try rw [show ((1 : Int)).toNat = 1 from rfl] at hx508_0)
               replace p508 := eq_true p508
               replace q508 := eq_true q508
               obtain ⟨Ao73, co73, eo73⟩ := Kd.R_slice HO_10.out
               (first | subst eo73 | (injection eo73 with f1_ f2_ f3_; have f4_ := f1_.symm; have f5_ := f3_.symm; clear f1_ f2_ f3_; subst f4_; subst f5_))
               obtain ⟨Ao75, co75, eo75⟩ := Kd.R_slice HO_12.out
               (first | subst eo75 | (injection eo75 with f1_ f2_ f3_; have f4_ := f1_.symm; have f5_ := f3_.symm; clear f1_ f2_ f3_; subst f4_; subst f5_))
               refine start_ (n := 16) (S := fun w' => w'.cell? ad507 = some (.int .i64 (rd t503 0)) ∧ w'.cell? ⟨ad507.block, ad507.off + 1, none⟩ = some (.int .i64 (rd t503 1))) (ds := []) p23_18014 (by kernel_rfl) rfl rfl ⟨hx507_0, hx508_0⟩ (fun hHeld => ?_); refine with_tabW impl_ReadHead.tab18 impl_ReadHead.bits18 (fun HT_ HW_ => ?_)
               generalize wc.drew = w71 at HO_10 HO_12 HO_14 HO_478000 BK473 BK477 HB hx507_0 hx508_0 hHeld ⊢
               refine pure_ (i := 0) (N := some 95) (v := ?_) (a' := ?_) p23_18015 rfl rfl (any_of HT_.out (by kernel_rfl)) (fun _ _ _ h => h) (Or.inl ⟨by rfl, ?_⟩) ?_ ?_
               rotate_left
               ·intro w'
                go_simp
                with_reducible rfl
               rotate_left
               ·simp only [Act.put, qa_, qz_, qs_, i64_w, i32_w]
                rfl
               refine pure_ (i := 1) (N := some 96) (v := ?_) (a' := ?_) p23_18016 rfl rfl (any_of HT_.out (by kernel_rfl)) (fun _ _ _ h => h) (Or.inl ⟨by rfl, ?_⟩) ?_ ?_
               rotate_left
               ·intro w'
                go_simp
                with_reducible rfl
               rotate_left
               ·simp only [Act.put, qa_, qz_, qs_, i64_w, i32_w]
                rfl
               refine pure_ (i := 2) (N := some 97) (v := ?_) (a' := ?_) p23_18017 rfl rfl (any_of HT_.out (by kernel_rfl)) (fun _ _ _ h => h) (Or.inl ⟨by rfl, ?_⟩) ?_ ?_
               rotate_left
               ·intro w'
                go_simp
                with_reducible rfl
               rotate_left
               ·simp only [Act.put, qa_, qz_, qs_, i64_w, i32_w]
                rfl
               refine pure_ (i := 3) (N := some 98) (v := ?_) (a' := ?_) p23_18018 rfl rfl (any_of HT_.out (by kernel_rfl)) (fun _ _ _ h => h) (Or.inl ⟨by rfl, ?_⟩) ?_ ?_
               rotate_left
               ·intro w'
                go_simp
                with_reducible rfl
               rotate_left
               ·simp only [Act.put, qa_, qz_, qs_, i64_w, i32_w]
                rfl
               refine pure_ (i := 5) (N := some 100) (v := ?_) (a' := ?_) p23_18019 rfl rfl (any_of HT_.out (by kernel_rfl)) (fun _ _ _ h => h) (Or.inl ⟨by rfl, ?_⟩) ?_ ?_
               rotate_left
               ·intro w'
                go_simp
                with_reducible rfl
               rotate_left
               ·simp only [Act.put, qa_, qz_, qs_, i64_w, i32_w]
                rfl
               refine pure_ (i := 6) (N := some 101) (v := ?_) (a' := ?_) p23_18020 rfl rfl (any_of HT_.out (by kernel_rfl)) (fun _ _ _ h => h) (Or.inl ⟨by rfl, ?_⟩) ?_ ?_
               rotate_left
               ·intro w'
                go_simp
                with_reducible rfl
               rotate_left
               ·simp only [Act.put, qa_, qz_, qs_, i64_w, i32_w]
                rfl
               refine pure_ (i := 8) (N := some 103) (v := ?_) (a' := ?_) p23_18021 rfl rfl (any_of HT_.out (by kernel_rfl)) (fun _ _ _ h => h) (Or.inl ⟨by rfl, ?_⟩) ?_ ?_
               rotate_left
               ·intro w'
                go_simp
                with_reducible rfl
               rotate_left
               ·simp only [Act.put, qa_, qz_, qs_, i64_w, i32_w]
                rfl
               refine take_ (i := 4) (N := some 99) (v := ?_) (a' := ?_) p23_18022 rfl rfl (take_ofW HT_.out HW_.out (by kernel_rfl)) (fun _ _ _ h => h) (Or.inl ⟨by rfl, ?_⟩) hHeld ?_ ?_
               rotate_left
               ·rintro w' ⟨s0, s1⟩
                go_simp
                with_reducible rfl
               rotate_left
               ·simp only [Act.put, qa_, qz_, qs_, i64_w, i32_w]
                rfl
               refine take_ (i := 7) (N := some 102) (v := ?_) (a' := ?_) p23_18023 rfl rfl (take_ofW HT_.out HW_.out (by kernel_rfl)) (fun _ _ _ h => h) (Or.inl ⟨by rfl, ?_⟩) hHeld ?_ ?_
               rotate_left
               ·rintro w' ⟨s0, s1⟩
                go_simp
                with_reducible rfl
               rotate_left
               ·simp only [Act.put, qa_, qz_, qs_, i64_w, i32_w]
                rfl
               refine one_ (i := 9) (N := none) p23_18024 rfl rfl (one_of HT_.out (by kernel_rfl)) (by decide) (fun K hK => ?_)
               have hs74 : w71.cell? ⟨gb477, 1, none⟩ = some (.slice none 0 0) := (blk_cell BK477.out 1).trans rfl
               have hfs74 := blk_frozen BK477.out 1
               have hns74_0 := NB473_477.out
               have hms74_0 := NB477_473.out
               refine skip_ (w1 := ?_) (by rfl) rfl ?_ ?_
               rotate_left
               ·go_simp
                rfl
               refine hK.out _ _ ⟨((cell_far (p := ⟨gb477, _, none⟩) (by first | exact Kd.own_blk (Kd.R_ne HO_14.out BK477.out (by decide)) | (rw [add_block]; exact Kd.own_blk (Kd.R_ne HO_14.out BK477.out (by decide))) | (show (Addr.add _ _).block ≠ _; rw [add_block]; exact Kd.own_blk (Kd.R_ne HO_14.out BK477.out (by decide))) | (dsimp only; exact Kd.own_blk (Kd.R_ne HO_14.out BK477.out (by decide)))) _).trans (hHeld.1)), ((cell_far (p := ⟨gb477, _, none⟩) (by first | exact Kd.own_blk (Kd.R_ne HO_14.out BK477.out (by decide)) | (rw [add_block]; exact Kd.own_blk (Kd.R_ne HO_14.out BK477.out (by decide))) | (show (Addr.add _ _).block ≠ _; rw [add_block]; exact Kd.own_blk (Kd.R_ne HO_14.out BK477.out (by decide))) | (dsimp only; exact Kd.own_blk (Kd.R_ne HO_14.out BK477.out (by decide)))) _).trans (hHeld.2))⟩ (fun hHeld => ?_)
               clear hK K
               refine pure_ (i := 10) (N := some 104) (v := ?_) (a' := ?_) p23_18025 rfl rfl (any_of HT_.out (by kernel_rfl)) (fun _ _ _ h => h) (Or.inl ⟨by rfl, ?_⟩) ?_ ?_
               rotate_left
               ·intro w'
                go_simp
                with_reducible rfl
               rotate_left
               ·simp only [Act.put, qa_, qz_, qs_, i64_w, i32_w]
                rfl
               refine one_ (i := 11) (N := none) p23_18026 rfl rfl (one_of HT_.out (by kernel_rfl)) (by decide) (fun K hK => ?_)
               have hs76 : w71.cell? ⟨gb477, 2, none⟩ = some (.slice none 0 0) := (blk_cell BK477.out 2).trans rfl
               have hfs76 := blk_frozen BK477.out 2
               have hns76_0 := NB473_477.out
               have hms76_0 := NB477_473.out
               refine skip_ (w1 := ?_) (by rfl) rfl ?_ ?_
               rotate_left
               ·go_simp
                rfl
               refine hK.out _ _ ⟨((cell_far (p := ⟨gb477, _, none⟩) (by first | exact Kd.own_blk (Kd.R_ne HO_14.out BK477.out (by decide)) | (rw [add_block]; exact Kd.own_blk (Kd.R_ne HO_14.out BK477.out (by decide))) | (show (Addr.add _ _).block ≠ _; rw [add_block]; exact Kd.own_blk (Kd.R_ne HO_14.out BK477.out (by decide))) | (dsimp only; exact Kd.own_blk (Kd.R_ne HO_14.out BK477.out (by decide)))) _).trans (hHeld.1)), ((cell_far (p := ⟨gb477, _, none⟩) (by first | exact Kd.own_blk (Kd.R_ne HO_14.out BK477.out (by decide)) | (rw [add_block]; exact Kd.own_blk (Kd.R_ne HO_14.out BK477.out (by decide))) | (show (Addr.add _ _).block ≠ _; rw [add_block]; exact Kd.own_blk (Kd.R_ne HO_14.out BK477.out (by decide))) | (dsimp only; exact Kd.own_blk (Kd.R_ne HO_14.out BK477.out (by decide)))) _).trans (hHeld.2))⟩ (fun hHeld => ?_)
               clear hK K
               refine pure_ (i := 12) (N := some 105) (v := ?_) (a' := ?_) p23_18027 rfl rfl (any_of HT_.out (by kernel_rfl)) (fun _ _ _ h => h) (Or.inl ⟨by rfl, ?_⟩) ?_ ?_
               rotate_left
               ·intro w'
                go_simp
                with_reducible rfl
               rotate_left
               ·simp only [Act.put, qa_, qz_, qs_, i64_w, i32_w]
                rfl
               refine one_ (i := 13) (N := none) p23_18028 rfl rfl (one_of HT_.out (by kernel_rfl)) (by decide) (fun K hK => ?_)
               have hs77 : w71.cell? ⟨gb477, 3, none⟩ = some (.int .i64 0) := (blk_cell BK477.out 3).trans rfl
               have hfs77 := blk_frozen BK477.out 3
               have hns77_0 := NB473_477.out
               have hms77_0 := NB477_473.out
               refine skip_ (w1 := ?_) (by rfl) rfl ?_ ?_
               rotate_left
               ·go_simp
                rfl
               refine hK.out _ _ ⟨((cell_far (p := ⟨gb477, _, none⟩) (by first | exact Kd.own_blk (Kd.R_ne HO_14.out BK477.out (by decide)) | (rw [add_block]; exact Kd.own_blk (Kd.R_ne HO_14.out BK477.out (by decide))) | (show (Addr.add _ _).block ≠ _; rw [add_block]; exact Kd.own_blk (Kd.R_ne HO_14.out BK477.out (by decide))) | (dsimp only; exact Kd.own_blk (Kd.R_ne HO_14.out BK477.out (by decide)))) _).trans (hHeld.1)), ((cell_far (p := ⟨gb477, _, none⟩) (by first | exact Kd.own_blk (Kd.R_ne HO_14.out BK477.out (by decide)) | (rw [add_block]; exact Kd.own_blk (Kd.R_ne HO_14.out BK477.out (by decide))) | (show (Addr.add _ _).block ≠ _; rw [add_block]; exact Kd.own_blk (Kd.R_ne HO_14.out BK477.out (by decide))) | (dsimp only; exact Kd.own_blk (Kd.R_ne HO_14.out BK477.out (by decide)))) _).trans (hHeld.2))⟩ (fun hHeld => ?_)
               clear hK K
               refine pure_ (i := 14) (N := some 106) (v := ?_) (a' := ?_) p23_18029 rfl rfl (any_of HT_.out (by kernel_rfl)) (fun _ _ _ h => h) (Or.inl ⟨by rfl, ?_⟩) ?_ ?_
               rotate_left
               ·intro w'
                go_simp
                with_reducible rfl
               rotate_left
               ·simp only [Act.put, qa_, qz_, qs_, i64_w, i32_w]
                rfl
               refine one_ (i := 15) (N := none) p23_18030 rfl rfl (one_of HT_.out (by kernel_rfl)) (by decide) (fun K hK => ?_)
               have hs78 : w71.cell? ⟨gb477, 4, none⟩ = some (.int .i64 0) := (blk_cell BK477.out 4).trans rfl
               have hfs78 := blk_frozen BK477.out 4
               have hns78_0 := NB473_477.out
               have hms78_0 := NB477_473.out
               refine skip_ (w1 := ?_) (by rfl) rfl ?_ ?_
               rotate_left
               ·go_simp
                rfl
               refine hK.out _ _ ⟨((cell_far (p := ⟨gb477, _, none⟩) (by first | exact Kd.own_blk (Kd.R_ne HO_14.out BK477.out (by decide)) | (rw [add_block]; exact Kd.own_blk (Kd.R_ne HO_14.out BK477.out (by decide))) | (show (Addr.add _ _).block ≠ _; rw [add_block]; exact Kd.own_blk (Kd.R_ne HO_14.out BK477.out (by decide))) | (dsimp only; exact Kd.own_blk (Kd.R_ne HO_14.out BK477.out (by decide)))) _).trans (hHeld.1)), ((cell_far (p := ⟨gb477, _, none⟩) (by first | exact Kd.own_blk (Kd.R_ne HO_14.out BK477.out (by decide)) | (rw [add_block]; exact Kd.own_blk (Kd.R_ne HO_14.out BK477.out (by decide))) | (show (Addr.add _ _).block ≠ _; rw [add_block]; exact Kd.own_blk (Kd.R_ne HO_14.out BK477.out (by decide))) | (dsimp only; exact Kd.own_blk (Kd.R_ne HO_14.out BK477.out (by decide)))) _).trans (hHeld.2))⟩ (fun hHeld => ?_)
               clear hK K
               refine done_ (done_of HT_.out (by kernel_rfl)) ?_
               have hnb79 := NB477_473.out
               have hnc79 := NB473_477.out
               have hcz80_0 : w71.cell? ⟨gb477, 0, none⟩ = some (u478000) := (blk_cell BK477.out 0).trans rfl
               have hcz80_1 : w71.cell? ⟨gb477, 1, none⟩ = some (.slice none 0 0) := (blk_cell BK477.out 1).trans rfl
               have hcz80_2 : w71.cell? ⟨gb477, 2, none⟩ = some (.slice none 0 0) := (blk_cell BK477.out 2).trans rfl
               have hcz80_3 : w71.cell? ⟨gb477, 3, none⟩ = some (.int .i64 0) := (blk_cell BK477.out 3).trans rfl
               have hcz80_4 : w71.cell? ⟨gb477, 4, none⟩ = some (.int .i64 0) := (blk_cell BK477.out 4).trans rfl
               have hfz80_0 := blk_frozen BK477.out 0
               have hfz80_1 := blk_frozen BK477.out 1
               have hfz80_2 := blk_frozen BK477.out 2
               have hfz80_3 := blk_frozen BK477.out 3
               have hfz80_4 := blk_frozen BK477.out 4
               obtain ⟨Ao81, co81, eo81⟩ := Kd.R_slice HO_478000.out
               subst eo81
               try go_wp2_with (first | ((with_reducible refine gate_callee (f := 31) rfl ?_); refine goesL_ (some 108) rfl rfl Tryd.func31 (by kernel_rfl) rfl #[.agg #[.slice Ao81 x478000_1.length co81, .slice Ao73 t493.length co73, .slice Ao75 t498.length co75, .int .i64 (rd t503 0), .int .i64 (rd t503 1)]] rfl (by (try simp only [List.map_toArray, List.map_cons, List.map_nil]); first | done | rfl) ?_; (with_reducible refine (impl_ValidHead.calls kj41 _ _ x478000_1 _ _ t493 _ _ t498 (rd t503 0) (rd t503 1) false _ ?side1 ?side2 ?side3 ?side4 ?side5 ?side6 A55.out).mono ?_); (case side1 => refine (Kd.R_reads' (e := 77) (base := w.heap.size) (ok := fun k_ => True) (n := x478000_1.length) (c := co81) ?_).2.2; exact (by (with_reducible repeat (first | apply Kd.R_alloc | apply Kd.R_drewN | apply Kd.R_drew)); exact (Kd.R_mono (Kd.R_far (p := ⟨gb477, 4, none⟩) (Kd.R_far (p := ⟨gb477, 3, none⟩) (Kd.R_far (p := ⟨gb477, 2, none⟩) (Kd.R_far (p := ⟨gb477, 1, none⟩) (Kd.R_types HO_478000.out BK477.out (by decide)) (fun _ hk => hk.2) (.slice Ao73 t493.length co73)) (fun _ hk => hk.2) (.slice Ao75 t498.length co75)) (fun _ hk => hk.2) (.int .i64 (rd t503 0))) (fun _ hk => hk.2) (.int .i64 (rd t503 1))) (fun _ h_ => h_.1)))); (case side2 => exact (Kd.R_reads' HO_478000.out).2.1); (case side3 => refine (Kd.R_reads' (e := 2) (base := w.heap.size) (ok := fun k_ => (some k_ ≠ (.slice Ao75 t498.length co75 : Value).ownBlock ∧ some k_ ≠ (.slice (some ad507) t503.length co72 : Value).ownBlock)) (n := t493.length) (c := co73) ?_).2.2; exact (by (with_reducible repeat (first | apply Kd.R_alloc | apply Kd.R_drewN | apply Kd.R_drew)); exact (Kd.R_mono (Kd.R_far (p := ⟨gb477, 4, none⟩) (Kd.R_far (p := ⟨gb477, 3, none⟩) (Kd.R_far (p := ⟨gb477, 2, none⟩) (Kd.R_far (p := ⟨gb477, 1, none⟩) (Kd.R_types HO_10.out BK477.out (by decide)) (fun _ hk => hk.2) (.slice Ao73 t493.length co73)) (fun _ hk => hk.2) (.slice Ao75 t498.length co75)) (fun _ hk => hk.2) (.int .i64 (rd t503 0))) (fun _ hk => hk.2) (.int .i64 (rd t503 1))) (fun _ h_ => h_.1)))); (case side4 => exact (Kd.R_reads' HO_10.out).2.1); (case side5 => refine (Kd.R_reads' (e := 2) (base := w.heap.size) (ok := fun k_ => (some k_ ≠ (.slice Ao73 t493.length co73 : Value).ownBlock ∧ some k_ ≠ (.slice (some ad507) t503.length co72 : Value).ownBlock)) (n := t498.length) (c := co75) ?_).2.2; exact (by (with_reducible repeat (first | apply Kd.R_alloc | apply Kd.R_drewN | apply Kd.R_drew)); exact (Kd.R_mono (Kd.R_far (p := ⟨gb477, 4, none⟩) (Kd.R_far (p := ⟨gb477, 3, none⟩) (Kd.R_far (p := ⟨gb477, 2, none⟩) (Kd.R_far (p := ⟨gb477, 1, none⟩) (Kd.R_types HO_12.out BK477.out (by decide)) (fun _ hk => hk.2) (.slice Ao73 t493.length co73)) (fun _ hk => hk.2) (.slice Ao75 t498.length co75)) (fun _ hk => hk.2) (.int .i64 (rd t503 0))) (fun _ hk => hk.2) (.int .i64 (rd t503 1))) (fun _ h_ => h_.1)))); (case side6 => exact (Kd.R_reads' HO_12.out).2.1); rintro e w82 ⟨rfl, hb⟩; refine ⟨_, rfl, ?_⟩; have n0_ := Aside0.mk (Kd.R_below (by (with_reducible repeat (first | apply Kd.R_alloc | apply Kd.R_drewN | apply Kd.R_drew)); exact (Kd.R_mono (Kd.R_far (p := ⟨gb477, 4, none⟩) (Kd.R_far (p := ⟨gb477, 3, none⟩) (Kd.R_far (p := ⟨gb477, 2, none⟩) (Kd.R_far (p := ⟨gb477, 1, none⟩) (Kd.R_types HO_10.out BK477.out (by decide)) (fun _ hk => hk.2) (.slice Ao73 t493.length co73)) (fun _ hk => hk.2) (.slice Ao75 t498.length co75)) (fun _ hk => hk.2) (.int .i64 (rd t503 0))) (fun _ hk => hk.2) (.int .i64 (rd t503 1))) (fun _ h_ => h_.1))) hb); have n1_ := Aside0.mk (Kd.R_below (by (with_reducible repeat (first | apply Kd.R_alloc | apply Kd.R_drewN | apply Kd.R_drew)); exact (Kd.R_mono (Kd.R_far (p := ⟨gb477, 4, none⟩) (Kd.R_far (p := ⟨gb477, 3, none⟩) (Kd.R_far (p := ⟨gb477, 2, none⟩) (Kd.R_far (p := ⟨gb477, 1, none⟩) (Kd.R_types HO_12.out BK477.out (by decide)) (fun _ hk => hk.2) (.slice Ao73 t493.length co73)) (fun _ hk => hk.2) (.slice Ao75 t498.length co75)) (fun _ hk => hk.2) (.int .i64 (rd t503 0))) (fun _ hk => hk.2) (.int .i64 (rd t503 1))) (fun _ h_ => h_.1))) hb); have n2_ := Aside0.mk (Kd.R_below (by (with_reducible repeat (first | apply Kd.R_alloc | apply Kd.R_drewN | apply Kd.R_drew)); exact (Kd.R_mono (Kd.R_far (p := ⟨gb477, 4, none⟩) (Kd.R_far (p := ⟨gb477, 3, none⟩) (Kd.R_far (p := ⟨gb477, 2, none⟩) (Kd.R_far (p := ⟨gb477, 1, none⟩) (Kd.R_types HO_14.out BK477.out (by decide)) (fun _ hk => hk.2) (.slice Ao73 t493.length co73)) (fun _ hk => hk.2) (.slice Ao75 t498.length co75)) (fun _ hk => hk.2) (.int .i64 (rd t503 0))) (fun _ hk => hk.2) (.int .i64 (rd t503 1))) (fun _ h_ => h_.1))) hb); have n3_ := Aside0.mk (Kd.R_below (by (with_reducible repeat (first | apply Kd.R_alloc | apply Kd.R_drewN | apply Kd.R_drew)); exact (Kd.R_mono (Kd.R_far (p := ⟨gb477, 4, none⟩) (Kd.R_far (p := ⟨gb477, 3, none⟩) (Kd.R_far (p := ⟨gb477, 2, none⟩) (Kd.R_far (p := ⟨gb477, 1, none⟩) (Kd.R_types HO_478000.out BK477.out (by decide)) (fun _ hk => hk.2) (.slice Ao73 t493.length co73)) (fun _ hk => hk.2) (.slice Ao75 t498.length co75)) (fun _ hk => hk.2) (.int .i64 (rd t503 0))) (fun _ hk => hk.2) (.int .i64 (rd t503 1))) (fun _ h_ => h_.1))) hb); have n4_ := Aside0.mk (blk_below (g := gb473) (o := .cells #[.slice none 0 0, .slice none 0 0, .slice none 0 0, .int .i64 x474003_1, .int .i64 x474004_1] 31 (0, 0)) (by (with_reducible repeat (first | refine blk_drewN ?_ _ | refine blk_drew ?_ | refine blk_alloc ?_ _)); refine blk_far ?_ NB473_477.out _; (with_reducible repeat (first | refine blk_drewN ?_ _ | refine blk_drew ?_ | refine blk_alloc ?_ _)); refine blk_far ?_ NB473_477.out _; (with_reducible repeat (first | refine blk_drewN ?_ _ | refine blk_drew ?_ | refine blk_alloc ?_ _)); refine blk_far ?_ NB473_477.out _; (with_reducible repeat (first | refine blk_drewN ?_ _ | refine blk_drew ?_ | refine blk_alloc ?_ _)); refine blk_far ?_ NB473_477.out _; (with_reducible repeat (first | refine blk_drewN ?_ _ | refine blk_drew ?_ | refine blk_alloc ?_ _)); exact BK473.out) hb); have n5_ := Aside0.mk (blk_below (g := gb477) (o := .cells #[.slice Ao81 x478000_1.length co81, .slice Ao73 t493.length co73, .slice Ao75 t498.length co75, .int .i64 (rd t503 0), .int .i64 (rd t503 1)] 31 (0, 0)) (by (with_reducible repeat (first | refine blk_drewN ?_ _ | refine blk_drew ?_ | refine blk_alloc ?_ _)); refine blk_put (cs := #[.slice Ao81 x478000_1.length co81, .slice Ao73 t493.length co73, .slice Ao75 t498.length co75, .int .i64 (rd t503 0), .int .i64 0]) ?_ 4 _ rfl; (with_reducible repeat (first | refine blk_drewN ?_ _ | refine blk_drew ?_ | refine blk_alloc ?_ _)); refine blk_put (cs := #[.slice Ao81 x478000_1.length co81, .slice Ao73 t493.length co73, .slice Ao75 t498.length co75, .int .i64 0, .int .i64 0]) ?_ 3 _ rfl; (with_reducible repeat (first | refine blk_drewN ?_ _ | refine blk_drew ?_ | refine blk_alloc ?_ _)); refine blk_put (cs := #[.slice Ao81 x478000_1.length co81, .slice Ao73 t493.length co73, .slice none 0 0, .int .i64 0, .int .i64 0]) ?_ 2 _ rfl; (with_reducible repeat (first | refine blk_drewN ?_ _ | refine blk_drew ?_ | refine blk_alloc ?_ _)); refine blk_put (cs := #[.slice Ao81 x478000_1.length co81, .slice none 0 0, .slice none 0 0, .int .i64 0, .int .i64 0]) ?_ 1 _ rfl; (with_reducible repeat (first | refine blk_drewN ?_ _ | refine blk_drew ?_ | refine blk_alloc ?_ _)); exact BK477.out) hb); have n6_ := Aside0.mk (below_step (by repeat (first | (with_reducible first | exact HB.out | apply below_alloc | apply pw_below_drewN | apply below_drew1 | refine below_set ?_ GE473.out | refine below_set ?_ GE477.out) | exact HB.out)) hb); clear HO_10; clear HO_12; clear HO_14; clear HO_478000; clear BK473; clear BK477; clear HB; have HO_10 := n0_; have HO_12 := n1_; have HO_14 := n2_; have HO_478000 := n3_; have BK473 := n4_; have BK477 := n5_; have HB := n6_; clear n0_ n1_ n2_ n3_ n4_ n5_ n6_; (try clear hb); (try clear hb2); (try clear hk); (try clear hi); have hcz83_0 : w82.cell? ⟨gb473, 0, none⟩ = some (.slice none 0 0) := (blk_cell BK473.out 0).trans rfl; have hcz83_1 : w82.cell? ⟨gb473, 1, none⟩ = some (.slice none 0 0) := (blk_cell BK473.out 1).trans rfl; have hcz83_2 : w82.cell? ⟨gb473, 2, none⟩ = some (.slice none 0 0) := (blk_cell BK473.out 2).trans rfl; have hcz83_3 : w82.cell? ⟨gb473, 3, none⟩ = some (.int .i64 x474003_1) := (blk_cell BK473.out 3).trans rfl; have hcz83_4 : w82.cell? ⟨gb473, 4, none⟩ = some (.int .i64 x474004_1) := (blk_cell BK473.out 4).trans rfl; have hfz83_0 := blk_frozen BK473.out 0; have hfz83_1 := blk_frozen BK473.out 1; have hfz83_2 := blk_frozen BK473.out 2; have hfz83_3 := blk_frozen BK473.out 3; have hfz83_4 := blk_frozen BK473.out 4))
               refine bodyPost_ret (results_ct rfl _ _ gb473 31 #[.slice none 0 0, .slice none 0 0, .slice none 0 0, .int .i64 0, .int .i64 0] (0, 0) _ rfl (by (with_reducible repeat (first | refine blk_drewN ?_ _ | refine blk_drew ?_ | refine blk_alloc ?_ _)); refine blk_put (cs := #[.slice none 0 0, .slice none 0 0, .slice none 0 0, .int .i64 0, .int .i64 x474004_1]) ?_ 4 _ rfl; (with_reducible repeat (first | refine blk_drewN ?_ _ | refine blk_drew ?_ | refine blk_alloc ?_ _)); refine blk_put (cs := #[.slice none 0 0, .slice none 0 0, .slice none 0 0, .int .i64 x474003_1, .int .i64 x474004_1]) ?_ 3 _ rfl; (with_reducible repeat (first | refine blk_drewN ?_ _ | refine blk_drew ?_ | refine blk_alloc ?_ _)); refine blk_put (cs := #[.slice none 0 0, .slice none 0 0, .slice none 0 0, .int .i64 x474003_1, .int .i64 x474004_1]) ?_ 2 _ rfl; (with_reducible repeat (first | refine blk_drewN ?_ _ | refine blk_drew ?_ | refine blk_alloc ?_ _)); refine blk_put (cs := #[.slice none 0 0, .slice none 0 0, .slice none 0 0, .int .i64 x474003_1, .int .i64 x474004_1]) ?_ 1 _ rfl; (with_reducible repeat (first | refine blk_drewN ?_ _ | refine blk_drew ?_ | refine blk_alloc ?_ _)); refine blk_put (cs := #[.slice none 0 0, .slice none 0 0, .slice none 0 0, .int .i64 x474003_1, .int .i64 x474004_1]) ?_ 0 _ rfl; (with_reducible repeat (first | refine blk_drewN ?_ _ | refine blk_drew ?_ | refine blk_alloc ?_ _)); exact BK473.out) Tryd.underlying31 rfl (by kernel_rfl)) rfl ?_
               exact ⟨_, _, _, by first | rfl | (simp [errW_none, errW_some] <;> rfl) | (simp [*, errW_none, errW_some] <;> rfl) | (simp [tz_, *]; done), by first | exact Kd.R_nil _ _ _ _ _ | exact Kd.N_nil _ _ _ _ _ | exact Kd.V_nil _ _ _ _ _ | exact Kd.Q_nil _ _ _ _ _ | exact Kd.S_nil _ _ _ _ _, by first | exact Kd.R_nil _ _ _ _ _ | exact Kd.N_nil _ _ _ _ _ | exact Kd.V_nil _ _ _ _ _ | exact Kd.Q_nil _ _ _ _ _ | exact Kd.S_nil _ _ _ _ _, by first | exact Kd.R_nil _ _ _ _ _ | exact Kd.N_nil _ _ _ _ _ | exact Kd.V_nil _ _ _ _ _ | exact Kd.Q_nil _ _ _ _ _ | exact Kd.S_nil _ _ _ _ _, by repeat (first | (with_reducible first | exact HB.out | apply below_alloc | apply pw_below_drewN | apply below_drew1 | refine below_set ?_ GE473.out | refine below_set ?_ GE477.out) | exact HB.out)⟩
             ·rw [if_neg c54] at H
              exact absurd H (by simp)
            ·rw [if_neg c53] at H
             exact absurd H (by simp)
        ·rw [if_neg c40] at H
         exact absurd H (by simp)
       ·rw [if_neg c38] at H
        exact absurd H (by simp)
      ·rw [if_neg c36] at H
       exact absurd H (by simp)
  ·rw [if_neg c4] at H
   exact absurd H (by simp)
 ·rw [if_neg c3] at H
  have c3b0 : ((t474.length : Int) == 4) = false := beq_eq_false_iff_ne.mpr c3
  have c3b1 : ((t474.length : Int) != 4) = true := bne_iff_ne.mpr c3
  simp only [Option.some.injEq, Prod.mk.injEq] at H
  obtain ⟨rfl, rfl, rfl, rfl, rfl, rfl⟩ := H
  go_enter Tryd.func18, Tryd.ntmps18
  go_wp2_with (first | ((with_reducible refine gate_dst (N := 2) rfl ?_); (try (refine gate_guard (by rfl) ?_; dsimp only)); refine box_event ?hg (N := 2) ?hd (cs := #[.slice none 0 0, .slice none 0 0, .slice none 0 0, .int .i64 0, .int .i64 0]) (t := 31) ?hr ?_; (case hd => rfl); (case hg => rfl); (case hr => first | (go_simp; done) | (go_simp; rfl)); intro gb473 hg w84 hbox hb; have n0_ := Aside0.mk (below_step (by repeat (first | (with_reducible first | exact HB.out | apply below_alloc | apply pw_below_drewN | apply below_drew1) | exact HB.out)) hb); have n1_ := Aside0.mk (hbox); have n2_ := Aside0.mk ((by rw [hg]; exact (below_size (by repeat (first | (with_reducible first | exact HB.out | apply below_alloc | apply pw_below_drewN | apply below_drew1) | exact HB.out))) : w.heap.size ≤ gb473)); have n3_ := Aside0.mk ((by rw [hg]; exact (below_size (by repeat (first | (with_reducible first | exact HB.out | apply below_alloc | apply pw_below_drewN | apply below_drew1) | exact HB.out))) : w.heap.size ≤ gb473)); clear HB; have HB := n0_; have BK473 := n1_; have GW473 := n2_; have GE473 := n3_; clear n0_ n1_ n2_ n3_; clear hb hbox hg) | ((with_reducible refine gate_callee (f := 46) rfl ?_); refine goesL_ (some 17) rfl rfl Tryd.func46 (by kernel_rfl) rfl #[.string a0, .string (⟨#[124]⟩ : ByteArray)] rfl (by (try simp only [List.map_toArray, List.map_cons, List.map_nil]); first | done | rfl) ?_; (with_reducible refine (strings_Split.calls a0 (⟨#[124]⟩ : ByteArray) t474 _ ?side1 A2.out).mono ?_); (case side1 => exact Tab2.on HLT_.out (by repeat (first | (with_reducible first | exact HB.out | apply below_alloc | apply pw_below_drewN | apply below_drew1 | refine below_set ?_ GE473.out) | exact HB.out))); rintro e w85 ⟨v475, rfl, ho0, hb⟩; refine ⟨_, rfl, ?_⟩; have n0_ := Aside0.mk (Kd.R_lower ho0 (below_size (by repeat (first | (with_reducible first | exact HB.out | apply below_alloc | apply pw_below_drewN | apply below_drew1 | refine below_set ?_ GE473.out) | exact HB.out)))); have n1_ := Aside0.mk (blk_below (g := gb473) (o := .cells #[.slice none 0 0, .slice none 0 0, .slice none 0 0, .int .i64 0, .int .i64 0] 31 (0, 0)) (by (with_reducible repeat (first | refine blk_drewN ?_ _ | refine blk_drew ?_ | refine blk_alloc ?_ _)); exact BK473.out) hb); have n2_ := Aside0.mk (below_step (by repeat (first | (with_reducible first | exact HB.out | apply below_alloc | apply pw_below_drewN | apply below_drew1 | refine below_set ?_ GE473.out) | exact HB.out)) hb); clear BK473; clear HB; have HO476 := n0_; have BK473 := n1_; have HB := n2_; clear n0_ n1_ n2_; (try clear hb); (try clear hb2); (try clear hk); (try clear hi); (try clear ho0); obtain ⟨Ao86, co86, eo86⟩ := Kd.R_slice HO476.out; subst eo86; have hcz87_0 : w85.cell? ⟨gb473, 0, none⟩ = some (.slice none 0 0) := (blk_cell BK473.out 0).trans rfl; have hcz87_1 : w85.cell? ⟨gb473, 1, none⟩ = some (.slice none 0 0) := (blk_cell BK473.out 1).trans rfl; have hcz87_2 : w85.cell? ⟨gb473, 2, none⟩ = some (.slice none 0 0) := (blk_cell BK473.out 2).trans rfl; have hcz87_3 : w85.cell? ⟨gb473, 3, none⟩ = some (.int .i64 0) := (blk_cell BK473.out 3).trans rfl; have hcz87_4 : w85.cell? ⟨gb473, 4, none⟩ = some (.int .i64 0) := (blk_cell BK473.out 4).trans rfl; have hfz87_0 := blk_frozen BK473.out 0; have hfz87_1 := blk_frozen BK473.out 1; have hfz87_2 := blk_frozen BK473.out 2; have hfz87_3 := blk_frozen BK473.out 3; have hfz87_4 := blk_frozen BK473.out 4))
  refine bodyPost_ret (results_ct rfl _ _ gb473 31 #[.slice none 0 0, .slice none 0 0, .slice none 0 0, .int .i64 0, .int .i64 0] (0, 0) _ rfl (by (with_reducible repeat (first | refine blk_drewN ?_ _ | refine blk_drew ?_ | refine blk_alloc ?_ _)); refine blk_put (cs := #[.slice none 0 0, .slice none 0 0, .slice none 0 0, .int .i64 0, .int .i64 0]) ?_ 4 _ rfl; (with_reducible repeat (first | refine blk_drewN ?_ _ | refine blk_drew ?_ | refine blk_alloc ?_ _)); refine blk_put (cs := #[.slice none 0 0, .slice none 0 0, .slice none 0 0, .int .i64 0, .int .i64 0]) ?_ 3 _ rfl; (with_reducible repeat (first | refine blk_drewN ?_ _ | refine blk_drew ?_ | refine blk_alloc ?_ _)); refine blk_put (cs := #[.slice none 0 0, .slice none 0 0, .slice none 0 0, .int .i64 0, .int .i64 0]) ?_ 2 _ rfl; (with_reducible repeat (first | refine blk_drewN ?_ _ | refine blk_drew ?_ | refine blk_alloc ?_ _)); refine blk_put (cs := #[.slice none 0 0, .slice none 0 0, .slice none 0 0, .int .i64 0, .int .i64 0]) ?_ 1 _ rfl; (with_reducible repeat (first | refine blk_drewN ?_ _ | refine blk_drew ?_ | refine blk_alloc ?_ _)); refine blk_put (cs := #[.slice none 0 0, .slice none 0 0, .slice none 0 0, .int .i64 0, .int .i64 0]) ?_ 0 _ rfl; (with_reducible repeat (first | refine blk_drewN ?_ _ | refine blk_drew ?_ | refine blk_alloc ?_ _)); exact BK473.out) Tryd.underlying31 rfl (by kernel_rfl)) rfl ?_
  exact ⟨_, _, _, by first | rfl | (simp [errW_none, errW_some] <;> rfl) | (simp [*, errW_none, errW_some] <;> rfl) | (simp [tz_, *]; done), by first | exact Kd.R_nil _ _ _ _ _ | exact Kd.N_nil _ _ _ _ _ | exact Kd.V_nil _ _ _ _ _ | exact Kd.Q_nil _ _ _ _ _ | exact Kd.S_nil _ _ _ _ _, by first | exact Kd.R_nil _ _ _ _ _ | exact Kd.N_nil _ _ _ _ _ | exact Kd.V_nil _ _ _ _ _ | exact Kd.Q_nil _ _ _ _ _ | exact Kd.S_nil _ _ _ _ _, by first | exact Kd.R_nil _ _ _ _ _ | exact Kd.N_nil _ _ _ _ _ | exact Kd.V_nil _ _ _ _ _ | exact Kd.Q_nil _ _ _ _ _ | exact Kd.S_nil _ _ _ _ _, by repeat (first | (with_reducible first | exact HB.out | apply below_alloc | apply pw_below_drewN | apply below_drew1 | refine below_set ?_ GE473.out) | exact HB.out)⟩


def laws_heldCutterS.l0 : Nat → List (S77) → Int → Int → Option (Int)
 | 0, _, _, _ => none
 | k + 1, x0, x1, x5 => if x5 < (x0.length : Int) then (if 0 ≤ x5 then (if ((rd_T77 x0 x5).f0) = x1 then (if ((rd_T77 x0 x5).f1) = (wrap64 (x1 + 1)) then (laws_heldCutterS.l0 k x0 (wrap64 ((wrap64 (x1 + 1)) + 1)) (wrap64 (x5 + 1))) else (some (-1))) else (some (-1))) else (none)) else (some x1)
def laws_heldCutterS.f (k : Nat) (l0 : List (S77)) (a1 : Int) : Option (Int) := laws_heldCutterS.l0 k l0 a1 0
set_option maxHeartbeats 8000000 in
set_option maxRecDepth 100000 in
theorem laws_heldCutterS.calls (k : Nat) (A0 : Option Addr) (c0 : Nat) (l0 : List (S77)) (a1 : Int) (r : Int) (w : World) (hr0 : Kd.C k77 w A0 l0.length l0) (hc0 : l0.length ≤ c0) (h : laws_heldCutterS.f k l0 a1 = some r) :
  Calls Tryd.prog 51 #[.slice A0 l0.length c0, .int .i64 a1] w fun e w' => e = .returned (.int .i64 r) ∧ Drawn0 w w' := by
 have HR0 := Aside0.mk hr0
 have HC0 := Aside0.mk hc0
 clear hr0 hc0
 have H : (laws_heldCutterS.l0 k l0 a1 0) = some r := h
 clear h
 have H' := Aside0.mk H
 clear H
 go_enter Tryd.func51, Tryd.ntmps51
 go_wp2
 go_loopg [1, 5] k (fun kq v1 v5 w' => ∃ (x1_1 : Int) (x5_1 : Int), v1 = .int .i64 x1_1 ∧ v5 = .int .i64 x5_1 ∧ Aside0 (laws_heldCutterS.l0 kq l0 x1_1 x5_1 = some r) ∧ Aside0 (kq ≤ k) ∧ Drawn0 w w')
 case atStart => exact ⟨(a1), (0), (by first | rfl | (simp; done) | (simp [*]; done) | (simp [tz_, *]; done)), (by first | rfl | (simp; done) | (simp [*]; done) | (simp [tz_, *]; done)), H', ⟨Nat.le_refl _⟩, by repeat (first | exact Drawn0.refl _ | apply Drawn0.step)⟩
 case round =>
  clear H'
  try clear p2
  obtain ⟨x1_1, x5_1, rfl, rfl, HA, HK1, ⟨m1, rfl⟩⟩ := hrel
  cases gk with
  | zero => exact absurd HA.out (by simp [laws_heldCutterS.l0])
  | succ k1 =>
   have H := HA.out
   clear HA
   simp only [laws_heldCutterS.l0] at H
   by_cases c3 : x5_1 < (l0.length : Int)
   ·rw [if_pos c3] at H
    have c3b0 : decide (x5_1 < (l0.length : Int)) = true := decide_eq_true c3
    clear c3
    by_cases c4 : 0 ≤ x5_1
    ·rw [if_pos c4] at H
     have c4b0 : decide (0 ≤ x5_1) = true := decide_eq_true c4
     clear c4
     by_cases c5 : ((rd_T77 l0 x5_1).f0) = x1_1
     ·rw [if_pos c5] at H
      have c5b0 : (((rd_T77 l0 x5_1).f0) == x1_1) = true := beq_iff_eq.mpr c5
      have c5b1 : (((rd_T77 l0 x5_1).f0) != x1_1) = false := bne_eq_false_iff_eq.mpr c5
      clear c5
      by_cases c6 : ((rd_T77 l0 x5_1).f1) = (wrap64 (x1_1 + 1))
      ·rw [if_pos c6] at H
       have c6b0 : (((rd_T77 l0 x5_1).f1) == (wrap64 (x1_1 + 1))) = true := beq_iff_eq.mpr c6
       have c6b1 : (((rd_T77 l0 x5_1).f1) != (wrap64 (x1_1 + 1))) = false := bne_eq_false_iff_eq.mpr c6
       clear c6
       have H' := Aside0.mk H
       clear H
       have p520 : 0 ≤ (x5_1 : Int) := of_decide_eq_true (by assumption)
       have q520 : x5_1 < (l0.length : Int) := of_decide_eq_true (by assumption)
       obtain ⟨ad520, e520, hx520_0, hx520_1⟩ := at_T77 HR0.out x5_1 p520 q520
       cases e520
       replace p520 := eq_true p520
       replace q520 := eq_true q520
       have p521 : 0 ≤ (x5_1 : Int) := of_decide_eq_true (by assumption)
       have q521 : x5_1 < (l0.length : Int) := of_decide_eq_true (by assumption)
       obtain ⟨ad521, e521, hx521_0, hx521_1⟩ := at_T77 HR0.out x5_1 p521 q521
       obtain rfl : ad520 = ad521 := (by injection e521)
       replace p521 := eq_true p521
       replace q521 := eq_true q521
       go_wp2
       go_roundg k1
       case measure => have := HK1.out; omega
       case rel => exact ⟨(wrap64 ((wrap64 (x1_1 + 1)) + 1)), (wrap64 (x5_1 + 1)), (by first | rfl | (simp; done) | (simp [*]; done) | (simp [tz_, *]; done)), (by first | rfl | (simp; done) | (simp [*]; done) | (simp [tz_, *]; done)), H', ⟨by have := HK1.out; omega⟩, by repeat (first | exact Drawn0.refl _ | apply Drawn0.step)⟩
      ·rw [if_neg c6] at H
       have c6b0 : (((rd_T77 l0 x5_1).f1) == (wrap64 (x1_1 + 1))) = false := beq_eq_false_iff_ne.mpr c6
       have c6b1 : (((rd_T77 l0 x5_1).f1) != (wrap64 (x1_1 + 1))) = true := bne_iff_ne.mpr c6
       obtain rfl := Option.some.inj H
       have p520 : 0 ≤ (x5_1 : Int) := of_decide_eq_true (by assumption)
       have q520 : x5_1 < (l0.length : Int) := of_decide_eq_true (by assumption)
       obtain ⟨ad520, e520, hx520_0, hx520_1⟩ := at_T77 HR0.out x5_1 p520 q520
       cases e520
       replace p520 := eq_true p520
       replace q520 := eq_true q520
       have p521 : 0 ≤ (x5_1 : Int) := of_decide_eq_true (by assumption)
       have q521 : x5_1 < (l0.length : Int) := of_decide_eq_true (by assumption)
       obtain ⟨ad521, e521, hx521_0, hx521_1⟩ := at_T77 HR0.out x5_1 p521 q521
       obtain rfl : ad520 = ad521 := (by injection e521)
       replace p521 := eq_true p521
       replace q521 := eq_true q521
       go_wp2
       go_ret
       exact ⟨by first | rfl | (simp; done) | (simp [*]; done) | (simp [tz_, *]; done), by repeat (first | exact Drawn0.refl _ | apply Drawn0.step)⟩
     ·rw [if_neg c5] at H
      have c5b0 : (((rd_T77 l0 x5_1).f0) == x1_1) = false := beq_eq_false_iff_ne.mpr c5
      have c5b1 : (((rd_T77 l0 x5_1).f0) != x1_1) = true := bne_iff_ne.mpr c5
      obtain rfl := Option.some.inj H
      have p520 : 0 ≤ (x5_1 : Int) := of_decide_eq_true (by assumption)
      have q520 : x5_1 < (l0.length : Int) := of_decide_eq_true (by assumption)
      obtain ⟨ad520, e520, hx520_0, hx520_1⟩ := at_T77 HR0.out x5_1 p520 q520
      cases e520
      replace p520 := eq_true p520
      replace q520 := eq_true q520
      go_wp2
      go_ret
      exact ⟨by first | rfl | (simp; done) | (simp [*]; done) | (simp [tz_, *]; done), by repeat (first | exact Drawn0.refl _ | apply Drawn0.step)⟩
    ·rw [if_neg c4] at H
     exact absurd H (by simp)
   ·rw [if_neg c3] at H
    have c3b0 : decide (x5_1 < (l0.length : Int)) = false := decide_eq_false c3
    clear c3
    obtain rfl := Option.some.inj H
    go_wp2
    go_ret
    exact ⟨by first | rfl | (simp; done) | (simp [*]; done) | (simp [tz_, *]; done), by repeat (first | exact Drawn0.refl _ | apply Drawn0.step)⟩

def laws_heldHead.f (k : Nat) (l0_0 : List (S77)) (l0_1 : List Int) (l0_2 : List Int) (a0_3 : Int) (a0_4 : Int) (a1 : Int) : Option (Int) := (laws_heldCutterS.f k l0_0 a1).bind fun t524 => (if t524 < 0 then (some (-1)) else ((laws_heldInt64S.f k l0_1 t524).bind fun t525 => (if t525 < 0 then (some (-1)) else ((laws_heldInt64S.f k l0_2 t525).bind fun t526 => (if t526 < 0 then (some (-1)) else (some t526))))))
set_option maxHeartbeats 8000000 in
set_option maxRecDepth 100000 in
theorem laws_heldHead.calls (k : Nat) (A0_0 : Option Addr) (c0_0 : Nat) (l0_0 : List (S77)) (A0_1 : Option Addr) (c0_1 : Nat) (l0_1 : List Int) (A0_2 : Option Addr) (c0_2 : Nat) (l0_2 : List Int) (a0_3 : Int) (a0_4 : Int) (a1 : Int) (r : Int) (w : World) (hr0_0 : Kd.C k77 w A0_0 l0_0.length l0_0) (hc0_0 : l0_0.length ≤ c0_0) (hr0_1 : Kd.C (Kd.int .i64) w A0_1 l0_1.length l0_1) (hc0_1 : l0_1.length ≤ c0_1) (hr0_2 : Kd.C (Kd.int .i64) w A0_2 l0_2.length l0_2) (hc0_2 : l0_2.length ≤ c0_2) (h : laws_heldHead.f k l0_0 l0_1 l0_2 a0_3 a0_4 a1 = some r) :
  Calls Tryd.prog 20 #[.agg #[.slice A0_0 l0_0.length c0_0, .slice A0_1 l0_1.length c0_1, .slice A0_2 l0_2.length c0_2, .int .i64 a0_3, .int .i64 a0_4], .int .i64 a1] w fun e w' => e = .returned (.int .i64 r) ∧ Below w.heap.size w w' := by
 have hu31 := Tryd.underlying31
 have HR0_0 := Aside0.mk hr0_0
 have HC0_0 := Aside0.mk hc0_0
 clear hr0_0 hc0_0
 have HR0_1 := Aside0.mk hr0_1
 have HC0_1 := Aside0.mk hc0_1
 clear hr0_1 hc0_1
 have HR0_2 := Aside0.mk hr0_2
 have HC0_2 := Aside0.mk hc0_2
 clear hr0_2 hc0_2
 have HB := Aside0.mk (Below.refl w.heap.size w)
 have H : ((laws_heldCutterS.f k l0_0 a1).bind fun t524 => (if t524 < 0 then (some (-1)) else ((laws_heldInt64S.f k l0_1 t524).bind fun t525 => (if t525 < 0 then (some (-1)) else ((laws_heldInt64S.f k l0_2 t525).bind fun t526 => (if t526 < 0 then (some (-1)) else (some t526))))))) = some r := h
 clear h
 replace H := Option.bind_eq_some_iff.mp H
 obtain ⟨t524, A30, H⟩ := H
 replace H : (if t524 < 0 then (some (-1)) else ((laws_heldInt64S.f k l0_1 t524).bind fun t525 => (if t525 < 0 then (some (-1)) else ((laws_heldInt64S.f k l0_2 t525).bind fun t526 => (if t526 < 0 then (some (-1)) else (some t526)))))) = some r := H
 have A3 := Aside0.mk A30
 clear A30
 by_cases c4 : t524 < 0
 ·rw [if_pos c4] at H
  have c4b0 : decide (t524 < 0) = true := decide_eq_true c4
  clear c4
  obtain rfl := Option.some.inj H
  go_enter Tryd.func20, Tryd.ntmps20
  go_wp2_with (first | ((with_reducible refine gate_dst (N := 2) rfl ?_); refine box_event ?hg (N := 2) ?hd (cs := #[.slice A0_0 l0_0.length c0_0, .slice A0_1 l0_1.length c0_1, .slice A0_2 l0_2.length c0_2, .int .i64 a0_3, .int .i64 a0_4]) (t := 31) ?hr ?_; (case hd => rfl); (case hg => rfl); (case hr => first | (go_simp; done) | (go_simp; rfl)); intro gb523 hg w5 hbox hb; have n0_ := Aside0.mk (below_step (by repeat (first | (with_reducible first | exact HB.out | apply below_alloc | apply pw_below_drewN | apply below_drew1) | exact HB.out)) hb); have n1_ := Aside0.mk (hbox); have n2_ := Aside0.mk ((by rw [hg]; exact (below_size (by repeat (first | (with_reducible first | exact HB.out | apply below_alloc | apply pw_below_drewN | apply below_drew1) | exact HB.out))) : w.heap.size ≤ gb523)); have n3_ := Aside0.mk ((by rw [hg]; exact (below_size (by repeat (first | (with_reducible first | exact HB.out | apply below_alloc | apply pw_below_drewN | apply below_drew1) | exact HB.out))) : w.heap.size ≤ gb523)); clear HB; have HB := n0_; have BK523 := n1_; have GW523 := n2_; have GE523 := n3_; clear n0_ n1_ n2_ n3_; clear hb hbox hg; have hcz6_0 : w5.cell? ⟨gb523, 0, none⟩ = some (.slice A0_0 l0_0.length c0_0) := (blk_cell BK523.out 0).trans rfl; have hcz6_1 : w5.cell? ⟨gb523, 1, none⟩ = some (.slice A0_1 l0_1.length c0_1) := (blk_cell BK523.out 1).trans rfl; have hcz6_2 : w5.cell? ⟨gb523, 2, none⟩ = some (.slice A0_2 l0_2.length c0_2) := (blk_cell BK523.out 2).trans rfl; have hcz6_3 : w5.cell? ⟨gb523, 3, none⟩ = some (.int .i64 a0_3) := (blk_cell BK523.out 3).trans rfl; have hcz6_4 : w5.cell? ⟨gb523, 4, none⟩ = some (.int .i64 a0_4) := (blk_cell BK523.out 4).trans rfl; have hfz6_0 := blk_frozen BK523.out 0; have hfz6_1 := blk_frozen BK523.out 1; have hfz6_2 := blk_frozen BK523.out 2; have hfz6_3 := blk_frozen BK523.out 3; have hfz6_4 := blk_frozen BK523.out 4) | ((with_reducible refine gate_callee (f := 51) rfl ?_); refine goesL_ (some 8) rfl rfl Tryd.func51 (by kernel_rfl) rfl #[.slice A0_0 l0_0.length c0_0, .int .i64 a1] rfl (by (try simp only [List.map_toArray, List.map_cons, List.map_nil]); first | done | rfl) ?_; (with_reducible refine (laws_heldCutterS.calls k _ _ l0_0 a1 t524 _ ?side1 ?side2 A3.out).mono ?_); (case side1 => repeat (first | exact (Kd.C_below HR0_0.out HB.out) | (with_reducible first | refine Kd.C_alloc ?_ _ | refine Kd.C_drewN ?_ _ | refine Kd.C_drew ?_))); (case side2 => exact HC0_0.out); rintro e w' ⟨rfl, ⟨nd, rfl⟩⟩; refine ⟨_, rfl, ?_⟩))
  go_ret
  exact ⟨by first | rfl | (simp [errW_none, errW_some] <;> rfl) | (simp [*, errW_none, errW_some] <;> rfl) | (simp [tz_, *]; done), by repeat (first | (with_reducible first | exact HB.out | apply below_alloc | apply pw_below_drewN | apply below_drew1 | refine below_set ?_ GE523.out) | exact HB.out)⟩
 ·rw [if_neg c4] at H
  have c4b0 : decide (t524 < 0) = false := decide_eq_false c4
  clear c4
  replace H := Option.bind_eq_some_iff.mp H
  obtain ⟨t525, A70, H⟩ := H
  replace H : (if t525 < 0 then (some (-1)) else ((laws_heldInt64S.f k l0_2 t525).bind fun t526 => (if t526 < 0 then (some (-1)) else (some t526)))) = some r := H
  have A7 := Aside0.mk A70
  clear A70
  by_cases c8 : t525 < 0
  ·rw [if_pos c8] at H
   have c8b0 : decide (t525 < 0) = true := decide_eq_true c8
   clear c8
   obtain rfl := Option.some.inj H
   go_enter Tryd.func20, Tryd.ntmps20
   go_wp2_with (first | ((with_reducible refine gate_dst (N := 2) rfl ?_); refine box_event ?hg (N := 2) ?hd (cs := #[.slice A0_0 l0_0.length c0_0, .slice A0_1 l0_1.length c0_1, .slice A0_2 l0_2.length c0_2, .int .i64 a0_3, .int .i64 a0_4]) (t := 31) ?hr ?_; (case hd => rfl); (case hg => rfl); (case hr => first | (go_simp; done) | (go_simp; rfl)); intro gb523 hg w9 hbox hb; have n0_ := Aside0.mk (below_step (by repeat (first | (with_reducible first | exact HB.out | apply below_alloc | apply pw_below_drewN | apply below_drew1) | exact HB.out)) hb); have n1_ := Aside0.mk (hbox); have n2_ := Aside0.mk ((by rw [hg]; exact (below_size (by repeat (first | (with_reducible first | exact HB.out | apply below_alloc | apply pw_below_drewN | apply below_drew1) | exact HB.out))) : w.heap.size ≤ gb523)); have n3_ := Aside0.mk ((by rw [hg]; exact (below_size (by repeat (first | (with_reducible first | exact HB.out | apply below_alloc | apply pw_below_drewN | apply below_drew1) | exact HB.out))) : w.heap.size ≤ gb523)); clear HB; have HB := n0_; have BK523 := n1_; have GW523 := n2_; have GE523 := n3_; clear n0_ n1_ n2_ n3_; clear hb hbox hg; have hcz10_0 : w9.cell? ⟨gb523, 0, none⟩ = some (.slice A0_0 l0_0.length c0_0) := (blk_cell BK523.out 0).trans rfl; have hcz10_1 : w9.cell? ⟨gb523, 1, none⟩ = some (.slice A0_1 l0_1.length c0_1) := (blk_cell BK523.out 1).trans rfl; have hcz10_2 : w9.cell? ⟨gb523, 2, none⟩ = some (.slice A0_2 l0_2.length c0_2) := (blk_cell BK523.out 2).trans rfl; have hcz10_3 : w9.cell? ⟨gb523, 3, none⟩ = some (.int .i64 a0_3) := (blk_cell BK523.out 3).trans rfl; have hcz10_4 : w9.cell? ⟨gb523, 4, none⟩ = some (.int .i64 a0_4) := (blk_cell BK523.out 4).trans rfl; have hfz10_0 := blk_frozen BK523.out 0; have hfz10_1 := blk_frozen BK523.out 1; have hfz10_2 := blk_frozen BK523.out 2; have hfz10_3 := blk_frozen BK523.out 3; have hfz10_4 := blk_frozen BK523.out 4) | ((with_reducible refine gate_callee (f := 51) rfl ?_); refine goesL_ (some 8) rfl rfl Tryd.func51 (by kernel_rfl) rfl #[.slice A0_0 l0_0.length c0_0, .int .i64 a1] rfl (by (try simp only [List.map_toArray, List.map_cons, List.map_nil]); first | done | rfl) ?_; (with_reducible refine (laws_heldCutterS.calls k _ _ l0_0 a1 t524 _ ?side1 ?side2 A3.out).mono ?_); (case side1 => repeat (first | exact (Kd.C_below HR0_0.out HB.out) | (with_reducible first | refine Kd.C_alloc ?_ _ | refine Kd.C_drewN ?_ _ | refine Kd.C_drew ?_))); (case side2 => exact HC0_0.out); rintro e w' ⟨rfl, ⟨nd, rfl⟩⟩; refine ⟨_, rfl, ?_⟩) | ((with_reducible refine gate_callee (f := 52) rfl ?_); refine goesL_ (some 14) rfl rfl Tryd.func52 (by kernel_rfl) rfl #[.slice A0_1 l0_1.length c0_1, .int .i64 t524] rfl (by (try simp only [List.map_toArray, List.map_cons, List.map_nil]); first | done | rfl) ?_; (with_reducible refine (laws_heldInt64S.calls k _ _ l0_1 t524 t525 _ ?side1 ?side2 A7.out).mono ?_); (case side1 => repeat (first | exact (Kd.C_below HR0_1.out (by repeat (first | (with_reducible first | exact HB.out | apply below_alloc | apply pw_below_drewN | apply below_drew1 | refine below_set ?_ GE523.out) | exact HB.out))) | (with_reducible first | refine Kd.C_alloc ?_ _ | refine Kd.C_drewN ?_ _ | refine Kd.C_drew ?_))); (case side2 => exact HC0_1.out); rintro e w' ⟨rfl, ⟨nd, rfl⟩⟩; refine ⟨_, rfl, ?_⟩))
   go_ret
   exact ⟨by first | rfl | (simp [errW_none, errW_some] <;> rfl) | (simp [*, errW_none, errW_some] <;> rfl) | (simp [tz_, *]; done), by repeat (first | (with_reducible first | exact HB.out | apply below_alloc | apply pw_below_drewN | apply below_drew1 | refine below_set ?_ GE523.out) | exact HB.out)⟩
  ·rw [if_neg c8] at H
   have c8b0 : decide (t525 < 0) = false := decide_eq_false c8
   clear c8
   replace H := Option.bind_eq_some_iff.mp H
   obtain ⟨t526, A110, H⟩ := H
   replace H : (if t526 < 0 then (some (-1)) else (some t526)) = some r := H
   have A11 := Aside0.mk A110
   clear A110
   by_cases c12 : t526 < 0
   ·rw [if_pos c12] at H
    have c12b0 : decide (t526 < 0) = true := decide_eq_true c12
    clear c12
    obtain rfl := Option.some.inj H
    go_enter Tryd.func20, Tryd.ntmps20
    go_wp2_with (first | ((with_reducible refine gate_dst (N := 2) rfl ?_); refine box_event ?hg (N := 2) ?hd (cs := #[.slice A0_0 l0_0.length c0_0, .slice A0_1 l0_1.length c0_1, .slice A0_2 l0_2.length c0_2, .int .i64 a0_3, .int .i64 a0_4]) (t := 31) ?hr ?_; (case hd => rfl); (case hg => rfl); (case hr => first | (go_simp; done) | (go_simp; rfl)); intro gb523 hg w13 hbox hb; have n0_ := Aside0.mk (below_step (by repeat (first | (with_reducible first | exact HB.out | apply below_alloc | apply pw_below_drewN | apply below_drew1) | exact HB.out)) hb); have n1_ := Aside0.mk (hbox); have n2_ := Aside0.mk ((by rw [hg]; exact (below_size (by repeat (first | (with_reducible first | exact HB.out | apply below_alloc | apply pw_below_drewN | apply below_drew1) | exact HB.out))) : w.heap.size ≤ gb523)); have n3_ := Aside0.mk ((by rw [hg]; exact (below_size (by repeat (first | (with_reducible first | exact HB.out | apply below_alloc | apply pw_below_drewN | apply below_drew1) | exact HB.out))) : w.heap.size ≤ gb523)); clear HB; have HB := n0_; have BK523 := n1_; have GW523 := n2_; have GE523 := n3_; clear n0_ n1_ n2_ n3_; clear hb hbox hg; have hcz14_0 : w13.cell? ⟨gb523, 0, none⟩ = some (.slice A0_0 l0_0.length c0_0) := (blk_cell BK523.out 0).trans rfl; have hcz14_1 : w13.cell? ⟨gb523, 1, none⟩ = some (.slice A0_1 l0_1.length c0_1) := (blk_cell BK523.out 1).trans rfl; have hcz14_2 : w13.cell? ⟨gb523, 2, none⟩ = some (.slice A0_2 l0_2.length c0_2) := (blk_cell BK523.out 2).trans rfl; have hcz14_3 : w13.cell? ⟨gb523, 3, none⟩ = some (.int .i64 a0_3) := (blk_cell BK523.out 3).trans rfl; have hcz14_4 : w13.cell? ⟨gb523, 4, none⟩ = some (.int .i64 a0_4) := (blk_cell BK523.out 4).trans rfl; have hfz14_0 := blk_frozen BK523.out 0; have hfz14_1 := blk_frozen BK523.out 1; have hfz14_2 := blk_frozen BK523.out 2; have hfz14_3 := blk_frozen BK523.out 3; have hfz14_4 := blk_frozen BK523.out 4) | ((with_reducible refine gate_callee (f := 51) rfl ?_); refine goesL_ (some 8) rfl rfl Tryd.func51 (by kernel_rfl) rfl #[.slice A0_0 l0_0.length c0_0, .int .i64 a1] rfl (by (try simp only [List.map_toArray, List.map_cons, List.map_nil]); first | done | rfl) ?_; (with_reducible refine (laws_heldCutterS.calls k _ _ l0_0 a1 t524 _ ?side1 ?side2 A3.out).mono ?_); (case side1 => repeat (first | exact (Kd.C_below HR0_0.out HB.out) | (with_reducible first | refine Kd.C_alloc ?_ _ | refine Kd.C_drewN ?_ _ | refine Kd.C_drew ?_))); (case side2 => exact HC0_0.out); rintro e w' ⟨rfl, ⟨nd, rfl⟩⟩; refine ⟨_, rfl, ?_⟩) | ((with_reducible refine gate_callee (f := 52) rfl ?_); refine goesL_ (some 14) rfl rfl Tryd.func52 (by kernel_rfl) rfl #[.slice A0_1 l0_1.length c0_1, .int .i64 t524] rfl (by (try simp only [List.map_toArray, List.map_cons, List.map_nil]); first | done | rfl) ?_; (with_reducible refine (laws_heldInt64S.calls k _ _ l0_1 t524 t525 _ ?side1 ?side2 A7.out).mono ?_); (case side1 => repeat (first | exact (Kd.C_below HR0_1.out (by repeat (first | (with_reducible first | exact HB.out | apply below_alloc | apply pw_below_drewN | apply below_drew1 | refine below_set ?_ GE523.out) | exact HB.out))) | (with_reducible first | refine Kd.C_alloc ?_ _ | refine Kd.C_drewN ?_ _ | refine Kd.C_drew ?_))); (case side2 => exact HC0_1.out); rintro e w' ⟨rfl, ⟨nd, rfl⟩⟩; refine ⟨_, rfl, ?_⟩) | ((with_reducible refine gate_callee (f := 52) rfl ?_); refine goesL_ (some 20) rfl rfl Tryd.func52 (by kernel_rfl) rfl #[.slice A0_2 l0_2.length c0_2, .int .i64 t525] rfl (by (try simp only [List.map_toArray, List.map_cons, List.map_nil]); first | done | rfl) ?_; (with_reducible refine (laws_heldInt64S.calls k _ _ l0_2 t525 t526 _ ?side1 ?side2 A11.out).mono ?_); (case side1 => repeat (first | exact (Kd.C_below HR0_2.out (by repeat (first | (with_reducible first | exact HB.out | apply below_alloc | apply pw_below_drewN | apply below_drew1 | refine below_set ?_ GE523.out) | exact HB.out))) | (with_reducible first | refine Kd.C_alloc ?_ _ | refine Kd.C_drewN ?_ _ | refine Kd.C_drew ?_))); (case side2 => exact HC0_2.out); rintro e w' ⟨rfl, ⟨nd, rfl⟩⟩; refine ⟨_, rfl, ?_⟩))
    go_ret
    exact ⟨by first | rfl | (simp [errW_none, errW_some] <;> rfl) | (simp [*, errW_none, errW_some] <;> rfl) | (simp [tz_, *]; done), by repeat (first | (with_reducible first | exact HB.out | apply below_alloc | apply pw_below_drewN | apply below_drew1 | refine below_set ?_ GE523.out) | exact HB.out)⟩
   ·rw [if_neg c12] at H
    have c12b0 : decide (t526 < 0) = false := decide_eq_false c12
    clear c12
    obtain rfl := Option.some.inj H
    go_enter Tryd.func20, Tryd.ntmps20
    go_wp2_with (first | ((with_reducible refine gate_dst (N := 2) rfl ?_); refine box_event ?hg (N := 2) ?hd (cs := #[.slice A0_0 l0_0.length c0_0, .slice A0_1 l0_1.length c0_1, .slice A0_2 l0_2.length c0_2, .int .i64 a0_3, .int .i64 a0_4]) (t := 31) ?hr ?_; (case hd => rfl); (case hg => rfl); (case hr => first | (go_simp; done) | (go_simp; rfl)); intro gb523 hg w15 hbox hb; have n0_ := Aside0.mk (below_step (by repeat (first | (with_reducible first | exact HB.out | apply below_alloc | apply pw_below_drewN | apply below_drew1) | exact HB.out)) hb); have n1_ := Aside0.mk (hbox); have n2_ := Aside0.mk ((by rw [hg]; exact (below_size (by repeat (first | (with_reducible first | exact HB.out | apply below_alloc | apply pw_below_drewN | apply below_drew1) | exact HB.out))) : w.heap.size ≤ gb523)); have n3_ := Aside0.mk ((by rw [hg]; exact (below_size (by repeat (first | (with_reducible first | exact HB.out | apply below_alloc | apply pw_below_drewN | apply below_drew1) | exact HB.out))) : w.heap.size ≤ gb523)); clear HB; have HB := n0_; have BK523 := n1_; have GW523 := n2_; have GE523 := n3_; clear n0_ n1_ n2_ n3_; clear hb hbox hg; have hcz16_0 : w15.cell? ⟨gb523, 0, none⟩ = some (.slice A0_0 l0_0.length c0_0) := (blk_cell BK523.out 0).trans rfl; have hcz16_1 : w15.cell? ⟨gb523, 1, none⟩ = some (.slice A0_1 l0_1.length c0_1) := (blk_cell BK523.out 1).trans rfl; have hcz16_2 : w15.cell? ⟨gb523, 2, none⟩ = some (.slice A0_2 l0_2.length c0_2) := (blk_cell BK523.out 2).trans rfl; have hcz16_3 : w15.cell? ⟨gb523, 3, none⟩ = some (.int .i64 a0_3) := (blk_cell BK523.out 3).trans rfl; have hcz16_4 : w15.cell? ⟨gb523, 4, none⟩ = some (.int .i64 a0_4) := (blk_cell BK523.out 4).trans rfl; have hfz16_0 := blk_frozen BK523.out 0; have hfz16_1 := blk_frozen BK523.out 1; have hfz16_2 := blk_frozen BK523.out 2; have hfz16_3 := blk_frozen BK523.out 3; have hfz16_4 := blk_frozen BK523.out 4) | ((with_reducible refine gate_callee (f := 51) rfl ?_); refine goesL_ (some 8) rfl rfl Tryd.func51 (by kernel_rfl) rfl #[.slice A0_0 l0_0.length c0_0, .int .i64 a1] rfl (by (try simp only [List.map_toArray, List.map_cons, List.map_nil]); first | done | rfl) ?_; (with_reducible refine (laws_heldCutterS.calls k _ _ l0_0 a1 t524 _ ?side1 ?side2 A3.out).mono ?_); (case side1 => repeat (first | exact (Kd.C_below HR0_0.out HB.out) | (with_reducible first | refine Kd.C_alloc ?_ _ | refine Kd.C_drewN ?_ _ | refine Kd.C_drew ?_))); (case side2 => exact HC0_0.out); rintro e w' ⟨rfl, ⟨nd, rfl⟩⟩; refine ⟨_, rfl, ?_⟩) | ((with_reducible refine gate_callee (f := 52) rfl ?_); refine goesL_ (some 14) rfl rfl Tryd.func52 (by kernel_rfl) rfl #[.slice A0_1 l0_1.length c0_1, .int .i64 t524] rfl (by (try simp only [List.map_toArray, List.map_cons, List.map_nil]); first | done | rfl) ?_; (with_reducible refine (laws_heldInt64S.calls k _ _ l0_1 t524 t525 _ ?side1 ?side2 A7.out).mono ?_); (case side1 => repeat (first | exact (Kd.C_below HR0_1.out (by repeat (first | (with_reducible first | exact HB.out | apply below_alloc | apply pw_below_drewN | apply below_drew1 | refine below_set ?_ GE523.out) | exact HB.out))) | (with_reducible first | refine Kd.C_alloc ?_ _ | refine Kd.C_drewN ?_ _ | refine Kd.C_drew ?_))); (case side2 => exact HC0_1.out); rintro e w' ⟨rfl, ⟨nd, rfl⟩⟩; refine ⟨_, rfl, ?_⟩) | ((with_reducible refine gate_callee (f := 52) rfl ?_); refine goesL_ (some 20) rfl rfl Tryd.func52 (by kernel_rfl) rfl #[.slice A0_2 l0_2.length c0_2, .int .i64 t525] rfl (by (try simp only [List.map_toArray, List.map_cons, List.map_nil]); first | done | rfl) ?_; (with_reducible refine (laws_heldInt64S.calls k _ _ l0_2 t525 t526 _ ?side1 ?side2 A11.out).mono ?_); (case side1 => repeat (first | exact (Kd.C_below HR0_2.out (by repeat (first | (with_reducible first | exact HB.out | apply below_alloc | apply pw_below_drewN | apply below_drew1 | refine below_set ?_ GE523.out) | exact HB.out))) | (with_reducible first | refine Kd.C_alloc ?_ _ | refine Kd.C_drewN ?_ _ | refine Kd.C_drew ?_))); (case side2 => exact HC0_2.out); rintro e w' ⟨rfl, ⟨nd, rfl⟩⟩; refine ⟨_, rfl, ?_⟩))
    go_ret
    exact ⟨by first | rfl | (simp [errW_none, errW_some] <;> rfl) | (simp [*, errW_none, errW_some] <;> rfl) | (simp [tz_, *]; done), by repeat (first | (with_reducible first | exact HB.out | apply below_alloc | apply pw_below_drewN | apply below_drew1 | refine below_set ?_ GE523.out) | exact HB.out)⟩

end Go.Proofs.YtfcadpkhmkjibaaDoor.P
