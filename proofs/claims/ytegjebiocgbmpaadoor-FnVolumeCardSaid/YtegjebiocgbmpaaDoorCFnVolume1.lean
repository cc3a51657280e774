/- What the claim of FnVolume bears, part 1: functions of the program as plain Lean functions, with proofs that the code comes to their answers, and lemmas on them. -/
import Derived.Test.YtegjebiocgbmpaaDoorCFnVolume0
-- Walks of this claim's functions, laid by a program of this session.
namespace Go.Proofs.YtegjebiocgbmpaaDoor.P
open Go.RowKit Go.Proofs.YtegjebiocgbmpaaDoorW.PrintWords Go.Proofs.YtegjebiocgbmpaaDoorW.PrintLast Go.Proofs.YtegjebiocgbmpaaDoorW.PrintMore
attribute [local go_sem] max2_int min2_int max_two min_two max_three min_three max_four min_four   -- for this text's walks alone
set_option linter.unusedVariables false
set_option linter.unusedSimpArgs false

/-! ### laws_b10Long: function 9 -/
def laws_b10Long.f (l0 : List Int) (l1 : List Int) : Option (Bool) := if (l0.length : Int) > 1048576 then (some true) else (some (decide ((l1.length : Int) > 1048576)))
set_option maxHeartbeats 8000000 in
set_option maxRecDepth 100000 in
theorem laws_b10Long.calls (A0 : Option Addr) (c0 : Nat) (l0 : List Int) (A1 : Option Addr) (c1 : Nat) (l1 : List Int) (r : Bool) (w : World) (hr0 : Kd.C (Kd.int .u8) w A0 l0.length l0) (hc0 : l0.length ≤ c0) (hr1 : Kd.C (Kd.int .u8) w A1 l1.length l1) (hc1 : l1.length ≤ c1) (h : laws_b10Long.f l0 l1 = some r) :
    Calls Tryd.prog 9 #[.slice A0 l0.length c0, .slice A1 l1.length c1] w fun e w' => e = .returned (.bool r) ∧ Drawn0 w w' := by
  have HR0 := Aside0.mk hr0
  have HC0 := Aside0.mk hc0
  clear hr0 hc0
  have HR1 := Aside0.mk hr1
  have HC1 := Aside0.mk hc1
  clear hr1 hc1
  have H : (if (l0.length : Int) > 1048576 then (some true) else (some (decide ((l1.length : Int) > 1048576)))) = some r := h
  clear h
  by_cases c3 : (l0.length : Int) > 1048576
  · rw [if_pos c3] at H
    have c3b0 : decide (1048576 < (l0.length : Int)) = true := decide_eq_true c3
    have c3b1 : decide (1048576 < l0.length) = true := decide_eq_true (by omega)
    clear c3
    obtain rfl := Option.some.inj H
    go_enter Tryd.func9, Tryd.ntmps9
    go_wp2
    go_ret
    exact ⟨by first | rfl | (simp; done) | (simp [*]; done) | (simp [Int.tdiv_eq_ediv_of_nonneg, *]; done), by repeat (first | exact Drawn0.refl _ | apply Drawn0.step)⟩
  · rw [if_neg c3] at H
    have c3b0 : decide (1048576 < (l0.length : Int)) = false := decide_eq_false c3
    have c3b1 : decide (1048576 < l0.length) = false := decide_eq_false (by omega)
    clear c3
    obtain rfl := Option.some.inj H
    go_enter Tryd.func9, Tryd.ntmps9
    go_wp2
    go_ret
    exact ⟨by first | rfl | (simp; done) | (simp [*]; done) | (simp [Int.tdiv_eq_ediv_of_nonneg, *]; done), by repeat (first | exact Drawn0.refl _ | apply Drawn0.step)⟩

/-- A state of type 62 at block g of W; what its slices lead to came in by w0. -/
def IsS62 (w0 W : World) (g : Nat) (f0 : List Int) (f1 : Int) (f2 : Int) : Prop := ∃ A0 c0, W.heap[g]? = some (.cells #[.slice A0 f0.length c0, .int .i64 f1, .int .u64 f2] 62 (0, 0)) ∧ w0.heap.size ≤ g ∧ Kd.C (Kd.int .u8) w0 A0 f0.length f0
theorem IsS62.grown {w0 W : World} {g : Nat} {f0 : List Int} {f1 : Int} {f2 : Int} {W1 : World} {row : Option Nat} (h : IsS62 w0 W g f0 f1 f2) (hw : W.grownBy W1 row) (hne : some g ≠ row) : IsS62 w0 W1 g f0 f1 f2 := by
  obtain ⟨A0, c0, hb, hg, hr0⟩ := h
  exact ⟨A0, c0, blk_grown hb hw hne, hg, hr0⟩
theorem IsS62.own_neN {w0 W : World} {g : Nat} {f0 : List Int} {f1 : Int} {f2 : Int} {α : Type} {d : Kd α} {e : Nat} {base : Nat} {ok : Nat → Prop} {v : Value} {xs : List α} (h : IsS62 w0 W g f0 f1 f2) (ho : Kd.N d e W base ok v xs) (ht : e ≠ 62) : some g ≠ v.ownBlock := by
  obtain ⟨A0, c0, hb, hg, hr0⟩ := h
  exact Kd.N_ne ho hb ht
theorem IsS62.fresh {w0 W : World} {g : Nat} {f0 : List Int} {f1 : Int} {f2 : Int} (h : IsS62 w0 W g f0 f1 f2) : ∀ k, W.heap.size ≤ k → k ≠ g := by
  obtain ⟨A0, c0, hb, hg, hr0⟩ := h
  exact Kd.freshB hb
theorem IsS62.kept {w0 W : World} {g : Nat} {f0 : List Int} {f1 : Int} {f2 : Int} {W1 : World} {S : Nat → Prop} (h : IsS62 w0 W g f0 f1 f2) (hk : Kept W W1 S) (hne : ¬ S g) : IsS62 w0 W1 g f0 f1 f2 := by
  obtain ⟨A0, c0, hb, hg, hr0⟩ := h
  exact ⟨A0, c0, blk_kept hb hk hne, hg, hr0⟩
theorem IsS62.below {w0 W : World} {g : Nat} {f0 : List Int} {f1 : Int} {f2 : Int} {W1 : World} (h : IsS62 w0 W g f0 f1 f2) (hw : Below W.heap.size W W1) : IsS62 w0 W1 g f0 f1 f2 := h.grown (grown_of_below hw none) (by simp)
theorem IsS62.alloc {w0 W : World} {g : Nat} {f0 : List Int} {f1 : Int} {f2 : Int} (h : IsS62 w0 W g f0 f1 f2) (o : Obj) : IsS62 w0 (W.alloc o) g f0 f1 f2 := h.below (below_alloc (Below.refl _ _) o)
theorem IsS62.drewN {w0 W : World} {g : Nat} {f0 : List Int} {f1 : Int} {f2 : Int} (h : IsS62 w0 W g f0 f1 f2) (m : Nat) : IsS62 w0 (W.drewN m) g f0 f1 f2 := h
theorem IsS62.drew {w0 W : World} {g : Nat} {f0 : List Int} {f1 : Int} {f2 : Int} (h : IsS62 w0 W g f0 f1 f2) : IsS62 w0 W.drew g f0 f1 f2 := h
theorem IsS62.at_ {w0 W : World} {g : Nat} {f0 : List Int} {f1 : Int} {f2 : Int} {w' : World} {m : Nat} (hq : W.drewN m = w') (h : IsS62 w0 W g f0 f1 f2) : IsS62 w0 w' g f0 f1 f2 := by subst hq; exact IsS62.drewN h m
theorem IsS62.apart {w0 W : World} {g : Nat} {f0 : List Int} {f1 : Int} {f2 : Int} {α : Type} {d : Kd α} {e : Nat} {base : Nat} {ok : Nat → Prop} {v : Value} {xs : List α} (h : IsS62 w0 W g f0 f1 f2) (ho : d.R e W base ok v xs) (ht : ∀ q, q ∈ e :: d.E → q ≠ 62) : d.R e W base (fun k => ok k ∧ k ≠ g) v xs := by
  obtain ⟨A0, c0, hb, hg, hr0⟩ := h
  exact Kd.R_types ho hb ht
theorem IsS62.own_ne {w0 W : World} {g : Nat} {f0 : List Int} {f1 : Int} {f2 : Int} {α : Type} {d : Kd α} {e : Nat} {base : Nat} {ok : Nat → Prop} {v : Value} {xs : List α} (h : IsS62 w0 W g f0 f1 f2) (ho : d.R e W base ok v xs) (ht : e ≠ 62) : some g ≠ v.ownBlock := by
  obtain ⟨A0, c0, hb, hg, hr0⟩ := h
  exact Kd.R_ne ho hb ht
theorem IsS62.apartQ {w0 W : World} {g : Nat} {f0 : List Int} {f1 : Int} {f2 : Int} {α : Type} {d : Kd α} {e : Nat} {base : Nat} {ok : Nat → Prop} {v : Value} {xs : List α} (h : IsS62 w0 W g f0 f1 f2) (ho : d.Q e W base ok v xs) (ht : ∀ q, q ∈ e :: d.E → q ≠ 62) : d.Q e W base (fun k => ok k ∧ k ≠ g) v xs := by
  obtain ⟨A0, c0, hb, hg, hr0⟩ := h
  exact Kd.Q_types ho hb ht
theorem IsS62.own_neQ {w0 W : World} {g : Nat} {f0 : List Int} {f1 : Int} {f2 : Int} {α : Type} {d : Kd α} {e : Nat} {base : Nat} {ok : Nat → Prop} {v : Value} {xs : List α} (h : IsS62 w0 W g f0 f1 f2) (ho : d.Q e W base ok v xs) (ht : e ≠ 62) : some g ≠ v.ownBlock := by
  obtain ⟨A0, c0, hb, hg, hr0⟩ := h
  exact Kd.Q_ne ho hb ht
theorem IsS62.apartS {w0 W : World} {g : Nat} {f0 : List Int} {f1 : Int} {f2 : Int} {α : Type} {d : Kd α} {e : Nat} {base : Nat} {ok : Nat → Prop} {v : Value} {xs : List α} (h : IsS62 w0 W g f0 f1 f2) (ho : d.S e W base ok v xs) (ht : ∀ q, q ∈ e :: d.E → q ≠ 62) : d.S e W base (fun k => ok k ∧ k ≠ g) v xs := by
  obtain ⟨A0, c0, hb, hg, hr0⟩ := h
  exact Kd.S_types ho hb ht
theorem IsS62.own_neS {w0 W : World} {g : Nat} {f0 : List Int} {f1 : Int} {f2 : Int} {α : Type} {d : Kd α} {e : Nat} {base : Nat} {ok : Nat → Prop} {v : Value} {xs : List α} (h : IsS62 w0 W g f0 f1 f2) (ho : d.S e W base ok v xs) (ht : e ≠ 62) : some g ≠ v.ownBlock := by
  obtain ⟨A0, c0, hb, hg, hr0⟩ := h
  exact Kd.S_ne ho hb ht
theorem IsS62.lt {w0 W : World} {g : Nat} {f0 : List Int} {f1 : Int} {f2 : Int} (h : IsS62 w0 W g f0 f1 f2) : g < W.heap.size := by
  obtain ⟨A0, c0, hb, hg, hr0⟩ := h
  exact blk_lt hb
theorem IsS62.ge {w0 W : World} {g : Nat} {f0 : List Int} {f1 : Int} {f2 : Int} (h : IsS62 w0 W g f0 f1 f2) : w0.heap.size ≤ g := by
  obtain ⟨A0, c0, hb, hg, hr0⟩ := h
  exact hg
theorem IsS62.ne_blk {w0 W : World} {g : Nat} {f0 : List Int} {f1 : Int} {f2 : Int} {a : Nat} {cs : Array Value} {t : TypeId} {fr : Nat × Nat} (h : IsS62 w0 W g f0 f1 f2) (hb2 : W.heap[a]? = some (.cells cs t fr)) (ht : t ≠ 62) : g ≠ a := by
  obtain ⟨A0, c0, hb, hg, hr0⟩ := h
  rintro rfl
  rw [hb] at hb2
  injection hb2 with hb2
  injection hb2 with _ ht2
  exact ht ht2.symm
theorem IsS62.far {w0 W : World} {g : Nat} {f0 : List Int} {f1 : Int} {f2 : Int} {p : Addr} (h : IsS62 w0 W g f0 f1 f2) (hne : g ≠ p.block) (u : Value) : IsS62 w0 (W.setCell p u) g f0 f1 f2 := by
  obtain ⟨A0, c0, hb, hg, hr0⟩ := h
  exact ⟨A0, c0, blk_far hb hne u, hg, hr0⟩
theorem cellS62_0 {W : World} {g : Nat} {A0 : Option Addr} {c0 : Nat} {f0 : List Int} {f1 : Int} {f2 : Int} (h : W.heap[g]? = some (.cells #[.slice A0 f0.length c0, .int .i64 f1, .int .u64 f2] 62 (0, 0))) : W.cell? ⟨g, 0, none⟩ = some (.slice A0 f0.length c0) := (blk_cell h 0).trans rfl
theorem cellS62_1 {W : World} {g : Nat} {A0 : Option Addr} {c0 : Nat} {f0 : List Int} {f1 : Int} {f2 : Int} (h : W.heap[g]? = some (.cells #[.slice A0 f0.length c0, .int .i64 f1, .int .u64 f2] 62 (0, 0))) : W.cell? ⟨g, 1, none⟩ = some (.int .i64 f1) := (blk_cell h 1).trans rfl
theorem IsS62.set_1 {w0 W : World} {g : Nat} {f0 : List Int} {f1 : Int} {f2 : Int} (h : IsS62 w0 W g f0 f1 f2) (x : Int) : IsS62 w0 (W.setCell ⟨g, 1, none⟩ (.int .i64 x)) g f0 x f2 := by
  obtain ⟨A0, c0, hb, hg, hr0⟩ := h
  exact ⟨A0, c0, by simpa using blk_set hb 1 (.int .i64 x), hg, hr0⟩
theorem cellS62_2 {W : World} {g : Nat} {A0 : Option Addr} {c0 : Nat} {f0 : List Int} {f1 : Int} {f2 : Int} (h : W.heap[g]? = some (.cells #[.slice A0 f0.length c0, .int .i64 f1, .int .u64 f2] 62 (0, 0))) : W.cell? ⟨g, 2, none⟩ = some (.int .u64 f2) := (blk_cell h 2).trans rfl
theorem IsS62.set_2 {w0 W : World} {g : Nat} {f0 : List Int} {f1 : Int} {f2 : Int} (h : IsS62 w0 W g f0 f1 f2) (x : Int) : IsS62 w0 (W.setCell ⟨g, 2, none⟩ (.int .u64 x)) g f0 f1 x := by
  obtain ⟨A0, c0, hb, hg, hr0⟩ := h
  exact ⟨A0, c0, by simpa using blk_set hb 2 (.int .u64 x), hg, hr0⟩
theorem IsS62.new (w0 W : World) (A0 : Option Addr) (c0 : Nat) (f0 : List Int) (f1 : Int) (f2 : Int) (hB : Below w0.heap.size w0 W) (hr0 : Kd.C (Kd.int .u8) w0 A0 f0.length f0) : IsS62 w0 (W.alloc (.cells #[.slice A0 f0.length c0, .int .i64 f1, .int .u64 f2] 62)) W.heap.size f0 f1 f2 := ⟨A0, c0, by simpa using heap_alloc_new W _, hB.size, hr0⟩

/-! ### spec_l00From: function 21 -/
def spec_l00From.f (l0 : List Int) : Option (List Int × Int × Int) := some (l0, 0, 0)
set_option maxHeartbeats 8000000 in
set_option maxRecDepth 100000 in
theorem spec_l00From.calls (A0 : Option Addr) (c0 : Nat) (l0 : List Int) (r1 : List Int) (r2 : Int) (r3 : Int) (w0 w : World) (hB : Below w0.heap.size w0 w) (hr0 : Kd.C (Kd.int .u8) w0 A0 l0.length l0) (hc0 : l0.length ≤ c0) (h : spec_l00From.f l0 = some (r1, r2, r3)) :
    Calls Tryd.prog 21 #[.slice A0 l0.length c0] w fun e w' => ∃ g_ : Nat, e = .returned (.pointer (some ⟨g_, 0, none⟩)) ∧ IsS62 w0 w' g_ r1 r2 r3 ∧ Below w0.heap.size w0 w' ∧ Below w.heap.size w w' := by
  have hu62 := Tryd.underlying62
  have HR0 := Aside0.mk hr0
  have HC0 := Aside0.mk hc0
  clear hr0 hc0
  have HBW := Aside0.mk (Below.refl w.heap.size w)
  have HW0 := Aside0.mk hB.size
  have HB := Aside0.mk hB
  clear hB
  have H : (some (l0, 0, 0)) = some (r1, r2, r3) := h
  clear h
  simp only [Option.some.injEq, Prod.mk.injEq] at H
  obtain ⟨rfl, rfl, rfl⟩ := H
  go_enter Tryd.func21, Tryd.ntmps21
  go_wp2_with (first | ((with_reducible refine gate_dst (N := 5) rfl ?_); refine box_event ?hg (N := 5) ?hd (cs := #[.slice A0 l0.length c0, .int .i64 0, .int .u64 0]) (t := 62) ?hr ?_; (case hd => rfl); (case hg => rfl); (case hr => first | (go_simp; done) | (go_simp; rfl)); intro gb150 hg w2 hbox hb; have n0_ := Aside0.mk (below_step HBW.out hb); have n1_ := Aside0.mk (below_step (by repeat (first | (with_reducible first | exact HB.out | apply below_alloc | apply pw_below_drewN | apply below_drew1) | exact HB.out)) hb); have n2_ := Aside0.mk (hbox); have n3_ := Aside0.mk ((by rw [hg]; exact (below_size (by repeat (first | (with_reducible first | exact HBW.out | apply below_alloc | apply pw_below_drewN | apply below_drew1) | exact HBW.out))) : w.heap.size ≤ gb150)); have n4_ := Aside0.mk ((Nat.le_trans HW0.out (by rw [hg]; exact (below_size (by repeat (first | (with_reducible first | exact HBW.out | apply below_alloc | apply pw_below_drewN | apply below_drew1) | exact HBW.out))) : w.heap.size ≤ gb150) : w0.heap.size ≤ gb150)); clear HBW; clear HB; have HBW := n0_; have HB := n1_; have BK150 := n2_; have GW150 := n3_; have GE150 := n4_; clear n0_ n1_ n2_ n3_ n4_; clear hb hbox hg))
  go_ret
  exact ⟨_, rfl, (show IsS62 w0 _ gb150 l0 0 0 from ⟨_, _, by (with_reducible repeat (first | refine blk_drewN ?_ _ | refine blk_drew ?_ | refine blk_alloc ?_ _)); exact BK150.out, GE150.out, HR0.out⟩), by repeat (first | (with_reducible first | exact HB.out | apply below_alloc | apply pw_below_drewN | apply below_drew1 | refine below_set ?_ GE150.out) | exact HB.out), by repeat (first | (with_reducible first | exact HBW.out | apply below_alloc | apply pw_below_drewN | apply below_drew1 | refine below_set ?_ GW150.out) | exact HBW.out)⟩

/-! ### spec_l00Src_next: function 34 -/
def spec_l00Src_next.f (s0_0 : List Int) (s0_1 : Int) (s0_2 : Int) : Option (Int × Int × Int) := if s0_1 < (s0_0.length : Int) then (if 0 ≤ s0_1 then (if (wrap64 (s0_1 + 1)) ≤ (s0_0.length : Int) then (some (wrap64 (rd s0_0 s0_1), wrap64 (s0_1 + 1), IntKind.u64.wrap ((IntKind.u64.wrap ((IntKind.u64.wrap (s0_2 * 6364136223846793005)) + (IntKind.u64.wrap (wrap64 (rd s0_0 s0_1))))) + 1442695040888963407))) else (some (wrap64 (Go.bits .and .u64 ((IntKind.u64.wrap ((IntKind.u64.wrap ((IntKind.u64.wrap (s0_2 * 6364136223846793005)) + (IntKind.u64.wrap (wrap64 (rd s0_0 s0_1))))) + 1442695040888963407)) / 1099511627776) 255), wrap64 (s0_1 + 1), IntKind.u64.wrap ((IntKind.u64.wrap ((IntKind.u64.wrap (s0_2 * 6364136223846793005)) + (IntKind.u64.wrap (wrap64 (rd s0_0 s0_1))))) + 1442695040888963407)))) else (none)) else (if (wrap64 (s0_1 + 1)) ≤ (s0_0.length : Int) then (some (0, wrap64 (s0_1 + 1), IntKind.u64.wrap ((IntKind.u64.wrap ((IntKind.u64.wrap (s0_2 * 6364136223846793005)) + 0)) + 1442695040888963407))) else (some (wrap64 (Go.bits .and .u64 ((IntKind.u64.wrap ((IntKind.u64.wrap ((IntKind.u64.wrap (s0_2 * 6364136223846793005)) + 0)) + 1442695040888963407)) / 1099511627776) 255), wrap64 (s0_1 + 1), IntKind.u64.wrap ((IntKind.u64.wrap ((IntKind.u64.wrap (s0_2 * 6364136223846793005)) + 0)) + 1442695040888963407))))
set_option maxHeartbeats 8000000 in
set_option maxRecDepth 100000 in
theorem spec_l00Src_next.calls (g : Nat) (s0_0 : List Int) (s0_1 : Int) (s0_2 : Int) (r1 : Int) (r2 : Int) (r3 : Int) (w0 w : World) (hI : IsS62 w0 w g s0_0 s0_1 s0_2) (hB : Below w0.heap.size w0 w) (h : spec_l00Src_next.f s0_0 s0_1 s0_2 = some (r1, r2, r3)) :
    Calls Tryd.prog 34 #[.pointer (some ⟨g, 0, none⟩)] w fun e w' => e = .returned (.int .i64 r1) ∧ IsS62 w0 w' g s0_0 r2 r3 ∧ Below w0.heap.size w0 w' ∧ KeepBut w w' g none := by
  have HI0 := Aside0.mk hI
  have HK := Aside0.mk (KeepBut.refl w g none)
  have HL := Aside0.mk hB.size
  clear hI
  have HW0 := Aside0.mk hB.size
  have HB := Aside0.mk hB
  clear hB
  have H : (if s0_1 < (s0_0.length : Int) then (if 0 ≤ s0_1 then (if (wrap64 (s0_1 + 1)) ≤ (s0_0.length : Int) then (some (wrap64 (rd s0_0 s0_1), wrap64 (s0_1 + 1), IntKind.u64.wrap ((IntKind.u64.wrap ((IntKind.u64.wrap (s0_2 * 6364136223846793005)) + (IntKind.u64.wrap (wrap64 (rd s0_0 s0_1))))) + 1442695040888963407))) else (some (wrap64 (Go.bits .and .u64 ((IntKind.u64.wrap ((IntKind.u64.wrap ((IntKind.u64.wrap (s0_2 * 6364136223846793005)) + (IntKind.u64.wrap (wrap64 (rd s0_0 s0_1))))) + 1442695040888963407)) / 1099511627776) 255), wrap64 (s0_1 + 1), IntKind.u64.wrap ((IntKind.u64.wrap ((IntKind.u64.wrap (s0_2 * 6364136223846793005)) + (IntKind.u64.wrap (wrap64 (rd s0_0 s0_1))))) + 1442695040888963407)))) else (none)) else (if (wrap64 (s0_1 + 1)) ≤ (s0_0.length : Int) then (some (0, wrap64 (s0_1 + 1), IntKind.u64.wrap ((IntKind.u64.wrap ((IntKind.u64.wrap (s0_2 * 6364136223846793005)) + 0)) + 1442695040888963407))) else (some (wrap64 (Go.bits .and .u64 ((IntKind.u64.wrap ((IntKind.u64.wrap ((IntKind.u64.wrap (s0_2 * 6364136223846793005)) + 0)) + 1442695040888963407)) / 1099511627776) 255), wrap64 (s0_1 + 1), IntKind.u64.wrap ((IntKind.u64.wrap ((IntKind.u64.wrap (s0_2 * 6364136223846793005)) + 0)) + 1442695040888963407))))) = some (r1, r2, r3) := h
  clear h
  by_cases c2 : s0_1 < (s0_0.length : Int)
  · rw [if_pos c2] at H
    have c2b0 : decide (s0_1 < (s0_0.length : Int)) = true := decide_eq_true c2
    clear c2
    by_cases c3 : 0 ≤ s0_1
    · rw [if_pos c3] at H
      have c3b0 : decide (0 ≤ s0_1) = true := decide_eq_true c3
      clear c3
      by_cases c4 : (wrap64 (s0_1 + 1)) ≤ (s0_0.length : Int)
      · rw [if_pos c4] at H
        have c4b0 : decide ((wrap64 (s0_1 + 1)) ≤ (s0_0.length : Int)) = true := decide_eq_true c4
        clear c4
        simp only [Option.some.injEq, Prod.mk.injEq] at H
        obtain ⟨rfl, rfl, rfl⟩ := H
        obtain ⟨ASz5_0, cSz5_0, HGz5, hgz5, HSz5_0⟩ := HI0.out
        have hcz5_0 := cellS62_0 HGz5
        have hcz5_1 := cellS62_1 HGz5
        have hcz5_2 := cellS62_2 HGz5
        have hfz5_1 := blk_frozen HGz5 1
        have hfz5_2 := blk_frozen HGz5 2
        clear HGz5 hgz5
        have p151 : 0 ≤ (s0_1 : Int) := of_decide_eq_true (by first | (with_reducible assumption) | assumption)
        have q151 : s0_1 < (s0_0.length : Int) := of_decide_eq_true (by first | (with_reducible assumption) | assumption)
        obtain ⟨ad151, e151, hx151_0⟩ := Kd.at_int HSz5_0 s0_1 p151 q151
        cases e151
        replace hx151_0 := pw_cell_below HB.out hx151_0
        replace p151 := eq_true p151
        replace q151 := eq_true q151
        go_enter Tryd.func34, Tryd.ntmps34
        go_wp2
        repeat (go_quiet (fail); try go_wp2)
        go_ret
        exact ⟨by first | rfl | (simp [errW_none, errW_some] <;> rfl) | (simp [*, errW_none, errW_some] <;> rfl) | (simp [Int.tdiv_eq_ediv_of_nonneg, *]; done), by (try simp only [Int.add_zero]); repeat (first | (with_reducible first | exact HI0.out | apply IsS62.alloc | apply IsS62.drewN | apply IsS62.drew | apply IsS62.set_1 | apply IsS62.set_2) | exact HI0.out), by repeat (first | (with_reducible first | exact HB.out | apply below_alloc | apply pw_below_drewN | apply below_drew1 | refine below_set ?_ (IsS62.ge HI0.out)) | exact HB.out), by repeat (first | (with_reducible first | exact HK.out | apply KeepBut.set_ | apply keep_drewN | apply keep_drew | apply keep_alloc) | exact HK.out)⟩
      · rw [if_neg c4] at H
        have c4b0 : decide ((wrap64 (s0_1 + 1)) ≤ (s0_0.length : Int)) = false := decide_eq_false c4
        clear c4
        simp only [Option.some.injEq, Prod.mk.injEq] at H
        obtain ⟨rfl, rfl, rfl⟩ := H
        obtain ⟨ASz6_0, cSz6_0, HGz6, hgz6, HSz6_0⟩ := HI0.out
        have hcz6_0 := cellS62_0 HGz6
        have hcz6_1 := cellS62_1 HGz6
        have hcz6_2 := cellS62_2 HGz6
        have hfz6_1 := blk_frozen HGz6 1
        have hfz6_2 := blk_frozen HGz6 2
        clear HGz6 hgz6
        have p151 : 0 ≤ (s0_1 : Int) := of_decide_eq_true (by first | (with_reducible assumption) | assumption)
        have q151 : s0_1 < (s0_0.length : Int) := of_decide_eq_true (by first | (with_reducible assumption) | assumption)
        obtain ⟨ad151, e151, hx151_0⟩ := Kd.at_int HSz6_0 s0_1 p151 q151
        cases e151
        replace hx151_0 := pw_cell_below HB.out hx151_0
        replace p151 := eq_true p151
        replace q151 := eq_true q151
        go_enter Tryd.func34, Tryd.ntmps34
        go_wp2
        repeat (go_quiet (fail); try go_wp2)
        go_ret
        exact ⟨by first | rfl | (simp [errW_none, errW_some] <;> rfl) | (simp [*, errW_none, errW_some] <;> rfl) | (simp [Int.tdiv_eq_ediv_of_nonneg, *]; done), by (try simp only [Int.add_zero]); repeat (first | (with_reducible first | exact HI0.out | apply IsS62.alloc | apply IsS62.drewN | apply IsS62.drew | apply IsS62.set_1 | apply IsS62.set_2) | exact HI0.out), by repeat (first | (with_reducible first | exact HB.out | apply below_alloc | apply pw_below_drewN | apply below_drew1 | refine below_set ?_ (IsS62.ge HI0.out)) | exact HB.out), by repeat (first | (with_reducible first | exact HK.out | apply KeepBut.set_ | apply keep_drewN | apply keep_drew | apply keep_alloc) | exact HK.out)⟩
    · rw [if_neg c3] at H
      exact absurd H (by simp)
  · rw [if_neg c2] at H
    have c2b0 : decide (s0_1 < (s0_0.length : Int)) = false := decide_eq_false c2
    clear c2
    by_cases c7 : (wrap64 (s0_1 + 1)) ≤ (s0_0.length : Int)
    · rw [if_pos c7] at H
      have c7b0 : decide ((wrap64 (s0_1 + 1)) ≤ (s0_0.length : Int)) = true := decide_eq_true c7
      clear c7
      simp only [Option.some.injEq, Prod.mk.injEq] at H
      obtain ⟨rfl, rfl, rfl⟩ := H
      obtain ⟨ASz8_0, cSz8_0, HGz8, hgz8, HSz8_0⟩ := HI0.out
      have hcz8_0 := cellS62_0 HGz8
      have hcz8_1 := cellS62_1 HGz8
      have hcz8_2 := cellS62_2 HGz8
      have hfz8_1 := blk_frozen HGz8 1
      have hfz8_2 := blk_frozen HGz8 2
      clear HGz8 hgz8
      go_enter Tryd.func34, Tryd.ntmps34
      go_wp2
      repeat (go_quiet (fail); try go_wp2)
      go_ret
      exact ⟨by first | rfl | (simp [errW_none, errW_some] <;> rfl) | (simp [*, errW_none, errW_some] <;> rfl) | (simp [Int.tdiv_eq_ediv_of_nonneg, *]; done), by (try simp only [Int.add_zero]); repeat (first | (with_reducible first | exact HI0.out | apply IsS62.alloc | apply IsS62.drewN | apply IsS62.drew | apply IsS62.set_1 | apply IsS62.set_2) | exact HI0.out), by repeat (first | (with_reducible first | exact HB.out | apply below_alloc | apply pw_below_drewN | apply below_drew1 | refine below_set ?_ (IsS62.ge HI0.out)) | exact HB.out), by repeat (first | (with_reducible first | exact HK.out | apply KeepBut.set_ | apply keep_drewN | apply keep_drew | apply keep_alloc) | exact HK.out)⟩
    · rw [if_neg c7] at H
      have c7b0 : decide ((wrap64 (s0_1 + 1)) ≤ (s0_0.length : Int)) = false := decide_eq_false c7
      clear c7
      simp only [Option.some.injEq, Prod.mk.injEq] at H
      obtain ⟨rfl, rfl, rfl⟩ := H
      obtain ⟨ASz9_0, cSz9_0, HGz9, hgz9, HSz9_0⟩ := HI0.out
      have hcz9_0 := cellS62_0 HGz9
      have hcz9_1 := cellS62_1 HGz9
      have hcz9_2 := cellS62_2 HGz9
      have hfz9_1 := blk_frozen HGz9 1
      have hfz9_2 := blk_frozen HGz9 2
      clear HGz9 hgz9
      go_enter Tryd.func34, Tryd.ntmps34
      go_wp2
      repeat (go_quiet (fail); try go_wp2)
      go_ret
      exact ⟨by first | rfl | (simp [errW_none, errW_some] <;> rfl) | (simp [*, errW_none, errW_some] <;> rfl) | (simp [Int.tdiv_eq_ediv_of_nonneg, *]; done), by (try simp only [Int.add_zero]); repeat (first | (with_reducible first | exact HI0.out | apply IsS62.alloc | apply IsS62.drewN | apply IsS62.drew | apply IsS62.set_1 | apply IsS62.set_2) | exact HI0.out), by repeat (first | (with_reducible first | exact HB.out | apply below_alloc | apply pw_below_drewN | apply below_drew1 | refine below_set ?_ (IsS62.ge HI0.out)) | exact HB.out), by repeat (first | (with_reducible first | exact HK.out | apply KeepBut.set_ | apply keep_drewN | apply keep_drew | apply keep_alloc) | exact HK.out)⟩

/-! ### spec_l00Src_pick: function 22 -/
def spec_l00Src_pick.f (s0_0 : List Int) (s0_1 : Int) (s0_2 : Int) (a1 : Int) : Option (Int × Int × Int) := if a1 ≤ 1 then (some (0, s0_1, s0_2)) else ((spec_l00Src_next.f s0_0 s0_1 s0_2).bind fun bt152 => (if a1 > 200 then ((spec_l00Src_next.f s0_0 bt152.2.1 bt152.2.2).bind fun bt155 => (if a1 = 0 then (none) else (some (Int.tmod (wrap64 ((wrap64 (bt152.1 * 256)) + bt155.1)) a1, bt155.2.1, bt155.2.2)))) else (if a1 = 0 then (none) else (some (Int.tmod bt152.1 a1, bt152.2.1, bt152.2.2)))))
set_option maxHeartbeats 8000000 in
set_option maxRecDepth 100000 in
theorem spec_l00Src_pick.calls (g : Nat) (s0_0 : List Int) (s0_1 : Int) (s0_2 : Int) (a1 : Int) (r1 : Int) (r2 : Int) (r3 : Int) (w0 w : World) (hI : IsS62 w0 w g s0_0 s0_1 s0_2) (hB : Below w0.heap.size w0 w) (h : spec_l00Src_pick.f s0_0 s0_1 s0_2 a1 = some (r1, r2, r3)) :
    Calls Tryd.prog 22 #[.pointer (some ⟨g, 0, none⟩), .int .i64 a1] w fun e w' => e = .returned (.int .i64 r1) ∧ IsS62 w0 w' g s0_0 r2 r3 ∧ Below w0.heap.size w0 w' ∧ KeepBut w w' g none := by
  have HI0 := Aside0.mk hI
  have HK := Aside0.mk (KeepBut.refl w g none)
  have HL := Aside0.mk hB.size
  clear hI
  have HW0 := Aside0.mk hB.size
  have HB := Aside0.mk hB
  clear hB
  have H : (if a1 ≤ 1 then (some (0, s0_1, s0_2)) else ((spec_l00Src_next.f s0_0 s0_1 s0_2).bind fun bt152 => (if a1 > 200 then ((spec_l00Src_next.f s0_0 bt152.2.1 bt152.2.2).bind fun bt155 => (if a1 = 0 then (none) else (some (Int.tmod (wrap64 ((wrap64 (bt152.1 * 256)) + bt155.1)) a1, bt155.2.1, bt155.2.2)))) else (if a1 = 0 then (none) else (some (Int.tmod bt152.1 a1, bt152.2.1, bt152.2.2)))))) = some (r1, r2, r3) := h
  clear h
  by_cases c3 : a1 ≤ 1
  · rw [if_pos c3] at H
    have c3b0 : decide (a1 ≤ 1) = true := decide_eq_true c3
    clear c3
    simp only [Option.some.injEq, Prod.mk.injEq] at H
    obtain ⟨rfl, rfl, rfl⟩ := H
    go_enter Tryd.func22, Tryd.ntmps22
    go_wp2
    go_ret
    exact ⟨by first | rfl | (simp [errW_none, errW_some] <;> rfl) | (simp [*, errW_none, errW_some] <;> rfl) | (simp [Int.tdiv_eq_ediv_of_nonneg, *]; done), by (try simp only [Int.add_zero]); repeat (first | (with_reducible first | exact HI0.out | apply IsS62.alloc | apply IsS62.drewN | apply IsS62.drew | apply IsS62.set_1 | apply IsS62.set_2) | exact HI0.out), by repeat (first | (with_reducible first | exact HB.out | apply below_alloc | apply pw_below_drewN | apply below_drew1 | refine below_set ?_ (IsS62.ge HI0.out)) | exact HB.out), by repeat (first | (with_reducible first | exact HK.out | apply KeepBut.set_ | apply keep_drewN | apply keep_drew | apply keep_alloc) | exact HK.out)⟩
  · rw [if_neg c3] at H
    have c3b0 : decide (a1 ≤ 1) = false := decide_eq_false c3
    clear c3
    replace H := Option.bind_eq_some_iff.mp H
    obtain ⟨⟨t152, t153, t154⟩, A40, H⟩ := H
    replace H : (if a1 > 200 then ((spec_l00Src_next.f s0_0 t153 t154).bind fun bt155 => (if a1 = 0 then (none) else (some (Int.tmod (wrap64 ((wrap64 (t152 * 256)) + bt155.1)) a1, bt155.2.1, bt155.2.2)))) else (if a1 = 0 then (none) else (some (Int.tmod t152 a1, t153, t154)))) = some (r1, r2, r3) := H
    have A4 := Aside0.mk A40
    clear A40
    by_cases c5 : a1 > 200
    · rw [if_pos c5] at H
      have c5b0 : decide (200 < a1) = true := decide_eq_true c5
      clear c5
      replace H := Option.bind_eq_some_iff.mp H
      obtain ⟨⟨t155, t156, t157⟩, A60, H⟩ := H
      replace H : (if a1 = 0 then (none) else (some (Int.tmod (wrap64 ((wrap64 (t152 * 256)) + t155)) a1, t156, t157))) = some (r1, r2, r3) := H
      have A6 := Aside0.mk A60
      clear A60
      by_cases c7 : a1 = 0
      · rw [if_pos c7] at H
        exact absurd H (by simp)
      · rw [if_neg c7] at H
        have c7b0 : (a1 == 0) = false := beq_eq_false_iff_ne.mpr c7
        have c7b1 : (a1 != 0) = true := bne_iff_ne.mpr c7
        simp only [Option.some.injEq, Prod.mk.injEq] at H
        obtain ⟨rfl, rfl, rfl⟩ := H
        go_enter Tryd.func22, Tryd.ntmps22
        go_wp2_with (first | ((with_reducible refine gate_callee (f := 34) rfl ?_); refine goesL_ (some 9) rfl rfl Tryd.func34 (by kernel_rfl) rfl #[.pointer (some ⟨g, 0, none⟩)] rfl (by (try simp only [List.map_toArray, List.map_cons, List.map_nil]); first | done | rfl | (simp only [List.length_drop, List.length_take]; rfl)) ?_; (with_reducible refine (spec_l00Src_next.calls g s0_0 s0_1 s0_2 t152 t153 t154 w0 _ ?side1 ?side2 A4.out).mono ?_); (case side1 => repeat (first | (with_reducible first | exact HI0.out | apply IsS62.alloc | apply IsS62.drewN | apply IsS62.drew | apply IsS62.set_1 | apply IsS62.set_2) | exact HI0.out)); (case side2 => repeat (first | (with_reducible first | exact HB.out | apply below_alloc | apply pw_below_drewN | apply below_drew1 | refine below_set ?_ (IsS62.ge HI0.out)) | exact HB.out)); rintro e w8 ⟨rfl, hi, hb, hk⟩; refine ⟨_, rfl, ?_⟩; have n0_ := Aside0.mk (KeepBut.trans (by repeat (first | (with_reducible first | exact HK.out | apply KeepBut.set_ | apply keep_drewN | apply keep_drew | apply keep_alloc) | exact HK.out)) hk (.inl rfl)); have n1_ := Aside0.mk (hb); have n2_ := Aside0.mk (hi); clear HK; clear HB; clear HI0; have HK := n0_; have HB := n1_; have HI0 := n2_; clear n0_ n1_ n2_; (try clear hb); (try clear hb2); (try clear hk); (try clear hi)) | ((with_reducible refine gate_callee (f := 34) rfl ?_); refine goesL_ (some 15) rfl rfl Tryd.func34 (by kernel_rfl) rfl #[.pointer (some ⟨g, 0, none⟩)] rfl (by (try simp only [List.map_toArray, List.map_cons, List.map_nil]); first | done | rfl | (simp only [List.length_drop, List.length_take]; rfl)) ?_; (with_reducible refine (spec_l00Src_next.calls g s0_0 t153 t154 t155 t156 t157 w0 _ ?side1 ?side2 A6.out).mono ?_); (case side1 => repeat (first | (with_reducible first | exact HI0.out | apply IsS62.alloc | apply IsS62.drewN | apply IsS62.drew | apply IsS62.set_1 | apply IsS62.set_2) | exact HI0.out)); (case side2 => repeat (first | (with_reducible first | exact HB.out | apply below_alloc | apply pw_below_drewN | apply below_drew1 | refine below_set ?_ (IsS62.ge HI0.out)) | exact HB.out)); rintro e w9 ⟨rfl, hi, hb, hk⟩; refine ⟨_, rfl, ?_⟩; have n0_ := Aside0.mk (KeepBut.trans (by repeat (first | (with_reducible first | exact HK.out | apply KeepBut.set_ | apply keep_drewN | apply keep_drew | apply keep_alloc) | exact HK.out)) hk (.inl rfl)); have n1_ := Aside0.mk (hb); have n2_ := Aside0.mk (hi); clear HK; clear HB; clear HI0; have HK := n0_; have HB := n1_; have HI0 := n2_; clear n0_ n1_ n2_; (try clear hb); (try clear hb2); (try clear hk); (try clear hi)))
        go_ret
        exact ⟨by first | rfl | (simp [errW_none, errW_some] <;> rfl) | (simp [*, errW_none, errW_some] <;> rfl) | (simp [Int.tdiv_eq_ediv_of_nonneg, *]; done), by (try simp only [Int.add_zero]); repeat (first | (with_reducible first | exact HI0.out | apply IsS62.alloc | apply IsS62.drewN | apply IsS62.drew | apply IsS62.set_1 | apply IsS62.set_2) | exact HI0.out), by repeat (first | (with_reducible first | exact HB.out | apply below_alloc | apply pw_below_drewN | apply below_drew1 | refine below_set ?_ (IsS62.ge HI0.out)) | exact HB.out), by repeat (first | (with_reducible first | exact HK.out | apply KeepBut.set_ | apply keep_drewN | apply keep_drew | apply keep_alloc) | exact HK.out)⟩
    · rw [if_neg c5] at H
      have c5b0 : decide (200 < a1) = false := decide_eq_false c5
      clear c5
      by_cases c10 : a1 = 0
      · rw [if_pos c10] at H
        exact absurd H (by simp)
      · rw [if_neg c10] at H
        have c10b0 : (a1 == 0) = false := beq_eq_false_iff_ne.mpr c10
        have c10b1 : (a1 != 0) = true := bne_iff_ne.mpr c10
        simp only [Option.some.injEq, Prod.mk.injEq] at H
        obtain ⟨rfl, rfl, rfl⟩ := H
        go_enter Tryd.func22, Tryd.ntmps22
        go_wp2_with (first | ((with_reducible refine gate_callee (f := 34) rfl ?_); refine goesL_ (some 9) rfl rfl Tryd.func34 (by kernel_rfl) rfl #[.pointer (some ⟨g, 0, none⟩)] rfl (by (try simp only [List.map_toArray, List.map_cons, List.map_nil]); first | done | rfl | (simp only [List.length_drop, List.length_take]; rfl)) ?_; (with_reducible refine (spec_l00Src_next.calls g s0_0 s0_1 s0_2 t152 t153 t154 w0 _ ?side1 ?side2 A4.out).mono ?_); (case side1 => repeat (first | (with_reducible first | exact HI0.out | apply IsS62.alloc | apply IsS62.drewN | apply IsS62.drew | apply IsS62.set_1 | apply IsS62.set_2) | exact HI0.out)); (case side2 => repeat (first | (with_reducible first | exact HB.out | apply below_alloc | apply pw_below_drewN | apply below_drew1 | refine below_set ?_ (IsS62.ge HI0.out)) | exact HB.out)); rintro e w11 ⟨rfl, hi, hb, hk⟩; refine ⟨_, rfl, ?_⟩; have n0_ := Aside0.mk (KeepBut.trans (by repeat (first | (with_reducible first | exact HK.out | apply KeepBut.set_ | apply keep_drewN | apply keep_drew | apply keep_alloc) | exact HK.out)) hk (.inl rfl)); have n1_ := Aside0.mk (hb); have n2_ := Aside0.mk (hi); clear HK; clear HB; clear HI0; have HK := n0_; have HB := n1_; have HI0 := n2_; clear n0_ n1_ n2_; (try clear hb); (try clear hb2); (try clear hk); (try clear hi)))
        go_ret
        exact ⟨by first | rfl | (simp [errW_none, errW_some] <;> rfl) | (simp [*, errW_none, errW_some] <;> rfl) | (simp [Int.tdiv_eq_ediv_of_nonneg, *]; done), by (try simp only [Int.add_zero]); repeat (first | (with_reducible first | exact HI0.out | apply IsS62.alloc | apply IsS62.drewN | apply IsS62.drew | apply IsS62.set_1 | apply IsS62.set_2) | exact HI0.out), by repeat (first | (with_reducible first | exact HB.out | apply below_alloc | apply pw_below_drewN | apply below_drew1 | refine below_set ?_ (IsS62.ge HI0.out)) | exact HB.out), by repeat (first | (with_reducible first | exact HK.out | apply KeepBut.set_ | apply keep_drewN | apply keep_drew | apply keep_alloc) | exact HK.out)⟩

/-! ### spec_B10Losses: function 10 -/
def spec_B10Losses.l0 : Nat → List (S26) → Int → List Int → Int → Int → Option ((List (S26)))
  | 0, _, _, _, _, _ => none
  | k + 1, x4, x5, x162000, x162001, x162002 => if x5 > 0 then ((spec_l00Src_pick.f x162000 x162001 x162002 6).bind fun bt168 => ((spec_l00Src_pick.f x162000 bt168.2.1 bt168.2.2 (wrap64 (24 - (wrap64 (2 * bt168.1))))).bind fun bt171 => ((spec_l00Src_pick.f x162000 bt171.2.1 bt171.2.2 4000).bind fun bt174 => (if x4.length < 5864062014805 then (spec_B10Losses.l0 k (x4 ++ [(⟨wrap64 (bt168.1 + bt171.1), bt174.1, bt168.1⟩ : S26)]) (wrap64 (x5 - 1)) x162000 bt174.2.1 bt174.2.2) else (none))))) else (some x4)
def spec_B10Losses.f (k : Nat) (l0 : List Int) : Option ((List (S26))) := (spec_l00From.f l0).bind fun bt158 => ((spec_l00Src_pick.f bt158.1 bt158.2.1 bt158.2.2 6).bind fun bt165 => (spec_B10Losses.l0 k (([] : List (S26))) bt165.1 bt158.1 bt165.2.1 bt165.2.2))
theorem spec_B10Losses.mono_l : ∀ k, (∀ y0 y1 y2 y3 y4, LeO (spec_B10Losses.l0 k y0 y1 y2 y3 y4) (spec_B10Losses.l0 (k + 1) y0 y1 y2 y3 y4))
  | 0 => fun _ _ _ _ _ r h => by simp [spec_B10Losses.l0] at h
  | k + 1 => by
    have ih0 := spec_B10Losses.mono_l k
    · intro y0 y1 y2 y3 y4
      unfold spec_B10Losses.l0
      repeat' first
      | (with_reducible exact ih0 _ _ _ _ _)
      | (with_reducible exact LeO.refl _)
      | (with_reducible exact LeO.none _)
      | (with_reducible refine LeO.ite ?_ ?_)
      | (with_reducible refine LeO.bind ?_ (fun _ => ?_))
      | exact ih0 _ _ _ _ _
      | exact LeO.none _
      | refine LeO.ite ?_ ?_
      | refine LeO.bind ?_ (fun _ => ?_)
theorem spec_B10Losses.mono : ∀ a0 k, LeO (spec_B10Losses.f k a0) (spec_B10Losses.f (k + 1) a0) := by
  intro a0 k
  have ih0 := spec_B10Losses.mono_l k
  unfold spec_B10Losses.f
  repeat' first
      | (with_reducible exact ih0 _ _ _ _ _)
      | (with_reducible exact LeO.refl _)
      | (with_reducible exact LeO.none _)
      | (with_reducible refine LeO.ite ?_ ?_)
      | (with_reducible refine LeO.bind ?_ (fun _ => ?_))
      | exact ih0 _ _ _ _ _
      | exact LeO.none _
      | refine LeO.ite ?_ ?_
      | refine LeO.bind ?_ (fun _ => ?_)
set_option maxHeartbeats 8000000 in
set_option maxRecDepth 100000 in
theorem spec_B10Losses.calls (k : Nat) (A0 : Option Addr) (c0 : Nat) (l0 : List Int) (r : List (S26)) (w : World) (hr0 : Kd.C (Kd.int .u8) w A0 l0.length l0) (hc0 : l0.length ≤ c0) (h : spec_B10Losses.f k l0 = some r) :
    Calls Tryd.prog 10 #[.slice A0 l0.length c0] w fun e w' => ∃ v0_ : Value, e = .returned (v0_) ∧ Kd.R k26 26 w' w.heap.size (fun _ => True) v0_ r ∧ Below w.heap.size w w' := by
  have hu26 := Tryd.underlying26
  have HR0 := Aside0.mk hr0
  have HC0 := Aside0.mk hc0
  clear hr0 hc0
  have HB := Aside0.mk (Below.refl w.heap.size w)
  have H : ((spec_l00From.f l0).bind fun bt158 => ((spec_l00Src_pick.f bt158.1 bt158.2.1 bt158.2.2 6).bind fun bt165 => (spec_B10Losses.l0 k (([] : List (S26))) bt165.1 bt158.1 bt165.2.1 bt165.2.2))) = some r := h
  clear h
  replace H := Option.bind_eq_some_iff.mp H
  obtain ⟨⟨t158, t159, t160⟩, A20, H⟩ := H
  replace H : ((spec_l00Src_pick.f t158 t159 t160 6).bind fun bt165 => (spec_B10Losses.l0 k (([] : List (S26))) bt165.1 t158 bt165.2.1 bt165.2.2)) = some r := H
  have A2 := Aside0.mk A20
  clear A20
  obtain ⟨y162, hy162⟩ : ∃ y_ : List (S26), y_ = (([] : List (S26))) := ⟨_, rfl⟩
  replace H : ((spec_l00Src_pick.f t158 t159 t160 6).bind fun bt165 => (spec_B10Losses.l0 k y162 bt165.1 t158 bt165.2.1 bt165.2.2)) = some r := by first | (rw [hy162]; with_reducible exact H) | (have H2_ := (Option.bind_some _ _).symm.trans H; rw [hy162]; with_reducible exact H2_) | (have H2_ := (Option.bind_some _ _).symm.trans H; with_reducible exact H2_) | with_reducible exact H | (rw [hy162]; exact H) | exact H
  have Ny162 := Aside0.mk hy162
  clear hy162
  replace H := Option.bind_eq_some_iff.mp H
  obtain ⟨⟨t165, t166, t167⟩, A30, H⟩ := H
  replace H : (spec_B10Losses.l0 k y162 t165 t158 t166 t167) = some r := H
  have A3 := Aside0.mk A30
  clear A30
  have H' := Aside0.mk H
  clear H
  go_enter Tryd.func10, Tryd.ntmps10
  go_wp2_with (first | ((with_reducible refine gate_callee (f := 21) rfl ?_); refine goesL_ (some 8) rfl rfl Tryd.func21 (by kernel_rfl) rfl #[.slice A0 l0.length c0] rfl (by (try simp only [List.map_toArray, List.map_cons, List.map_nil]); first | done | rfl | (simp only [List.length_drop, List.length_take]; rfl)) ?_; (with_reducible refine (spec_l00From.calls _ _ l0 t158 t159 t160 w _ ?side1 ?side2 ?side3 A2.out).mono ?_); (case side1 => repeat (first | (with_reducible first | exact HB.out | apply below_alloc | apply pw_below_drewN | apply below_drew1) | exact HB.out)); (case side2 => exact HR0.out); (case side3 => exact HC0.out); rintro e w4 ⟨g161, rfl, hi, hb, hb2⟩; refine ⟨_, rfl, ?_⟩; have n0_ := Aside0.mk (hb); have n1_ := Aside0.mk (hi); clear HB; have HB := n0_; have HI161 := n1_; clear n0_ n1_; (try clear hb); (try clear hb2); (try clear hk); (try clear hi)) | ((with_reducible refine gate_dst (N := 9) rfl ?_); refine Kd.R_lit k26 _ 26 ?hg (N := 9) ?hd (xs := ([] : List (S26))) (inner := []) (ok := fun _ => True) (okp := fun _ => True) ?hr ?hp (fun _ hk => hk) trivial (Below.refl _ _) (Nat.le_refl _) (by simp) ?_; (case hd => rfl); (case hg => rfl); (case hr => first | (go_simp; done) | (go_simp; rfl)); (case hp => exact (Reps.none _ _)); intro v163 w5 ho6 hb hg_ hnew_; clear hg_ hnew_; (first | rw [← Ny162.out] at ho6 | (simp only [Int.reduceToNat] at ho6; rw [← Ny162.out] at ho6)); have n0_ := Aside0.mk (Kd.R_lower ho6 (below_size (by repeat (first | (with_reducible first | exact HB.out | apply below_alloc | apply pw_below_drewN | apply below_drew1 | refine below_set ?_ (IsS62.ge HI161.out)) | exact HB.out)))); have n1_ := Aside0.mk (IsS62.below (by repeat (first | (with_reducible first | exact HI161.out | apply IsS62.alloc | apply IsS62.drewN | apply IsS62.drew | apply IsS62.set_1 | apply IsS62.set_2) | exact HI161.out)) hb); have n2_ := Aside0.mk (below_step (by repeat (first | (with_reducible first | exact HB.out | apply below_alloc | apply pw_below_drewN | apply below_drew1 | refine below_set ?_ (IsS62.ge HI161.out)) | exact HB.out)) hb); clear HI161; clear HB; have HO164 := n0_; have HI161 := n1_; have HB := n2_; clear n0_ n1_ n2_; clear hb ho6) | ((with_reducible refine gate_callee (f := 22) rfl ?_); refine goesL_ (some 11) rfl rfl Tryd.func22 (by kernel_rfl) rfl #[.pointer (some ⟨g161, 0, none⟩), .int .i64 6] rfl (by (try simp only [List.map_toArray, List.map_cons, List.map_nil]); first | done | rfl | (simp only [List.length_drop, List.length_take]; rfl)) ?_; (with_reducible refine (spec_l00Src_pick.calls g161 t158 t159 t160 6 t165 t166 t167 w _ ?side1 ?side2 A3.out).mono ?_); (case side1 => repeat (first | (with_reducible first | exact HI161.out | apply IsS62.alloc | apply IsS62.drewN | apply IsS62.drew | apply IsS62.set_1 | apply IsS62.set_2) | exact HI161.out)); (case side2 => repeat (first | (with_reducible first | exact HB.out | apply below_alloc | apply pw_below_drewN | apply below_drew1 | refine below_set ?_ (IsS62.ge HI161.out)) | exact HB.out)); rintro e w7 ⟨rfl, hi, hb, hk⟩; refine ⟨_, rfl, ?_⟩; have n0_ := Aside0.mk (Kd.R_mono (Kd.R_keep (IsS62.apart (show IsS62 w _ g161 t158 t159 t160 from by repeat (first | (with_reducible first | exact HI161.out | apply IsS62.alloc | apply IsS62.drewN | apply IsS62.drew | apply IsS62.set_1 | apply IsS62.set_2) | exact HI161.out)) (by (with_reducible repeat (first | apply Kd.R_alloc | apply Kd.R_drewN | apply Kd.R_drew)); exact HO164.out) (by decide)) hk (fun _ h => h.2)) (fun _ h => h.1)); have n1_ := Aside0.mk (hb); have n2_ := Aside0.mk (hi); clear HO164; clear HB; clear HI161; have HO164 := n0_; have HB := n1_; have HI161 := n2_; clear n0_ n1_ n2_; (try clear hb); (try clear hb2); (try clear hk); (try clear hi)))
  go_loopg [4, 5] k (fun kq v4 v5 w' => ∃ (x4_1 : List (S26)) (x5_1 : Int) (x162001_1 : Int) (x162002_1 : Int), v5 = .int .i64 x5_1 ∧ Aside0 (spec_B10Losses.l0 kq x4_1 x5_1 t158 x162001_1 x162002_1 = some r) ∧ Aside0 (kq ≤ k) ∧ Aside0 (Kd.R k26 26 w' w.heap.size (fun _ => True) v4 x4_1) ∧ Aside0 (IsS62 w w' g161 t158 x162001_1 x162002_1) ∧ Aside0 (Below w.heap.size w w'))
  case atStart => exact ⟨(y162), (t165), (t166), (t167), (by first | rfl | (simp; done) | (simp [*]; done) | (simp [Int.tdiv_eq_ediv_of_nonneg, *]; done)), H', ⟨Nat.le_refl _⟩, ⟨by (with_reducible repeat (first | apply Kd.R_alloc | apply Kd.R_drewN | apply Kd.R_drew)); exact HO164.out⟩, ⟨by repeat (first | (with_reducible first | exact HI161.out | apply IsS62.alloc | apply IsS62.drewN | apply IsS62.drew | apply IsS62.set_1 | apply IsS62.set_2) | exact HI161.out)⟩, ⟨by repeat (first | (with_reducible first | exact HB.out | apply below_alloc | apply pw_below_drewN | apply below_drew1 | refine below_set ?_ (IsS62.ge HI161.out)) | exact HB.out)⟩⟩
  case round =>
    clear H'
    try clear c1
    try clear c2
    try clear p2
    obtain ⟨x4_1, x5_1, x162001_1, x162002_1, rfl, HA, HK1, HO_4, HI161, HB⟩ := hrel
    cases gk with
    | zero => exact absurd HA.out (by simp [spec_B10Losses.l0])
    | succ k1 =>
      have H := HA.out
      clear HA
      simp only [spec_B10Losses.l0] at H
      by_cases c8 : x5_1 > 0
      · rw [if_pos c8] at H
        have c8b0 : decide (0 < x5_1) = true := decide_eq_true c8
        clear c8
        replace H := Option.bind_eq_some_iff.mp H
        obtain ⟨⟨t168, t169, t170⟩, A90, H⟩ := H
        replace H : ((spec_l00Src_pick.f t158 t169 t170 (wrap64 (24 - (wrap64 (2 * t168))))).bind fun bt171 => ((spec_l00Src_pick.f t158 bt171.2.1 bt171.2.2 4000).bind fun bt174 => (if x4_1.length < 5864062014805 then (spec_B10Losses.l0 k1 (x4_1 ++ [(⟨wrap64 (t168 + bt171.1), bt174.1, t168⟩ : S26)]) (wrap64 (x5_1 - 1)) t158 bt174.2.1 bt174.2.2) else (none)))) = some r := H
        have A9 := Aside0.mk A90
        clear A90
        replace H := Option.bind_eq_some_iff.mp H
        obtain ⟨⟨t171, t172, t173⟩, A100, H⟩ := H
        replace H : ((spec_l00Src_pick.f t158 t172 t173 4000).bind fun bt174 => (if x4_1.length < 5864062014805 then (spec_B10Losses.l0 k1 (x4_1 ++ [(⟨wrap64 (t168 + t171), bt174.1, t168⟩ : S26)]) (wrap64 (x5_1 - 1)) t158 bt174.2.1 bt174.2.2) else (none))) = some r := H
        have A10 := Aside0.mk A100
        clear A100
        replace H := Option.bind_eq_some_iff.mp H
        obtain ⟨⟨t174, t175, t176⟩, A110, H⟩ := H
        replace H : (if x4_1.length < 5864062014805 then (spec_B10Losses.l0 k1 (x4_1 ++ [(⟨wrap64 (t168 + t171), t174, t168⟩ : S26)]) (wrap64 (x5_1 - 1)) t158 t175 t176) else (none)) = some r := H
        have A11 := Aside0.mk A110
        clear A110
        by_cases c12 : x4_1.length < 5864062014805
        · rw [if_pos c12] at H
          have LMc12 := Aside0.mk c12
          clear c12
          obtain ⟨y177, hy177⟩ : ∃ y_ : List (S26), y_ = (x4_1 ++ [(⟨wrap64 (t168 + t171), t174, t168⟩ : S26)]) := ⟨_, rfl⟩
          replace H : (spec_B10Losses.l0 k1 y177 (wrap64 (x5_1 - 1)) t158 t175 t176) = some r := by first | (rw [hy177]; with_reducible exact H) | (have H2_ := (Option.bind_some _ _).symm.trans H; rw [hy177]; with_reducible exact H2_) | (have H2_ := (Option.bind_some _ _).symm.trans H; with_reducible exact H2_) | with_reducible exact H | (rw [hy177]; exact H) | exact H
          have Ny177 := Aside0.mk hy177
          clear hy177
          have H' := Aside0.mk H
          clear H
          go_wp2_with (first | ((with_reducible refine gate_callee (f := 22) rfl ?_); refine goesL_ (some 17) rfl rfl Tryd.func22 (by kernel_rfl) rfl #[.pointer (some ⟨g161, 0, none⟩), .int .i64 6] rfl (by (try simp only [List.map_toArray, List.map_cons, List.map_nil]); first | done | rfl | (simp only [List.length_drop, List.length_take]; rfl)) ?_; (with_reducible refine (spec_l00Src_pick.calls g161 t158 x162001_1 x162002_1 6 t168 t169 t170 w _ ?side1 ?side2 A9.out).mono ?_); (case side1 => repeat (first | (with_reducible first | exact HI161.out | apply IsS62.alloc | apply IsS62.drewN | apply IsS62.drew | apply IsS62.set_1 | apply IsS62.set_2) | exact HI161.out)); (case side2 => repeat (first | (with_reducible first | exact HB.out | apply below_alloc | apply pw_below_drewN | apply below_drew1 | refine below_set ?_ (IsS62.ge HI161.out)) | exact HB.out)); rintro e w13 ⟨rfl, hi, hb, hk⟩; refine ⟨_, rfl, ?_⟩; have n0_ := Aside0.mk (Kd.R_mono (Kd.R_keep (IsS62.apart (show IsS62 w _ g161 t158 x162001_1 x162002_1 from by repeat (first | (with_reducible first | exact HI161.out | apply IsS62.alloc | apply IsS62.drewN | apply IsS62.drew | apply IsS62.set_1 | apply IsS62.set_2) | exact HI161.out)) (by (with_reducible repeat (first | apply Kd.R_alloc | apply Kd.R_drewN | apply Kd.R_drew)); exact HO_4.out) (by decide)) hk (fun _ h => h.2)) (fun _ h => h.1)); have n1_ := Aside0.mk (hb); have n2_ := Aside0.mk (hi); clear HO_4; clear HB; clear HI161; have HO_4 := n0_; have HB := n1_; have HI161 := n2_; clear n0_ n1_ n2_; (try clear hb); (try clear hb2); (try clear hk); (try clear hi)) | ((with_reducible refine gate_callee (f := 22) rfl ?_); refine goesL_ (some 24) rfl rfl Tryd.func22 (by kernel_rfl) rfl #[.pointer (some ⟨g161, 0, none⟩), .int .i64 (wrap64 (24 - (wrap64 (2 * t168))))] rfl (by (try simp only [List.map_toArray, List.map_cons, List.map_nil]); first | done | rfl | (simp only [List.length_drop, List.length_take]; rfl)) ?_; (with_reducible refine (spec_l00Src_pick.calls g161 t158 t169 t170 (wrap64 (24 - (wrap64 (2 * t168)))) t171 t172 t173 w _ ?side1 ?side2 A10.out).mono ?_); (case side1 => repeat (first | (with_reducible first | exact HI161.out | apply IsS62.alloc | apply IsS62.drewN | apply IsS62.drew | apply IsS62.set_1 | apply IsS62.set_2) | exact HI161.out)); (case side2 => repeat (first | (with_reducible first | exact HB.out | apply below_alloc | apply pw_below_drewN | apply below_drew1 | refine below_set ?_ (IsS62.ge HI161.out)) | exact HB.out)); rintro e w14 ⟨rfl, hi, hb, hk⟩; refine ⟨_, rfl, ?_⟩; have n0_ := Aside0.mk (Kd.R_mono (Kd.R_keep (IsS62.apart (show IsS62 w _ g161 t158 t169 t170 from by repeat (first | (with_reducible first | exact HI161.out | apply IsS62.alloc | apply IsS62.drewN | apply IsS62.drew | apply IsS62.set_1 | apply IsS62.set_2) | exact HI161.out)) (by (with_reducible repeat (first | apply Kd.R_alloc | apply Kd.R_drewN | apply Kd.R_drew)); exact HO_4.out) (by decide)) hk (fun _ h => h.2)) (fun _ h => h.1)); have n1_ := Aside0.mk (hb); have n2_ := Aside0.mk (hi); clear HO_4; clear HB; clear HI161; have HO_4 := n0_; have HB := n1_; have HI161 := n2_; clear n0_ n1_ n2_; (try clear hb); (try clear hb2); (try clear hk); (try clear hi)) | ((with_reducible refine gate_callee (f := 22) rfl ?_); refine goesL_ (some 27) rfl rfl Tryd.func22 (by kernel_rfl) rfl #[.pointer (some ⟨g161, 0, none⟩), .int .i64 4000] rfl (by (try simp only [List.map_toArray, List.map_cons, List.map_nil]); first | done | rfl | (simp only [List.length_drop, List.length_take]; rfl)) ?_; (with_reducible refine (spec_l00Src_pick.calls g161 t158 t172 t173 4000 t174 t175 t176 w _ ?side1 ?side2 A11.out).mono ?_); (case side1 => repeat (first | (with_reducible first | exact HI161.out | apply IsS62.alloc | apply IsS62.drewN | apply IsS62.drew | apply IsS62.set_1 | apply IsS62.set_2) | exact HI161.out)); (case side2 => repeat (first | (with_reducible first | exact HB.out | apply below_alloc | apply pw_below_drewN | apply below_drew1 | refine below_set ?_ (IsS62.ge HI161.out)) | exact HB.out)); rintro e w15 ⟨rfl, hi, hb, hk⟩; refine ⟨_, rfl, ?_⟩; have n0_ := Aside0.mk (Kd.R_mono (Kd.R_keep (IsS62.apart (show IsS62 w _ g161 t158 t172 t173 from by repeat (first | (with_reducible first | exact HI161.out | apply IsS62.alloc | apply IsS62.drewN | apply IsS62.drew | apply IsS62.set_1 | apply IsS62.set_2) | exact HI161.out)) (by (with_reducible repeat (first | apply Kd.R_alloc | apply Kd.R_drewN | apply Kd.R_drew)); exact HO_4.out) (by decide)) hk (fun _ h => h.2)) (fun _ h => h.1)); have n1_ := Aside0.mk (hb); have n2_ := Aside0.mk (hi); clear HO_4; clear HB; clear HI161; have HO_4 := n0_; have HB := n1_; have HI161 := n2_; clear n0_ n1_ n2_; (try clear hb); (try clear hb2); (try clear hk); (try clear hi)) | ((with_reducible refine gate_builtin (b := .append) (xs := #[.tmp 18, .tmp 30]) rfl ?_); at_builtin; refine Kd.R_append k26 (w0 := w) w.heap.size rfl (.tmp 18) (.tmp 30) 31 26 (.agg #[(.int .i64 0), (.int .i64 0), (.int .i64 0)]) 24 rfl Tryd.underlying31 info26 rfl (by decide) (by omega) u4 x4_1 (⟨wrap64 (t168 + t171), t174, t168⟩ : S26) [.int .i64 (wrap64 (t168 + t171)), .int .i64 t174, .int .i64 t168] (fun _ => True) (fun _ => False) rfl rfl ?aP (fun _ hk => hk.elim) ?aF ?aO ?aB ?aS ?aL ?_; (case aP => exact k26_mkM _ _ _ (⟨wrap64 (t168 + t171), t174, t168⟩ : S26)); (case aB => exact (by repeat (first | (with_reducible first | exact HB.out | apply below_alloc | apply pw_below_drewN | apply below_drew1 | refine below_set ?_ (IsS62.ge HI161.out)) | exact HB.out))); (case aF => exact (fun _ _ => trivial)); (case aO => exact (by (with_reducible repeat (first | apply Kd.R_alloc | apply Kd.R_drewN | apply Kd.R_drew)); exact HO_4.out)); (case aS => exact (below_size (by repeat (first | (with_reducible first | exact HB.out | apply below_alloc | apply pw_below_drewN | apply below_drew1 | refine below_set ?_ (IsS62.ge HI161.out)) | exact HB.out)))); (case aL => have := LMc12.out; omega); intro v178 w16 ho hb hg hat; rw [← Ny177.out] at ho; have n0_ := Aside0.mk (IsS62.grown (by repeat (first | (with_reducible first | exact HI161.out | apply IsS62.alloc | apply IsS62.drewN | apply IsS62.drew | apply IsS62.set_1 | apply IsS62.set_2) | exact HI161.out)) hg (IsS62.own_ne HI161.out HO_4.out (by decide))); have n1_ := Aside0.mk (hb); have n2_ := Aside0.mk (ho); clear HI161; clear HB; clear HO_4; have HI161 := n0_; have HB := n1_; have HO179 := n2_; clear n0_ n1_ n2_; clear ho hb hg hat))
          go_roundg k1
          case measure => have := HK1.out; omega
          case rel => exact ⟨(y177), (wrap64 (x5_1 - 1)), (t175), (t176), (by first | rfl | (simp; done) | (simp [*]; done) | (simp [Int.tdiv_eq_ediv_of_nonneg, *]; done)), H', ⟨by have := HK1.out; omega⟩, ⟨by (with_reducible repeat (first | apply Kd.R_alloc | apply Kd.R_drewN | apply Kd.R_drew)); exact HO179.out⟩, ⟨by repeat (first | (with_reducible first | exact HI161.out | apply IsS62.alloc | apply IsS62.drewN | apply IsS62.drew | apply IsS62.set_1 | apply IsS62.set_2) | exact HI161.out)⟩, ⟨by repeat (first | (with_reducible first | exact HB.out | apply below_alloc | apply pw_below_drewN | apply below_drew1 | refine below_set ?_ (IsS62.ge HI161.out)) | exact HB.out)⟩⟩
        · rw [if_neg c12] at H
          exact absurd H (by simp)
      · rw [if_neg c8] at H
        have c8b0 : decide (0 < x5_1) = false := decide_eq_false c8
        clear c8
        obtain rfl := Option.some.inj H
        go_wp2
        go_ret
        exact ⟨_, by first | rfl | (simp [errW_none, errW_some] <;> rfl) | (simp [*, errW_none, errW_some] <;> rfl) | (simp [Int.tdiv_eq_ediv_of_nonneg, *]; done), by (with_reducible repeat (first | apply Kd.R_alloc | apply Kd.R_drewN | apply Kd.R_drew)); exact HO_4.out, by repeat (first | (with_reducible first | exact HB.out | apply below_alloc | apply pw_below_drewN | apply below_drew1 | refine below_set ?_ (IsS62.ge HI161.out)) | exact HB.out)⟩

/-! ### laws_b10At: function 11 -/
def laws_b10At.f (l0 : List Int) (a1 : Int) (a2 : Int) : Option (Int) := if a2 ≤ 1 then (some 0) else (if a1 < (l0.length : Int) then (if 0 ≤ a1 then (if a2 = 0 then (none) else (some (Int.tmod (wrap64 (rd l0 a1)) a2))) else (none)) else (if a2 = 0 then (none) else (some (Int.tmod (wrap64 ((wrap64 (a1 * 37)) + 11)) a2))))
set_option maxHeartbeats 8000000 in
set_option maxRecDepth 100000 in
theorem laws_b10At.calls (A0 : Option Addr) (c0 : Nat) (l0 : List Int) (a1 : Int) (a2 : Int) (r : Int) (w : World) (hr0 : Kd.C (Kd.int .u8) w A0 l0.length l0) (hc0 : l0.length ≤ c0) (h : laws_b10At.f l0 a1 a2 = some r) :
    Calls Tryd.prog 11 #[.slice A0 l0.length c0, .int .i64 a1, .int .i64 a2] w fun e w' => e = .returned (.int .i64 r) ∧ Drawn0 w w' := by
  have HR0 := Aside0.mk hr0
  have HC0 := Aside0.mk hc0
  clear hr0 hc0
  have H : (if a2 ≤ 1 then (some 0) else (if a1 < (l0.length : Int) then (if 0 ≤ a1 then (if a2 = 0 then (none) else (some (Int.tmod (wrap64 (rd l0 a1)) a2))) else (none)) else (if a2 = 0 then (none) else (some (Int.tmod (wrap64 ((wrap64 (a1 * 37)) + 11)) a2))))) = some r := h
  clear h
  by_cases c4 : a2 ≤ 1
  · rw [if_pos c4] at H
    have c4b0 : decide (a2 ≤ 1) = true := decide_eq_true c4
    clear c4
    obtain rfl := Option.some.inj H
    go_enter Tryd.func11, Tryd.ntmps11
    go_wp2
    go_ret
    exact ⟨by first | rfl | (simp; done) | (simp [*]; done) | (simp [Int.tdiv_eq_ediv_of_nonneg, *]; done), by repeat (first | exact Drawn0.refl _ | apply Drawn0.step)⟩
  · rw [if_neg c4] at H
    have c4b0 : decide (a2 ≤ 1) = false := decide_eq_false c4
    clear c4
    by_cases c5 : a1 < (l0.length : Int)
    · rw [if_pos c5] at H
      have c5b0 : decide (a1 < (l0.length : Int)) = true := decide_eq_true c5
      clear c5
      by_cases c6 : 0 ≤ a1
      · rw [if_pos c6] at H
        have c6b0 : decide (0 ≤ a1) = true := decide_eq_true c6
        clear c6
        by_cases c7 : a2 = 0
        · rw [if_pos c7] at H
          exact absurd H (by simp)
        · rw [if_neg c7] at H
          have c7b0 : (a2 == 0) = false := beq_eq_false_iff_ne.mpr c7
          have c7b1 : (a2 != 0) = true := bne_iff_ne.mpr c7
          obtain rfl := Option.some.inj H
          have p180 : 0 ≤ (a1 : Int) := of_decide_eq_true (by first | (with_reducible assumption) | assumption)
          have q180 : a1 < (l0.length : Int) := of_decide_eq_true (by first | (with_reducible assumption) | assumption)
          obtain ⟨ad180, e180, hx180_0⟩ := Kd.at_int HR0.out a1 p180 q180
          cases e180
          replace p180 := eq_true p180
          replace q180 := eq_true q180
          go_enter Tryd.func11, Tryd.ntmps11
          go_wp2
          go_ret
          exact ⟨by first | rfl | (simp; done) | (simp [*]; done) | (simp [Int.tdiv_eq_ediv_of_nonneg, *]; done), by repeat (first | exact Drawn0.refl _ | apply Drawn0.step)⟩
      · rw [if_neg c6] at H
        exact absurd H (by simp)
    · rw [if_neg c5] at H
      have c5b0 : decide (a1 < (l0.length : Int)) = false := decide_eq_false c5
      clear c5
      by_cases c8 : a2 = 0
      · rw [if_pos c8] at H
        exact absurd H (by simp)
      · rw [if_neg c8] at H
        have c8b0 : (a2 == 0) = false := beq_eq_false_iff_ne.mpr c8
        have c8b1 : (a2 != 0) = true := bne_iff_ne.mpr c8
        obtain rfl := Option.some.inj H
        go_enter Tryd.func11, Tryd.ntmps11
        go_wp2
        go_ret
        exact ⟨by first | rfl | (simp; done) | (simp [*]; done) | (simp [Int.tdiv_eq_ediv_of_nonneg, *]; done), by repeat (first | exact Drawn0.refl _ | apply Drawn0.step)⟩

/-! ### impl_trough: function 23 -/
def impl_trough.l0 : Nat → Int → Int → List Int → Int → Int → Int → Int → Int → Option (List Int)
  | 0, _, _, _, _, _, _, _, _ => none
  | k + 1, x0, x1, x5, x6, x7, x8, x14, x15 => if x15 < x14 then (if 0 ≤ (IntKind.u64.wrap (wrap64 (2 * x1))) then (if x5.length < 17592186044416 then (if (wrap64 (x15 + 1)) = 0 then (none) else (impl_trough.l0 k x0 x1 (x5 ++ [wrap64 ((shr .i64 (wrap64 (x0 * (wrap64 (x7 + x6)))) (IntKind.u64.wrap (wrap64 (2 * x1)))) - x8)]) (wrap64 (Int.tdiv (wrap64 (x6 * (wrap64 ((wrap64 (2 * x1)) - x15)))) (wrap64 (x15 + 1)))) (wrap64 (x7 + x6)) (shr .i64 (wrap64 (x0 * (wrap64 (x7 + x6)))) (IntKind.u64.wrap (wrap64 (2 * x1)))) x14 (wrap64 (x15 + 1)))) else (none)) else (none)) else (some x5)
def impl_trough.f (k : Nat) (a0 : Int) (a1 : Int) : Option (List Int) := impl_trough.l0 k a0 a1 (([] : List Int)) 1 0 0 (wrap64 ((wrap64 (2 * a1)) + 1)) 0
theorem impl_trough.mono_l : ∀ k, (∀ y0 y1 y2 y3 y4 y5 y6 y7, LeO (impl_trough.l0 k y0 y1 y2 y3 y4 y5 y6 y7) (impl_trough.l0 (k + 1) y0 y1 y2 y3 y4 y5 y6 y7))
  | 0 => fun _ _ _ _ _ _ _ _ r h => by simp [impl_trough.l0] at h
  | k + 1 => by
    have ih0 := impl_trough.mono_l k
    · intro y0 y1 y2 y3 y4 y5 y6 y7
      unfold impl_trough.l0
      repeat' first
      | (with_reducible exact ih0 _ _ _ _ _ _ _ _)
      | (with_reducible exact LeO.refl _)
      | (with_reducible exact LeO.none _)
      | (with_reducible refine LeO.ite ?_ ?_)
      | (with_reducible refine LeO.bind ?_ (fun _ => ?_))
      | exact ih0 _ _ _ _ _ _ _ _
      | exact LeO.none _
      | refine LeO.ite ?_ ?_
      | refine LeO.bind ?_ (fun _ => ?_)
theorem impl_trough.mono : ∀ a0 a1 k, LeO (impl_trough.f k a0 a1) (impl_trough.f (k + 1) a0 a1) := by
  intro a0 a1 k
  have ih0 := impl_trough.mono_l k
  unfold impl_trough.f
  repeat' first
      | (with_reducible exact ih0 _ _ _ _ _ _ _ _)
      | (with_reducible exact LeO.refl _)
      | (with_reducible exact LeO.none _)
      | (with_reducible refine LeO.ite ?_ ?_)
      | (with_reducible refine LeO.bind ?_ (fun _ => ?_))
      | exact ih0 _ _ _ _ _ _ _ _
      | exact LeO.none _
      | refine LeO.ite ?_ ?_
      | refine LeO.bind ?_ (fun _ => ?_)
set_option maxHeartbeats 8000000 in
set_option maxRecDepth 100000 in
theorem impl_trough.calls (k : Nat) (a0 : Int) (a1 : Int) (r : List Int) (w : World) (h : impl_trough.f k a0 a1 = some r) :
    Calls Tryd.prog 23 #[.int .i64 a0, .int .i64 a1] w fun e w' => ∃ v0_ : Value, e = .returned (v0_) ∧ Kd.R (Kd.int .i64) 2 w' w.heap.size (fun _ => True) v0_ r ∧ Below w.heap.size w w' := by
  have HB := Aside0.mk (Below.refl w.heap.size w)
  have H : (impl_trough.l0 k a0 a1 (([] : List Int)) 1 0 0 (wrap64 ((wrap64 (2 * a1)) + 1)) 0) = some r := h
  clear h
  obtain ⟨y181, hy181⟩ : ∃ y_ : List Int, y_ = (([] : List Int)) := ⟨_, rfl⟩
  replace H : (impl_trough.l0 k a0 a1 y181 1 0 0 (wrap64 ((wrap64 (2 * a1)) + 1)) 0) = some r := by first | (rw [hy181]; with_reducible exact H) | (have H2_ := (Option.bind_some _ _).symm.trans H; rw [hy181]; with_reducible exact H2_) | (have H2_ := (Option.bind_some _ _).symm.trans H; with_reducible exact H2_) | with_reducible exact H | (rw [hy181]; exact H) | exact H
  have Ny181 := Aside0.mk hy181
  clear hy181
  have H' := Aside0.mk H
  clear H
  go_enter Tryd.func23, Tryd.ntmps23
  go_wp2_with (first | ((with_reducible refine gate_dst (N := 11) rfl ?_); refine Kd.R_lit (Kd.int .i64) _ 2 ?hg (N := 11) ?hd (xs := ([] : List Int)) (inner := []) (ok := fun _ => True) (okp := fun _ => True) ?hr ?hp (fun _ hk => hk) trivial (Below.refl _ _) (Nat.le_refl _) (by simp) ?_; (case hd => rfl); (case hg => rfl); (case hr => first | (go_simp; done) | (go_simp; rfl)); (case hp => exact (Reps.none _ _)); intro v182 w3 ho4 hb hg_ hnew_; clear hg_ hnew_; (first | rw [← Ny181.out] at ho4 | (simp only [Int.reduceToNat] at ho4; rw [← Ny181.out] at ho4)); have n0_ := Aside0.mk (Kd.R_lower ho4 (below_size (by repeat (first | (with_reducible first | exact HB.out | apply below_alloc | apply pw_below_drewN | apply below_drew1) | exact HB.out)))); have n1_ := Aside0.mk (below_step (by repeat (first | (with_reducible first | exact HB.out | apply below_alloc | apply pw_below_drewN | apply below_drew1) | exact HB.out)) hb); clear HB; have HO183 := n0_; have HB := n1_; clear n0_ n1_; clear hb ho4))
  go_loopg [5, 6, 7, 8, 15] k (fun kq v5 v6 v7 v8 v15 w' => ∃ (x5_1 : List Int) (x6_1 : Int) (x7_1 : Int) (x8_1 : Int) (x15_1 : Int), v6 = .int .i64 x6_1 ∧ v7 = .int .i64 x7_1 ∧ v8 = .int .i64 x8_1 ∧ v15 = .int .i64 x15_1 ∧ Aside0 (impl_trough.l0 kq a0 a1 x5_1 x6_1 x7_1 x8_1 (wrap64 ((wrap64 (2 * a1)) + 1)) x15_1 = some r) ∧ Aside0 (kq ≤ k) ∧ Aside0 (Kd.R (Kd.int .i64) 2 w' w.heap.size (fun _ => True) v5 x5_1) ∧ Aside0 (Below w.heap.size w w'))
  case atStart => exact ⟨(y181), (1), (0), (0), (0), (by first | rfl | (simp; done) | (simp [*]; done) | (simp [Int.tdiv_eq_ediv_of_nonneg, *]; done)), (by first | rfl | (simp; done) | (simp [*]; done) | (simp [Int.tdiv_eq_ediv_of_nonneg, *]; done)), (by first | rfl | (simp; done) | (simp [*]; done) | (simp [Int.tdiv_eq_ediv_of_nonneg, *]; done)), (by first | rfl | (simp; done) | (simp [*]; done) | (simp [Int.tdiv_eq_ediv_of_nonneg, *]; done)), H', ⟨Nat.le_refl _⟩, ⟨by (with_reducible repeat (first | apply Kd.R_alloc | apply Kd.R_drewN | apply Kd.R_drew)); exact HO183.out⟩, ⟨by repeat (first | (with_reducible first | exact HB.out | apply below_alloc | apply pw_below_drewN | apply below_drew1) | exact HB.out)⟩⟩
  case round =>
    clear H'
    try clear c2
    try clear p2
    obtain ⟨x5_1, x6_1, x7_1, x8_1, x15_1, rfl, rfl, rfl, rfl, HA, HK1, HO_5, HB⟩ := hrel
    cases gk with
    | zero => exact absurd HA.out (by simp [impl_trough.l0])
    | succ k1 =>
      have H := HA.out
      clear HA
      simp only [impl_trough.l0] at H
      by_cases c5 : x15_1 < (wrap64 ((wrap64 (2 * a1)) + 1))
      · rw [if_pos c5] at H
        have c5b0 : decide (x15_1 < (wrap64 ((wrap64 (2 * a1)) + 1))) = true := decide_eq_true c5
        clear c5
        obtain ⟨ji6, hji6⟩ : ∃ j_ : Int, (IntKind.u64.wrap (wrap64 (2 * a1))) = j_ := ⟨_, rfl⟩
        replace H : (if 0 ≤ (ji6) then (if x5_1.length < 17592186044416 then (if (wrap64 (x15_1 + 1)) = 0 then (none) else (impl_trough.l0 k1 a0 a1 (x5_1 ++ [wrap64 ((shr .i64 (wrap64 (a0 * (wrap64 (x7_1 + x6_1)))) (ji6)) - x8_1)]) (wrap64 (Int.tdiv (wrap64 (x6_1 * (wrap64 ((wrap64 (2 * a1)) - x15_1)))) (wrap64 (x15_1 + 1)))) (wrap64 (x7_1 + x6_1)) (shr .i64 (wrap64 (a0 * (wrap64 (x7_1 + x6_1)))) (ji6)) (wrap64 ((wrap64 (2 * a1)) + 1)) (wrap64 (x15_1 + 1)))) else (none)) else (none)) = some r := by first | (rw [hji6] at H; exact H) | (simp only [hji6] at H ⊢; exact H)
        by_cases c7 : 0 ≤ (ji6)
        · rw [if_pos c7] at H
          have c7b0 := eq_true c7
          have c7b1 : decide (0 ≤ (ji6)) = true := decide_eq_true c7
          clear c7
          obtain ⟨ji8, hji8⟩ : ∃ j_ : Int, (shr .i64 (wrap64 (a0 * (wrap64 (x7_1 + x6_1)))) (ji6)) = j_ := ⟨_, rfl⟩
          replace H : (if x5_1.length < 17592186044416 then (if (wrap64 (x15_1 + 1)) = 0 then (none) else (impl_trough.l0 k1 a0 a1 (x5_1 ++ [wrap64 ((ji8) - x8_1)]) (wrap64 (Int.tdiv (wrap64 (x6_1 * (wrap64 ((wrap64 (2 * a1)) - x15_1)))) (wrap64 (x15_1 + 1)))) (wrap64 (x7_1 + x6_1)) ji8 (wrap64 ((wrap64 (2 * a1)) + 1)) (wrap64 (x15_1 + 1)))) else (none)) = some r := by first | (rw [hji8] at H; exact H) | (simp only [hji8] at H ⊢; exact H)
          have hji8_ : ((wrap64 (a0 * (wrap64 (x7_1 + x6_1)))) / 2 ^ min (ji6).toNat 64) = ji8 := hji8
          have hji8z : (ji6) ≤ 64 → ((wrap64 (a0 * (wrap64 (x7_1 + x6_1)))) / 2 ^ (ji6).toNat) = ji8 := shr_small hji8
          by_cases c9 : x5_1.length < 17592186044416
          · rw [if_pos c9] at H
            have LMc9 := Aside0.mk c9
            clear c9
            obtain ⟨y184, hy184⟩ : ∃ y_ : List Int, y_ = (x5_1 ++ [wrap64 ((ji8) - x8_1)]) := ⟨_, rfl⟩
            replace H : (if (wrap64 (x15_1 + 1)) = 0 then (none) else (impl_trough.l0 k1 a0 a1 y184 (wrap64 (Int.tdiv (wrap64 (x6_1 * (wrap64 ((wrap64 (2 * a1)) - x15_1)))) (wrap64 (x15_1 + 1)))) (wrap64 (x7_1 + x6_1)) ji8 (wrap64 ((wrap64 (2 * a1)) + 1)) (wrap64 (x15_1 + 1)))) = some r := by first | (rw [hy184]; with_reducible exact H) | (have H2_ := (Option.bind_some _ _).symm.trans H; rw [hy184]; with_reducible exact H2_) | (have H2_ := (Option.bind_some _ _).symm.trans H; with_reducible exact H2_) | with_reducible exact H | (rw [hy184]; exact H) | exact H
            have Ny184 := Aside0.mk hy184
            clear hy184
            by_cases c10 : (wrap64 (x15_1 + 1)) = 0
            · rw [if_pos c10] at H
              exact absurd H (by simp)
            · rw [if_neg c10] at H
              have c10b0 : ((wrap64 (x15_1 + 1)) == 0) = false := beq_eq_false_iff_ne.mpr c10
              have c10b1 : ((wrap64 (x15_1 + 1)) != 0) = true := bne_iff_ne.mpr c10
              have H' := Aside0.mk H
              clear H
              go_wp2_with (first | ((with_reducible refine gate_builtin (b := .append) (xs := #[.tmp 28, .tmp 32]) rfl ?_); at_builtin; refine Kd.R_append (Kd.int .i64) (w0 := w) w.heap.size rfl (.tmp 28) (.tmp 32) 34 2 (.int .i64 0) 8 rfl Tryd.underlying34 info2 rfl (by decide) (by omega) u5 x5_1 (wrap64 ((ji8) - x8_1)) [.int .i64 (wrap64 ((ji8) - x8_1))] (fun _ => True) (fun _ => False) rfl rfl ?aP (fun _ hk => hk.elim) ?aF ?aO ?aB ?aS ?aL ?_; (case aP => exact rfl); (case aB => exact (by repeat (first | (with_reducible first | exact HB.out | apply below_alloc | apply pw_below_drewN | apply below_drew1) | exact HB.out))); (case aF => exact (fun _ _ => trivial)); (case aO => exact (by (with_reducible repeat (first | apply Kd.R_alloc | apply Kd.R_drewN | apply Kd.R_drew)); exact HO_5.out)); (case aS => exact (below_size (by repeat (first | (with_reducible first | exact HB.out | apply below_alloc | apply pw_below_drewN | apply below_drew1) | exact HB.out)))); (case aL => have := LMc9.out; omega); intro v185 w11 ho hb hg hat; rw [← Ny184.out] at ho; have n0_ := Aside0.mk (hb); have n1_ := Aside0.mk (ho); clear HB; clear HO_5; have HB := n0_; have HO186 := n1_; clear n0_ n1_; clear ho hb hg hat))
              go_roundg k1
              case measure => have := HK1.out; omega
              case rel => exact ⟨(y184), (wrap64 (Int.tdiv (wrap64 (x6_1 * (wrap64 ((wrap64 (2 * a1)) - x15_1)))) (wrap64 (x15_1 + 1)))), (wrap64 (x7_1 + x6_1)), (ji8), (wrap64 (x15_1 + 1)), (by first | rfl | (simp; done) | (simp [*]; done) | (simp [Int.tdiv_eq_ediv_of_nonneg, *]; done)), (by first | rfl | (simp; done) | (simp [*]; done) | (simp [Int.tdiv_eq_ediv_of_nonneg, *]; done)), (by first | rfl | (simp; done) | (simp only [← hji8] <;> (first | rfl | simp)) | (simp [*]; done)), (by first | rfl | (simp; done) | (simp [*]; done) | (simp [Int.tdiv_eq_ediv_of_nonneg, *]; done)), H', ⟨by have := HK1.out; omega⟩, ⟨by (with_reducible repeat (first | apply Kd.R_alloc | apply Kd.R_drewN | apply Kd.R_drew)); exact HO186.out⟩, ⟨by repeat (first | (with_reducible first | exact HB.out | apply below_alloc | apply pw_below_drewN | apply below_drew1) | exact HB.out)⟩⟩
          · rw [if_neg c9] at H
            exact absurd H (by simp)
        · rw [if_neg c7] at H
          exact absurd H (by simp)
      · rw [if_neg c5] at H
        have c5b0 : decide (x15_1 < (wrap64 ((wrap64 (2 * a1)) + 1))) = false := decide_eq_false c5
        clear c5
        obtain rfl := Option.some.inj H
        go_wp2
        go_ret
        exact ⟨_, by first | rfl | (simp [errW_none, errW_some] <;> rfl) | (simp [*, errW_none, errW_some] <;> rfl) | (simp [Int.tdiv_eq_ediv_of_nonneg, *]; done), by (with_reducible repeat (first | apply Kd.R_alloc | apply Kd.R_drewN | apply Kd.R_drew)); exact HO_5.out, by repeat (first | (with_reducible first | exact HB.out | apply below_alloc | apply pw_below_drewN | apply below_drew1) | exact HB.out)⟩

/-! ### impl_SettlementsOf: function 12 -/
mutual
def impl_SettlementsOf.l0 : Nat → List Int → List (S26) → Int → Int → Option (List Int × Bool)
  | 0, _, _, _, _ => none
  | k + 1, x4, x13, x14, x15 => if x15 < x14 then (if 0 ≤ x15 then (if x15 < (x13.length : Int) then ((impl_trough.f k ((rd_T26 x13 x15).f1) ((rd_T26 x13 x15).f2)).bind fun t193 => (impl_SettlementsOf.l1 k x4 x13 x14 x15 t193 (t193.length : Int) 0 ((rd_T26 x13 x15).f0) ((rd_T26 x13 x15).f1) ((rd_T26 x13 x15).f2))) else (none)) else (none)) else (some (x4, true))
def impl_SettlementsOf.l1 : Nat → List Int → List (S26) → Int → Int → List Int → Int → Int → Int → Int → Int → Option (List Int × Bool)
  | 0, _, _, _, _, _, _, _, _, _, _ => none
  | k + 1, x4, x13, x14, x15, x23, x24, x25, x193000, x193001, x193002 => if x25 < x24 then (if 0 ≤ x25 then (if x25 < (x23.length : Int) then (if 0 ≤ (wrap64 ((wrap64 (x193000 - x193002)) + x25)) then (if (wrap64 ((wrap64 (x193000 - x193002)) + x25)) < (x4.length : Int) then (impl_SettlementsOf.l1 k (x4.set ((wrap64 ((wrap64 (x193000 - x193002)) + x25)) : Int).toNat (wrap64 ((rd x4 (wrap64 ((wrap64 (x193000 - x193002)) + x25))) + (rd x23 x25)))) x13 x14 x15 x23 x24 (wrap64 (x25 + 1)) x193000 x193001 x193002) else (none)) else (none)) else (none)) else (none)) else (impl_SettlementsOf.l0 k x4 x13 x14 (wrap64 (x15 + 1)))
end
def impl_SettlementsOf.f (k : Nat) (l0 : List (S26)) : Option (List Int × Bool) := (impl_ValidLosses.f k l0).bind fun t187 => (if t187 = true then (if 24 ≤ 35184372088832 then (impl_SettlementsOf.l0 k (List.replicate 24 0) l0 (l0.length : Int) 0) else (none)) else (some (([] : List Int), false)))
theorem impl_SettlementsOf.mono_l : ∀ k, (∀ y0 y1 y2 y3, LeO (impl_SettlementsOf.l0 k y0 y1 y2 y3) (impl_SettlementsOf.l0 (k + 1) y0 y1 y2 y3)) ∧ (∀ y0 y1 y2 y3 y4 y5 y6 y7 y8 y9, LeO (impl_SettlementsOf.l1 k y0 y1 y2 y3 y4 y5 y6 y7 y8 y9) (impl_SettlementsOf.l1 (k + 1) y0 y1 y2 y3 y4 y5 y6 y7 y8 y9))
  | 0 => ⟨fun _ _ _ _ r h => by simp [impl_SettlementsOf.l0] at h, fun _ _ _ _ _ _ _ _ _ _ r h => by simp [impl_SettlementsOf.l1] at h⟩
  | k + 1 => by
    obtain ⟨ih0, ih1⟩ := impl_SettlementsOf.mono_l k
    refine ⟨?_, ?_⟩
    · intro y0 y1 y2 y3
      unfold impl_SettlementsOf.l0
      repeat' first
      | (with_reducible exact ih0 _ _ _ _)
      | (with_reducible exact ih1 _ _ _ _ _ _ _ _ _ _)
      | (with_reducible exact impl_ValidLosses.mono _ _)
      | (with_reducible exact impl_trough.mono _ _ _)
      | (with_reducible exact LeO.refl _)
      | (with_reducible exact LeO.none _)
      | (with_reducible refine LeO.ite ?_ ?_)
      | (with_reducible refine LeO.bind ?_ (fun _ => ?_))
      | exact ih0 _ _ _ _
      | exact ih1 _ _ _ _ _ _ _ _ _ _
      | exact impl_ValidLosses.mono _ _
      | exact impl_trough.mono _ _ _
      | exact LeO.none _
      | refine LeO.ite ?_ ?_
      | refine LeO.bind ?_ (fun _ => ?_)
    · intro y0 y1 y2 y3 y4 y5 y6 y7 y8 y9
      unfold impl_SettlementsOf.l1
      repeat' first
      | (with_reducible exact ih0 _ _ _ _)
      | (with_reducible exact ih1 _ _ _ _ _ _ _ _ _ _)
      | (with_reducible exact impl_ValidLosses.mono _ _)
      | (with_reducible exact impl_trough.mono _ _ _)
      | (with_reducible exact LeO.refl _)
      | (with_reducible exact LeO.none _)
      | (with_reducible refine LeO.ite ?_ ?_)
      | (with_reducible refine LeO.bind ?_ (fun _ => ?_))
      | exact ih0 _ _ _ _
      | exact ih1 _ _ _ _ _ _ _ _ _ _
      | exact impl_ValidLosses.mono _ _
      | exact impl_trough.mono _ _ _
      | exact LeO.none _
      | refine LeO.ite ?_ ?_
      | refine LeO.bind ?_ (fun _ => ?_)
theorem impl_SettlementsOf.mono : ∀ a0 k, LeO (impl_SettlementsOf.f k a0) (impl_SettlementsOf.f (k + 1) a0) := by
  intro a0 k
  obtain ⟨ih0, ih1⟩ := impl_SettlementsOf.mono_l k
  unfold impl_SettlementsOf.f
  repeat' first
      | (with_reducible exact ih0 _ _ _ _)
      | (with_reducible exact ih1 _ _ _ _ _ _ _ _ _ _)
      | (with_reducible exact impl_ValidLosses.mono _ _)
      | (with_reducible exact impl_trough.mono _ _ _)
      | (with_reducible exact LeO.refl _)
      | (with_reducible exact LeO.none _)
      | (with_reducible refine LeO.ite ?_ ?_)
      | (with_reducible refine LeO.bind ?_ (fun _ => ?_))
      | exact ih0 _ _ _ _
      | exact ih1 _ _ _ _ _ _ _ _ _ _
      | exact impl_ValidLosses.mono _ _
      | exact impl_trough.mono _ _ _
      | exact LeO.none _
      | refine LeO.ite ?_ ?_
      | refine LeO.bind ?_ (fun _ => ?_)
set_option maxHeartbeats 8000000 in
set_option maxRecDepth 100000 in
theorem impl_SettlementsOf.calls (k : Nat) (A0 : Option Addr) (c0 : Nat) (l0 : List (S26)) (r1 : List Int) (r2 : Bool) (w : World) (hr0 : Kd.C k26 w A0 l0.length l0) (hc0 : l0.length ≤ c0) (h : impl_SettlementsOf.f k l0 = some (r1, r2)) :
    Calls Tryd.prog 12 #[.slice A0 l0.length c0] w fun e w' => ∃ v0_ : Value, e = .returned (.tuple #[v0_, .bool r2]) ∧ Kd.R (Kd.int .i64) 2 w' w.heap.size (fun _ => True) v0_ r1 ∧ Below w.heap.size w w' := by
  have hu26 := Tryd.underlying26
  have HR0 := Aside0.mk hr0
  have HC0 := Aside0.mk hc0
  clear hr0 hc0
  have HB := Aside0.mk (Below.refl w.heap.size w)
  have H : ((impl_ValidLosses.f k l0).bind fun t187 => (if t187 = true then (if 24 ≤ 35184372088832 then (impl_SettlementsOf.l0 k (List.replicate 24 0) l0 (l0.length : Int) 0) else (none)) else (some (([] : List Int), false)))) = some (r1, r2) := h
  clear h
  replace H := Option.bind_eq_some_iff.mp H
  obtain ⟨t187, A20, H⟩ := H
  replace H : (if t187 = true then (if 24 ≤ 35184372088832 then (impl_SettlementsOf.l0 k (List.replicate 24 0) l0 (l0.length : Int) 0) else (none)) else (some (([] : List Int), false))) = some (r1, r2) := H
  have A2 := Aside0.mk A20
  clear A20
  by_cases c3 : t187 = true
  · subst c3
    have H1 : (if 24 ≤ 35184372088832 then (impl_SettlementsOf.l0 k (List.replicate 24 0) l0 (l0.length : Int) 0) else (none)) = some (r1, r2) := by rw [if_pos rfl] at H; exact H
    clear H
    have H := H1
    clear H1
    by_cases c4 : 24 ≤ 35184372088832
    · rw [if_pos c4] at H
      have c4b0 := eq_true c4
      have c4b1 : decide (24 ≤ 35184372088832) = true := decide_eq_true c4
      clear c4
      obtain ⟨y188, hy188⟩ : ∃ y_ : List Int, y_ = (List.replicate 24 0) := ⟨_, rfl⟩
      replace H : (impl_SettlementsOf.l0 k y188 l0 (l0.length : Int) 0) = some (r1, r2) := by first | (rw [hy188]; with_reducible exact H) | (have H2_ := (Option.bind_some _ _).symm.trans H; rw [hy188]; with_reducible exact H2_) | (have H2_ := (Option.bind_some _ _).symm.trans H; with_reducible exact H2_) | with_reducible exact H | (rw [hy188]; exact H) | exact H
      have Ny188 := Aside0.mk hy188
      clear hy188
      have H' := Aside0.mk H
      clear H
      go_enter Tryd.func12, Tryd.ntmps12
      go_wp2_with (first | ((with_reducible refine gate_callee (f := 19) rfl ?_); refine goesL_ (some 10) rfl rfl Tryd.func19 (by kernel_rfl) rfl #[.slice A0 l0.length c0] rfl (by (try simp only [List.map_toArray, List.map_cons, List.map_nil]); first | done | rfl | (simp only [List.length_drop, List.length_take]; rfl)) ?_; (with_reducible refine (impl_ValidLosses.calls k _ _ l0 true _ ?side1 ?side2 A2.out).mono ?_); (case side1 => repeat (first | exact HR0.out | (with_reducible refine Kd.C_alloc ?_ _) | (with_reducible refine Kd.C_drewN ?_ _) | (with_reducible refine Kd.C_drew ?_))); (case side2 => exact HC0.out); rintro e w5 ⟨rfl, hb⟩; refine ⟨_, rfl, ?_⟩; have n0_ := Aside0.mk (below_step (by repeat (first | (with_reducible first | exact HB.out | apply below_alloc | apply pw_below_drewN | apply below_drew1) | exact HB.out)) hb); clear HB; have HB := n0_; clear n0_; (try clear hb); (try clear hb2); (try clear hk); (try clear hi)) | ((with_reducible refine gate_dst (N := 12) rfl ?_); refine Kd.R_make (Kd.int .i64) _ 2 rfl (N := 12) rfl 34 _ _ rfl 24 rfl rfl Tryd.underlying34 (.int .i64 0) 8 info2 rfl (by decide) (by omega) 0 (ok := fun _ => True) (okp := fun _ => True) rfl (fun _ hk => hk) trivial (by omega) (by omega) (Below.refl _ _) (Nat.le_refl _) ?_; intro v189 w6 ho7 hb hg_ hnew_; clear hg_ hnew_; (first | rw [← Ny188.out] at ho7 | (simp only [Int.reduceToNat] at ho7; rw [← Ny188.out] at ho7)); have n0_ := Aside0.mk (Kd.R_lower ho7 (below_size (by repeat (first | (with_reducible first | exact HB.out | apply below_alloc | apply pw_below_drewN | apply below_drew1) | exact HB.out)))); have n1_ := Aside0.mk (below_step (by repeat (first | (with_reducible first | exact HB.out | apply below_alloc | apply pw_below_drewN | apply below_drew1) | exact HB.out)) hb); clear HB; have HO190 := n0_; have HB := n1_; clear n0_ n1_; clear hb ho7))
      go_loopg [15] k (fun kq v15 w' => ∃ (x4_1 : List Int) (x15_1 : Int), v15 = .int .i64 x15_1 ∧ Aside0 (impl_SettlementsOf.l0 kq x4_1 l0 (l0.length : Int) x15_1 = some (r1, r2)) ∧ Aside0 (kq ≤ k) ∧ Aside0 (Kd.R (Kd.int .i64) 2 w' w.heap.size (fun _ => True) v189 x4_1) ∧ Aside0 (Below w.heap.size w w'))
      case atStart => exact ⟨(y188), (0), (by first | rfl | (simp; done) | (simp [*]; done) | (simp [Int.tdiv_eq_ediv_of_nonneg, *]; done)), H', ⟨Nat.le_refl _⟩, ⟨by (with_reducible repeat (first | apply Kd.R_alloc | apply Kd.R_drewN | apply Kd.R_drew)); exact HO190.out⟩, ⟨by repeat (first | (with_reducible first | exact HB.out | apply below_alloc | apply pw_below_drewN | apply below_drew1) | exact HB.out)⟩⟩
      case round =>
        clear H'
        try clear c1
        try clear p2
        try clear c3
        try clear c4
        try clear c4b0
        try clear c4b1
        obtain ⟨x4_1, x15_1, rfl, HA, HK1, HO_4, HB⟩ := hrel
        cases gk with
        | zero => exact absurd HA.out (by simp [impl_SettlementsOf.l0])
        | succ k1 =>
          have H := HA.out
          clear HA
          simp only [impl_SettlementsOf.l0] at H
          by_cases c8 : x15_1 < (l0.length : Int)
          · rw [if_pos c8] at H
            have c8b0 : decide (x15_1 < (l0.length : Int)) = true := decide_eq_true c8
            clear c8
            by_cases c9 : 0 ≤ x15_1
            · rw [if_pos c9] at H
              have c9b0 : decide (0 ≤ x15_1) = true := decide_eq_true c9
              clear c9
              by_cases c10 : x15_1 < (l0.length : Int)
              · rw [if_pos c10] at H
                have c10b0 : decide (x15_1 < (l0.length : Int)) = true := decide_eq_true c10
                clear c10
                replace H := Option.bind_eq_some_iff.mp H
                obtain ⟨t193, A110, H⟩ := H
                replace H : (impl_SettlementsOf.l1 k1 x4_1 l0 (l0.length : Int) x15_1 t193 (t193.length : Int) 0 ((rd_T26 l0 x15_1).f0) ((rd_T26 l0 x15_1).f1) ((rd_T26 l0 x15_1).f2)) = some (r1, r2) := H
                have A11 := Aside0.mk A110
                clear A110
                have H' := Aside0.mk H
                clear H
                have p191 : 0 ≤ (x15_1 : Int) := of_decide_eq_true (by first | (with_reducible assumption) | assumption)
                have q191 : x15_1 < (l0.length : Int) := of_decide_eq_true (by first | (with_reducible assumption) | assumption)
                obtain ⟨ad191, e191, hx191_0, hx191_1, hx191_2⟩ := at_T26 HR0.out x15_1 p191 q191
                cases e191
                replace hx191_0 := (HB.out.cell (World.block_lt_of_cell? w _ hx191_0)).trans hx191_0
                replace hx191_1 := (HB.out.cell (World.block_lt_of_cell? w _ hx191_1)).trans hx191_1
                replace hx191_2 := (HB.out.cell (World.block_lt_of_cell? w _ hx191_2)).trans hx191_2
                replace p191 := eq_true p191
                replace q191 := eq_true q191
                go_wp2_with (first | ((with_reducible refine gate_dst (N := 6) rfl ?_); refine box_event ?hg (N := 6) ?hd (cs := #[.int .i64 0, .int .i64 0, .int .i64 0]) (t := 26) ?hr ?_; (case hd => rfl); (case hg => rfl); (case hr => first | (go_simp; done) | (go_simp; rfl)); intro gb192 hg w12 hbox hb; have n0_ := Aside0.mk (Kd.R_below (by (with_reducible repeat (first | apply Kd.R_alloc | apply Kd.R_drewN | apply Kd.R_drew)); exact HO_4.out) hb); have n1_ := Aside0.mk (below_step (by repeat (first | (with_reducible first | exact HB.out | apply below_alloc | apply pw_below_drewN | apply below_drew1) | exact HB.out)) hb); have n2_ := Aside0.mk (hbox); have n3_ := Aside0.mk ((by rw [hg]; exact (below_size (by repeat (first | (with_reducible first | exact HB.out | apply below_alloc | apply pw_below_drewN | apply below_drew1) | exact HB.out))) : w.heap.size ≤ gb192)); have n4_ := Aside0.mk ((by rw [hg]; exact (below_size (by repeat (first | (with_reducible first | exact HB.out | apply below_alloc | apply pw_below_drewN | apply below_drew1) | exact HB.out))) : w.heap.size ≤ gb192)); clear HO_4; clear HB; have HO_4 := n0_; have HB := n1_; have BK192 := n2_; have GW192 := n3_; have GE192 := n4_; clear n0_ n1_ n2_ n3_ n4_; clear hb hbox hg; have hcz13_0 : w12.cell? ⟨gb192, 0, none⟩ = some (.int .i64 0) := (blk_cell BK192.out 0).trans rfl; have hcz13_1 : w12.cell? ⟨gb192, 1, none⟩ = some (.int .i64 0) := (blk_cell BK192.out 1).trans rfl; have hcz13_2 : w12.cell? ⟨gb192, 2, none⟩ = some (.int .i64 0) := (blk_cell BK192.out 2).trans rfl; have hfz13_0 := blk_frozen BK192.out 0; have hfz13_1 := blk_frozen BK192.out 1; have hfz13_2 := blk_frozen BK192.out 2) | ((with_reducible refine gate_callee (f := 23) rfl ?_); refine goesL_ (some 23) rfl rfl Tryd.func23 (by kernel_rfl) rfl #[.int .i64 ((rd_T26 l0 x15_1).f1), .int .i64 ((rd_T26 l0 x15_1).f2)] rfl (by (try simp only [List.map_toArray, List.map_cons, List.map_nil]); first | done | rfl | (simp only [List.length_drop, List.length_take]; rfl)) ?_; (with_reducible refine (impl_trough.calls k1 ((rd_T26 l0 x15_1).f1) ((rd_T26 l0 x15_1).f2) t193 _ A11.out).mono ?_); rintro e w14 ⟨v194, rfl, ho0, hb⟩; refine ⟨_, rfl, ?_⟩; have n0_ := Aside0.mk (Kd.R_elder' (by (with_reducible repeat (first | apply Kd.R_alloc | apply Kd.R_drewN | apply Kd.R_drew)); exact (Kd.R_mono (Kd.R_far (p := ⟨gb192, 2, none⟩) (Kd.R_far (p := ⟨gb192, 1, none⟩) (Kd.R_far (p := ⟨gb192, 0, none⟩) (Kd.R_types HO_4.out BK192.out (by decide)) (fun _ hk => hk.2) (.int .i64 ((rd_T26 l0 x15_1).f0))) (fun _ hk => hk.2) (.int .i64 ((rd_T26 l0 x15_1).f1))) (fun _ hk => hk.2) (.int .i64 ((rd_T26 l0 x15_1).f2))) (fun _ h_ => h_.1))) (Kd.R_base ho0) hb); have n1_ := Aside0.mk (Kd.R_lower (Kd.R_new' ho0 (Kd.R_lt (by (with_reducible repeat (first | apply Kd.R_alloc | apply Kd.R_drewN | apply Kd.R_drew)); exact (Kd.R_mono (Kd.R_far (p := ⟨gb192, 2, none⟩) (Kd.R_far (p := ⟨gb192, 1, none⟩) (Kd.R_far (p := ⟨gb192, 0, none⟩) (Kd.R_types HO_4.out BK192.out (by decide)) (fun _ hk => hk.2) (.int .i64 ((rd_T26 l0 x15_1).f0))) (fun _ hk => hk.2) (.int .i64 ((rd_T26 l0 x15_1).f1))) (fun _ hk => hk.2) (.int .i64 ((rd_T26 l0 x15_1).f2))) (fun _ h_ => h_.1))))) (below_size (by repeat (first | (with_reducible first | exact HB.out | apply below_alloc | apply pw_below_drewN | apply below_drew1 | refine below_set ?_ GE192.out) | exact HB.out)))); have n2_ := Aside0.mk (blk_below (g := gb192) (o := .cells #[.int .i64 ((rd_T26 l0 x15_1).f0), .int .i64 ((rd_T26 l0 x15_1).f1), .int .i64 ((rd_T26 l0 x15_1).f2)] 26 (0, 0)) (by (with_reducible repeat (first | refine blk_drewN ?_ _ | refine blk_drew ?_ | refine blk_alloc ?_ _)); refine blk_put (cs := #[.int .i64 ((rd_T26 l0 x15_1).f0), .int .i64 ((rd_T26 l0 x15_1).f1), .int .i64 0]) ?_ 2 _ rfl; (with_reducible repeat (first | refine blk_drewN ?_ _ | refine blk_drew ?_ | refine blk_alloc ?_ _)); refine blk_put (cs := #[.int .i64 ((rd_T26 l0 x15_1).f0), .int .i64 0, .int .i64 0]) ?_ 1 _ rfl; (with_reducible repeat (first | refine blk_drewN ?_ _ | refine blk_drew ?_ | refine blk_alloc ?_ _)); refine blk_put (cs := #[.int .i64 0, .int .i64 0, .int .i64 0]) ?_ 0 _ rfl; (with_reducible repeat (first | refine blk_drewN ?_ _ | refine blk_drew ?_ | refine blk_alloc ?_ _)); exact BK192.out) hb); have n3_ := Aside0.mk (below_step (by repeat (first | (with_reducible first | exact HB.out | apply below_alloc | apply pw_below_drewN | apply below_drew1 | refine below_set ?_ GE192.out) | exact HB.out)) hb); clear HO_4; clear BK192; clear HB; have HO_4 := n0_; have HO195 := n1_; have BK192 := n2_; have HB := n3_; clear n0_ n1_ n2_ n3_; (try clear hb); (try clear hb2); (try clear hk); (try clear hi); (try clear ho0); obtain ⟨Ao15, co15, eo15⟩ := Kd.R_slice HO195.out; subst eo15))
                go_loopg [25] k1 (fun kq v25 w' => ∃ (x4_2 : List Int) (x25_2 : Int), v25 = .int .i64 x25_2 ∧ Aside0 (impl_SettlementsOf.l1 kq x4_2 l0 (l0.length : Int) x15_1 t193 (t193.length : Int) x25_2 ((rd_T26 l0 x15_1).f0) ((rd_T26 l0 x15_1).f1) ((rd_T26 l0 x15_1).f2) = some (r1, r2)) ∧ Aside0 (kq ≤ k1) ∧ Aside0 (Kd.R (Kd.int .i64) 2 w' w.heap.size (fun k_ => some k_ ≠ ((.slice Ao15 t193.length co15) : Value).ownBlock) v189 x4_2) ∧ Aside0 (Kd.R (Kd.int .i64) 2 w' w.heap.size (fun k_ => some k_ ≠ (v189 : Value).ownBlock) (.slice Ao15 t193.length co15) t193) ∧ Aside0 (w'.heap[gb192]? = some (.cells #[.int .i64 ((rd_T26 l0 x15_1).f0), .int .i64 ((rd_T26 l0 x15_1).f1), .int .i64 ((rd_T26 l0 x15_1).f2)] 26 (0, 0))) ∧ Aside0 (Below w.heap.size w w'))
                case atStart => exact ⟨(x4_1), (0), (by first | rfl | (simp; done) | (simp [*]; done) | (simp [Int.tdiv_eq_ediv_of_nonneg, *]; done)), H', ⟨Nat.le_refl _⟩, ⟨by (with_reducible repeat (first | apply Kd.R_alloc | apply Kd.R_drewN | apply Kd.R_drew)); exact Kd.R_mono HO_4.out (fun _ hk => hk.2)⟩, ⟨by (with_reducible repeat (first | apply Kd.R_alloc | apply Kd.R_drewN | apply Kd.R_drew)); exact Kd.R_mono HO195.out (fun _ hk => hk.2)⟩, ⟨by (with_reducible repeat (first | refine blk_drewN ?_ _ | refine blk_drew ?_ | refine blk_alloc ?_ _)); exact BK192.out⟩, ⟨by repeat (first | (with_reducible first | exact HB.out | apply below_alloc | apply pw_below_drewN | apply below_drew1 | refine below_set ?_ GE192.out) | exact HB.out)⟩⟩
                case round =>
                  clear H'
                  try clear c1
                  try clear p1
                  try clear q1
                  try clear hx1
                  try clear c2
                  try clear p2
                  try clear c3
                  try clear c4
                  try clear c4b0
                  try clear c4b1
                  try clear c8
                  try clear c8b0
                  try clear c9
                  try clear c9b0
                  try clear c10
                  try clear c10b0
                  try clear c12
                  try clear hcz13_0
                  try clear hcz13_1
                  try clear hcz13_2
                  try clear hfz13_0
                  try clear hfz13_1
                  try clear hfz13_2
                  try clear hx191_0
                  try clear hx191_1
                  try clear hx191_2
                  try clear p191
                  try clear p2
                  try clear q191
                  obtain ⟨x4_2, x25_2, rfl, HA, HK2, HO_4, HO_23, BK192, HB⟩ := hrel
                  cases gk with
                  | zero => exact absurd HA.out (by simp [impl_SettlementsOf.l1])
                  | succ k2 =>
                    have H := HA.out
                    clear HA
                    simp only [impl_SettlementsOf.l1] at H
                    by_cases c16 : x25_2 < (t193.length : Int)
                    · rw [if_pos c16] at H
                      have c16b0 : decide (x25_2 < (t193.length : Int)) = true := decide_eq_true c16
                      clear c16
                      by_cases c17 : 0 ≤ x25_2
                      · rw [if_pos c17] at H
                        have c17b0 : decide (0 ≤ x25_2) = true := decide_eq_true c17
                        clear c17
                        by_cases c18 : x25_2 < (t193.length : Int)
                        · rw [if_pos c18] at H
                          have c18b0 : decide (x25_2 < (t193.length : Int)) = true := decide_eq_true c18
                          clear c18
                          obtain ⟨ji19, hji19⟩ : ∃ j_ : Int, (wrap64 ((wrap64 (((rd_T26 l0 x15_1).f0) - ((rd_T26 l0 x15_1).f2))) + x25_2)) = j_ := ⟨_, rfl⟩
                          replace H : (if 0 ≤ (ji19) then (if (ji19) < (x4_2.length : Int) then (impl_SettlementsOf.l1 k2 (x4_2.set ((ji19) : Int).toNat (wrap64 ((rd x4_2 (ji19)) + (rd t193 x25_2)))) l0 (l0.length : Int) x15_1 t193 (t193.length : Int) (wrap64 (x25_2 + 1)) ((rd_T26 l0 x15_1).f0) ((rd_T26 l0 x15_1).f1) ((rd_T26 l0 x15_1).f2)) else (none)) else (none)) = some (r1, r2) := by first | (rw [hji19] at H; exact H) | (simp only [hji19] at H ⊢; exact H)
                          have hji19w : (IntKind.i64.wrap ((wrap64 (((rd_T26 l0 x15_1).f0) - ((rd_T26 l0 x15_1).f2))) + x25_2)) = ji19 := (i64_w _).trans hji19
                          by_cases c20 : 0 ≤ (ji19)
                          · rw [if_pos c20] at H
                            have c20b0 : decide (0 ≤ (ji19)) = true := decide_eq_true c20
                            clear c20
                            by_cases c21 : (ji19) < (x4_2.length : Int)
                            · rw [if_pos c21] at H
                              have c21b0 : decide ((ji19) < (x4_2.length : Int)) = true := decide_eq_true c21
                              clear c21
                              obtain ⟨y198, hy198⟩ : ∃ y_ : List Int, y_ = (x4_2.set ((ji19) : Int).toNat (wrap64 ((rd x4_2 (ji19)) + (rd t193 x25_2)))) := ⟨_, rfl⟩
                              replace H : (impl_SettlementsOf.l1 k2 y198 l0 (l0.length : Int) x15_1 t193 (t193.length : Int) (wrap64 (x25_2 + 1)) ((rd_T26 l0 x15_1).f0) ((rd_T26 l0 x15_1).f1) ((rd_T26 l0 x15_1).f2)) = some (r1, r2) := by first | (rw [hy198]; with_reducible exact H) | (have H2_ := (Option.bind_some _ _).symm.trans H; rw [hy198]; with_reducible exact H2_) | (have H2_ := (Option.bind_some _ _).symm.trans H; with_reducible exact H2_) | with_reducible exact H | (rw [hy198]; exact H) | exact H
                              have Ny198 := Aside0.mk hy198
                              clear hy198
                              have H' := Aside0.mk H
                              clear H
                              have p196 : 0 ≤ (x25_2 : Int) := of_decide_eq_true (by first | (with_reducible assumption) | assumption)
                              have q196 : x25_2 < (t193.length : Int) := of_decide_eq_true (by first | (with_reducible assumption) | assumption)
                              obtain ⟨ad196, e196, hx196_0⟩ := Kd.at_int (Kd.R_reads' HO_23.out).2.2 x25_2 p196 q196
                              cases e196
                              replace p196 := eq_true p196
                              replace q196 := eq_true q196
                              have hcz23_0 : wr.cell? ⟨gb192, 0, none⟩ = some (.int .i64 ((rd_T26 l0 x15_1).f0)) := (blk_cell BK192.out 0).trans rfl
                              have hcz23_1 : wr.cell? ⟨gb192, 1, none⟩ = some (.int .i64 ((rd_T26 l0 x15_1).f1)) := (blk_cell BK192.out 1).trans rfl
                              have hcz23_2 : wr.cell? ⟨gb192, 2, none⟩ = some (.int .i64 ((rd_T26 l0 x15_1).f2)) := (blk_cell BK192.out 2).trans rfl
                              have hfz23_0 := blk_frozen BK192.out 0
                              have hfz23_1 := blk_frozen BK192.out 1
                              have hfz23_2 := blk_frozen BK192.out 2
                              obtain ⟨Ao24, co24, eo24⟩ := Kd.R_slice HO_4.out
                              subst eo24
                              have p197 : 0 ≤ ((ji19) : Int) := of_decide_eq_true (by first | (with_reducible assumption) | assumption)
                              have q197 : (ji19) < (x4_2.length : Int) := of_decide_eq_true (by first | (with_reducible assumption) | assumption)
                              obtain ⟨ad197, e197, hx197_0⟩ := Kd.at_int (Kd.R_reads' HO_4.out).2.2 (ji19) p197 q197
                              cases e197
                              replace p197 := eq_true p197
                              replace q197 := eq_true q197
                              have p22 : 0 ≤ ((ji19) : Int) := of_decide_eq_true (by first | (with_reducible assumption) | assumption)
                              have q22 : ((ji19) : Int) < ((x4_2.length : Int) : Int) := of_decide_eq_true (by first | (with_reducible assumption) | assumption)
                              obtain ⟨go22, co22, eo22, gb22, gl22, cl22, HG22⟩ := Kd.R_form HO_4.out (by omega)
                              (first | cases eo22 | (injection eo22 with ea_ en_ ec_; (first | subst ea_ | (injection ea_ with ea_; subst ea_)); subst ec_; clear en_))
                              have GB22 := Aside0.mk gb22
                              have GG22 := Aside0.mk HG22
                              clear gb22 gl22 HG22
                              (first | simp only [add_plain] at hx197_0 | skip)
                              obtain ⟨hx22_0, hf22_0⟩ := Kd.R_celln 0 HO_4.out ((ji19) : Int) p22 q22
                              replace p22 := eq_true p22
                              replace q22 := eq_true q22
                              have HP25 := Kd.R_putg HO_4.out ((ji19) : Int) (wrap64 ((rd x4_2 (ji19)) + (rd t193 x25_2)))
                              go_wp2_with (first | ((with_reducible refine gate_store (t := 2) (p := 42) rfl ?_); refine store_event (t := 2) (p := 42) (v := ?vo_w26) (w1 := (wr.setCell ⟨go22, ((ji19) : Int).toNat, none⟩ (.int .i64 (wrap64 ((rd x4_2 (ji19)) + (rd t193 x25_2)))))) ?hg ?ho ?hn ?hr ?_; (case ho => rfl); (case hg => rfl); (case hn => rfl); (case hr => first | (go_simp; done) | (go_simp; rfl)); intro w26 hw; have hg : wr.grownBy w26 (some go22) := (by rw [hw]; exact HP25.2); have hp_ : Kd.R (Kd.int .i64) 2 w26 w.heap.size (fun k_ => some k_ ≠ (.slice (some ad196) t193.length co15 : Value).ownBlock) (.slice (some ⟨go22, 0, none⟩) x4_2.length co24) y198 := (by rw [hw, Ny198.out]; exact HP25.1); clear HP25; have n0_ := Aside0.mk (hp_); have n1_ := Aside0.mk (Kd.R_after (v := (.slice (some ⟨go22, 0, none⟩) x4_2.length co24)) (v1 := (.slice (some ⟨go22, 0, none⟩) x4_2.length co24)) (ok := (fun _ => True)) (by (with_reducible repeat (first | apply Kd.R_alloc | apply Kd.R_drewN | apply Kd.R_drew)); exact Kd.R_mono HO_23.out (fun _ hk => ⟨trivial, hk⟩)) hg (.inl rfl)); have n2_ := Aside0.mk (blk_grown (g := gb192) (o := .cells #[.int .i64 ((rd_T26 l0 x15_1).f0), .int .i64 ((rd_T26 l0 x15_1).f1), .int .i64 ((rd_T26 l0 x15_1).f2)] 26 (0, 0)) (by (with_reducible repeat (first | refine blk_drewN ?_ _ | refine blk_drew ?_ | refine blk_alloc ?_ _)); exact BK192.out) hg (Kd.R_ne HO_4.out BK192.out (by decide))); have n3_ := Aside0.mk ((by rw [hw]; exact below_set (HB.out) GB22.out : Below w.heap.size w w26)); clear HO_4; clear HO_23; clear BK192; clear HB; have HO_4 := n0_; have HO_23 := n1_; have BK192 := n2_; have HB := n3_; clear n0_ n1_ n2_ n3_; clear hg hw hp_))
                              go_roundg k2
                              case measure => have := HK1.out; have := HK2.out; omega
                              case rel => exact ⟨(y198), (wrap64 (x25_2 + 1)), (by first | rfl | (simp; done) | (simp [*]; done) | (simp [Int.tdiv_eq_ediv_of_nonneg, *]; done)), H', ⟨by have := HK1.out; have := HK2.out; omega⟩, ⟨by (with_reducible repeat (first | apply Kd.R_alloc | apply Kd.R_drewN | apply Kd.R_drew)); exact HO_4.out⟩, ⟨by (with_reducible repeat (first | apply Kd.R_alloc | apply Kd.R_drewN | apply Kd.R_drew)); exact Kd.R_mono HO_23.out (fun _ hk => hk.2)⟩, ⟨by (with_reducible repeat (first | refine blk_drewN ?_ _ | refine blk_drew ?_ | refine blk_alloc ?_ _)); exact BK192.out⟩, ⟨by repeat (first | (with_reducible first | exact HB.out | apply below_alloc | apply pw_below_drewN | apply below_drew1 | refine below_set ?_ GE192.out) | exact HB.out)⟩⟩
                            · rw [if_neg c21] at H
                              exact absurd H (by simp)
                          · rw [if_neg c20] at H
                            exact absurd H (by simp)
                        · rw [if_neg c18] at H
                          exact absurd H (by simp)
                      · rw [if_neg c17] at H
                        exact absurd H (by simp)
                    · rw [if_neg c16] at H
                      have c16b0 : decide (x25_2 < (t193.length : Int)) = false := decide_eq_false c16
                      clear c16
                      have H' := Aside0.mk H
                      clear H
                      go_wp2
                      go_roundg k2
                      case measure => have := HK1.out; have := HK2.out; omega
                      case rel => exact ⟨(x4_2), (wrap64 (x15_1 + 1)), (by first | rfl | (simp; done) | (simp [*]; done) | (simp [Int.tdiv_eq_ediv_of_nonneg, *]; done)), H', ⟨by have := HK1.out; have := HK2.out; omega⟩, ⟨by (with_reducible repeat (first | apply Kd.R_alloc | apply Kd.R_drewN | apply Kd.R_drew)); exact Kd.R_mono HO_4.out (fun _ hk => trivial)⟩, ⟨by repeat (first | (with_reducible first | exact HB.out | apply below_alloc | apply pw_below_drewN | apply below_drew1 | refine below_set ?_ GE192.out) | exact HB.out)⟩⟩
              · rw [if_neg c10] at H
                exact absurd H (by simp)
            · rw [if_neg c9] at H
              exact absurd H (by simp)
          · rw [if_neg c8] at H
            have c8b0 : decide (x15_1 < (l0.length : Int)) = false := decide_eq_false c8
            clear c8
            simp only [Option.some.injEq, Prod.mk.injEq] at H
            obtain ⟨rfl, rfl⟩ := H
            go_wp2
            go_ret2
            exact ⟨_, by first | rfl | (simp [errW_none, errW_some] <;> rfl) | (simp [*, errW_none, errW_some] <;> rfl) | (simp [Int.tdiv_eq_ediv_of_nonneg, *]; done), by (with_reducible repeat (first | apply Kd.R_alloc | apply Kd.R_drewN | apply Kd.R_drew)); exact HO_4.out, by repeat (first | (with_reducible first | exact HB.out | apply below_alloc | apply pw_below_drewN | apply below_drew1) | exact HB.out)⟩
    · rw [if_neg c4] at H
      exact absurd H (by simp)
  · replace c3 := Bool.eq_false_iff.mpr c3
    subst c3
    have H1 : (some (([] : List Int), false)) = some (r1, r2) := by rw [if_neg (show ¬ (false = true) by decide)] at H; exact H
    clear H
    have H := H1
    clear H1
    simp only [Option.some.injEq, Prod.mk.injEq] at H
    obtain ⟨rfl, rfl⟩ := H
    go_enter Tryd.func12, Tryd.ntmps12
    go_wp2_with (first | ((with_reducible refine gate_callee (f := 19) rfl ?_); refine goesL_ (some 10) rfl rfl Tryd.func19 (by kernel_rfl) rfl #[.slice A0 l0.length c0] rfl (by (try simp only [List.map_toArray, List.map_cons, List.map_nil]); first | done | rfl | (simp only [List.length_drop, List.length_take]; rfl)) ?_; (with_reducible refine (impl_ValidLosses.calls k _ _ l0 false _ ?side1 ?side2 A2.out).mono ?_); (case side1 => repeat (first | exact HR0.out | (with_reducible refine Kd.C_alloc ?_ _) | (with_reducible refine Kd.C_drewN ?_ _) | (with_reducible refine Kd.C_drew ?_))); (case side2 => exact HC0.out); rintro e w27 ⟨rfl, hb⟩; refine ⟨_, rfl, ?_⟩; have n0_ := Aside0.mk (below_step (by repeat (first | (with_reducible first | exact HB.out | apply below_alloc | apply pw_below_drewN | apply below_drew1) | exact HB.out)) hb); clear HB; have HB := n0_; clear n0_; (try clear hb); (try clear hb2); (try clear hk); (try clear hi)))
    go_ret2
    exact ⟨_, by first | rfl | (simp [errW_none, errW_some] <;> rfl) | (simp [*, errW_none, errW_some] <;> rfl) | (simp [Int.tdiv_eq_ediv_of_nonneg, *]; done), by first | exact Kd.R_nil _ _ _ _ _ | exact Kd.N_nil _ _ _ _ _ | exact Kd.V_nil _ _ _ _ _ | exact Kd.Q_nil _ _ _ _ _ | exact Kd.S_nil _ _ _ _ _, by repeat (first | (with_reducible first | exact HB.out | apply below_alloc | apply pw_below_drewN | apply below_drew1) | exact HB.out)⟩

end Go.Proofs.YtegjebiocgbmpaaDoor.P
-- Walks of this claim's functions, laid by a program of this session.
namespace Go.Proofs.YtegjebiocgbmpaaDoor.P
open Go.RowKit Go.Proofs.YtegjebiocgbmpaaDoorW.PrintWords Go.Proofs.YtegjebiocgbmpaaDoorW.PrintLast Go.Proofs.YtegjebiocgbmpaaDoorW.PrintMore
attribute [local go_sem] max2_int min2_int max_two min_two max_three min_three max_four min_four   -- for this text's walks alone
set_option linter.unusedVariables false
set_option linter.unusedSimpArgs false

/-! ### impl_areWithin: function 35 -/
def impl_areWithin.all (lo hi : Int) (l : List Int) : Bool := l.all fun n => decide (lo ≤ n ∧ n ≤ hi)
def impl_areWithin.f (l0 : List Int) (a1 : Int) (a2 : Int) : Option (Bool) := some (impl_areWithin.all a1 a2 l0)
theorem impl_areWithin.within_is (a b c : Int) : impl_within.f a b c = some (decide (b ≤ a ∧ a ≤ c)) := by
  unfold impl_within.f
  by_cases h : b ≤ a <;> simp [h]
theorem impl_areWithin.clo (b1 b2 : Nat) (n lo hi : Int) (w : World) (h1 : w.cell? ⟨b1, 0, none⟩ = some (.int .i64 lo)) (h2 : w.cell? ⟨b2, 0, none⟩ = some (.int .i64 hi)) :
    Calls Tryd.prog 42 #[.int .i64 n, .pointer (some ⟨b1, 0, none⟩), .pointer (some ⟨b2, 0, none⟩)] w fun e w' => e = .returned (.bool (!decide (lo ≤ n ∧ n ≤ hi))) ∧ Drawn0 w w' := by
  obtain ⟨t, ht⟩ : ∃ t, impl_within.f n lo hi = some t := ⟨_, impl_areWithin.within_is n lo hi⟩
  have e : decide (lo ≤ n ∧ n ≤ hi) = t := by rw [impl_areWithin.within_is] at ht; exact Option.some.inj ht
  rw [e]
  clear e
  have HT := Aside0.mk ht
  clear ht
  go_enter Tryd.func42, Tryd.ntmps42
  go_wp2_with (first | (go_at_call 32; (with_reducible refine (impl_within.calls n lo hi t _ HT.out).mono ?_); rintro e w' ⟨rfl, ⟨nd, rfl⟩⟩))
  go_ret
  exact ⟨by first | rfl | (simp; done) | (simp [*]; done) | (simp [Int.tdiv_eq_ediv_of_nonneg, *]; done), by repeat (first | exact Drawn0.refl _ | apply Drawn0.step)⟩
set_option maxHeartbeats 1000000 in
set_option maxRecDepth 100000 in
theorem impl_areWithin.ix (A0 : Option Addr) (c0 : Nat) (l0 : List Int) (b1 b2 : Nat) (lo hi : Int) (w : World) (hr0 : Kd.C (Kd.int .i64) w A0 l0.length l0) (hc0 : l0.length ≤ c0)
    (h1 : w.cell? ⟨b1, 0, none⟩ = some (.int .i64 lo)) (h2 : w.cell? ⟨b2, 0, none⟩ = some (.int .i64 hi)) :
    Calls Tryd.prog 50 #[.slice A0 l0.length c0, .func (.func 42) #[] #[.pointer (some ⟨b1, 0, none⟩), .pointer (some ⟨b2, 0, none⟩)]] w fun e w' => ∃ v : Int, e = .returned (.int .i64 v) ∧ Aside0 (decide (0 ≤ v) = !impl_areWithin.all lo hi l0) ∧ Drawn0 w w' := by
  have HR0 := Aside0.mk hr0
  have HC0 := Aside0.mk hc0
  clear hr0 hc0
  have hlen : l0.length ≤ 9223372036854775807 := HR0.out.2.1
  go_enter Tryd.func50, Tryd.ntmps50
  go_wp2
  go_loopg [8] l0.length (fun kq v8 w' => ∃ x : Int, v8 = .int .i64 x ∧ Aside0 (0 ≤ x ∧ x ≤ l0.length) ∧ Aside0 (impl_areWithin.all lo hi (l0.take x.toNat) = true) ∧ Aside0 (x.toNat + kq = l0.length) ∧ Drawn0 w w')
  case atStart => exact ⟨0, (by first | rfl | (simp; done)), ⟨by omega⟩, ⟨by simp [impl_areWithin.all]⟩, ⟨by simp⟩, Drawn0.refl _⟩
  case round =>
    obtain ⟨x, rfl, HX, HA, HK, ⟨m1, rfl⟩⟩ := hrel
    by_cases c1 : x < (l0.length : Int)
    · have c1b0 : decide (x < (l0.length : Int)) = true := decide_eq_true c1
      have p1 : 0 ≤ x := HX.out.1
      have hlt : x.toNat < l0.length := by have := HX.out; omega
      obtain ⟨ad, e, hx⟩ := Kd.at_int HR0.out x p1 c1
      cases e
      have p2 : decide (0 ≤ x) = true := decide_eq_true p1
      have hq1 : (w.drewN m1).cell? ⟨b1, 0, none⟩ = some (.int .i64 lo) := h1
      have hq2 : (w.drewN m1).cell? ⟨b2, 0, none⟩ = some (.int .i64 hi) := h2
      obtain ⟨t, ht⟩ : ∃ t, (!decide (lo ≤ rd l0 x ∧ rd l0 x ≤ hi)) = t := ⟨_, rfl⟩
      have HT := Aside0.mk ht
      have HC := Aside0.mk (ht ▸ impl_areWithin.clo b1 b2 (rd l0 x) lo hi (w.drewN m1) hq1 hq2)
      have hget : l0[x.toNat]'hlt = rd l0 x := by unfold rd; rw [List.getD_eq_getElem?_getD, List.getElem?_eq_getElem hlt]; rfl
      have HG := Aside0.mk hget
      clear ht hq1 hq2 hget
      cases t with
      | true =>
        go_wp2_with (first | (go_at_call 42; (with_reducible refine HC.out.mono ?_); rintro e w' ⟨rfl, ⟨nd, rfl⟩⟩))
        go_ret
        refine ⟨x, rfl, ⟨?_⟩, by repeat (first | exact Drawn0.refl _ | apply Drawn0.step)⟩
        have hn : impl_areWithin.all lo hi l0 = false := by
          unfold impl_areWithin.all
          rw [List.all_eq_false]
          refine ⟨rd l0 x, ?_, ?_⟩
          · rw [← HG.out]
            exact List.getElem_mem hlt
          · have := HT.out
            intro h
            rw [h] at this
            exact absurd this (by decide)
        rw [hn]
        exact decide_eq_true p1
      | false =>
        have hx1 : x + 1 ≤ l0.length := by omega
        go_wp2_with (first | (go_at_call 42; (with_reducible refine HC.out.mono ?_); rintro e w' ⟨rfl, ⟨nd, rfl⟩⟩))
        cases gk with
        | zero => exact absurd HK.out (by have := HX.out; omega)
        | succ k1 =>
        go_roundg k1
        case measure => omega
        case rel =>
          refine ⟨x + 1, by first | rfl | (simp; done), ⟨by omega⟩, ⟨?_⟩, ⟨by have := HK.out; omega⟩, by repeat (first | exact Drawn0.refl _ | apply Drawn0.step)⟩
          have e1 : (x + 1).toNat = x.toNat + 1 := by omega
          rw [e1, List.take_succ_eq_append_getElem hlt, HG.out]
          have h3 := HA.out
          have h4 := HT.out
          unfold impl_areWithin.all at h3 ⊢
          rw [List.all_append, h3]
          simpa using h4
    · have hx2 : x.toNat = l0.length := by have := HX.out; omega
      have HX2 := Aside0.mk hx2
      clear hx2
      have c1b0 : decide (x < (l0.length : Int)) = false := decide_eq_false c1
      go_wp2
      go_ret
      refine ⟨-1, rfl, ⟨?_⟩, by repeat (first | exact Drawn0.refl _ | apply Drawn0.step)⟩
      have := HA.out
      rw [HX2.out, List.take_length] at this
      rw [this]
      rfl
theorem impl_areWithin.cf (A0 : Option Addr) (c0 : Nat) (l0 : List Int) (b1 b2 : Nat) (lo hi : Int) (w : World) (hr0 : Kd.C (Kd.int .i64) w A0 l0.length l0) (hc0 : l0.length ≤ c0)
    (h1 : w.cell? ⟨b1, 0, none⟩ = some (.int .i64 lo)) (h2 : w.cell? ⟨b2, 0, none⟩ = some (.int .i64 hi)) :
    Calls Tryd.prog 41 #[.slice A0 l0.length c0, .func (.func 42) #[] #[.pointer (some ⟨b1, 0, none⟩), .pointer (some ⟨b2, 0, none⟩)]] w fun e w' => e = .returned (.bool (!impl_areWithin.all lo hi l0)) ∧ Drawn0 w w' := by
  obtain ⟨t, ht⟩ : ∃ t, (!impl_areWithin.all lo hi l0) = t := ⟨_, rfl⟩
  have HIX := Aside0.mk (ht ▸ impl_areWithin.ix A0 c0 l0 b1 b2 lo hi w hr0 hc0 h1 h2)
  rw [ht]
  clear hr0 hc0 h1 h2 ht
  go_enter Tryd.func41, Tryd.ntmps41
  go_wp2_with (first | (go_at_call 50; (with_reducible refine HIX.out.mono ?_); rintro e w' ⟨v, rfl, HV, ⟨nd, rfl⟩⟩; have hv := HV.out))
  go_ret
  exact ⟨by first | rfl | (simp [*]; done), by repeat (first | exact Drawn0.refl _ | apply Drawn0.step)⟩
theorem impl_areWithin.calls (A0 : Option Addr) (c0 : Nat) (l0 : List Int) (a1 : Int) (a2 : Int) (r : Bool) (w : World) (hr0 : Kd.C (Kd.int .i64) w A0 l0.length l0) (hc0 : l0.length ≤ c0) (h : impl_areWithin.f l0 a1 a2 = some r) :
    Calls Tryd.prog 35 #[.slice A0 l0.length c0, .int .i64 a1, .int .i64 a2] w fun e w' => e = .returned (.bool r) ∧ Below w.heap.size w w' := by
  have e : impl_areWithin.all a1 a2 l0 = r := Option.some.inj h
  have hmf : ∀ (fn : Fn) (first cap : Array Value) (w : World), (Instr.makeFunc fn first cap).run Tryd.prog w = .ok (.func fn first cap) w := fun _ _ _ _ => rfl
  have hM : ((w.alloc (.cells #[.int .i64 a1] 2)).alloc (.cells #[.int .i64 a2] 2)).cell? ⟨w.heap.size, 0, none⟩ = some (.int .i64 a1) := by
    rw [World.cell?_alloc_past _ _ _ (by simp), World.cell?_alloc_at _ _ _ _ rfl]; rfl
  have hD : ((w.alloc (.cells #[.int .i64 a1] 2)).alloc (.cells #[.int .i64 a2] 2)).cell? ⟨w.heap.size + 1, 0, none⟩ = some (.int .i64 a2) := by
    rw [World.cell?_alloc_at _ _ _ _ (by simp)]; rfl
  have hb : Below w.heap.size w ((w.alloc (.cells #[.int .i64 a1] 2)).alloc (.cells #[.int .i64 a2] 2)) := ((Below.refl _ _).alloc (Nat.le_refl _) _).alloc (by simp) _
  have HC := Aside0.mk (e ▸ impl_areWithin.cf A0 c0 l0 w.heap.size (w.heap.size + 1) a1 a2 _ (Kd.C_below hr0 hb) hc0 hM hD)
  clear hr0 hc0 h e hM hD hb
  go_enter Tryd.func35, Tryd.ntmps35
  go_wp2_with (first | (go_at_call 41; (with_reducible refine HC.out.mono ?_); rintro e w' ⟨rfl, ⟨nd, rfl⟩⟩))
  go_ret
  exact ⟨by first | rfl | (simp [*]; done), by repeat (first | exact Below.refl _ _ | apply below_alloc | apply pw_below_drewN | apply below_drew1)⟩

/-! ### impl_isSettled: function 24 -/
def impl_isSettled.f (l0 : List Int) : Option (Bool) := if (l0.length : Int) = 24 then ((impl_areWithin.f l0 0 2000000).bind fun t199 => (some t199)) else (some false)
set_option maxHeartbeats 8000000 in
set_option maxRecDepth 100000 in
theorem impl_isSettled.calls (A0 : Option Addr) (c0 : Nat) (l0 : List Int) (r : Bool) (w : World) (hr0 : Kd.C (Kd.int .i64) w A0 l0.length l0) (hc0 : l0.length ≤ c0) (h : impl_isSettled.f l0 = some r) :
    Calls Tryd.prog 24 #[.slice A0 l0.length c0] w fun e w' => e = .returned (.bool r) ∧ Below w.heap.size w w' := by
  have HR0 := Aside0.mk hr0
  have HC0 := Aside0.mk hc0
  clear hr0 hc0
  have HB := Aside0.mk (Below.refl w.heap.size w)
  have H : (if (l0.length : Int) = 24 then ((impl_areWithin.f l0 0 2000000).bind fun t199 => (some t199)) else (some false)) = some r := h
  clear h
  by_cases c2 : (l0.length : Int) = 24
  · rw [if_pos c2] at H
    have c2b0 : ((l0.length : Int) == 24) = true := beq_iff_eq.mpr c2
    have c2b1 : ((l0.length : Int) != 24) = false := bne_eq_false_iff_eq.mpr c2
    clear c2
    replace H := Option.bind_eq_some_iff.mp H
    obtain ⟨t199, A30, H⟩ := H
    replace H : (some t199) = some r := H
    have A3 := Aside0.mk A30
    clear A30
    obtain rfl := Option.some.inj H
    go_enter Tryd.func24, Tryd.ntmps24
    go_wp2_with (first | (go_at_call 35; (with_reducible refine (impl_areWithin.calls _ _ l0 0 2000000 t199 _ ?side1 ?side2 A3.out).mono ?_); (case side1 => repeat (first | exact HR0.out | (with_reducible refine Kd.C_alloc ?_ _) | (with_reducible refine Kd.C_drewN ?_ _) | (with_reducible refine Kd.C_drew ?_))); (case side2 => exact HC0.out); rintro e w4 ⟨rfl, hb⟩; have n0_ := Aside0.mk (below_step (by repeat (first | (with_reducible first | exact HB.out | apply below_alloc | apply pw_below_drewN | apply below_drew1) | exact HB.out)) hb); clear HB; have HB := n0_; clear n0_; (try clear hb); (try clear hb2); (try clear hk); (try clear hi)))
    go_ret
    exact ⟨by first | rfl | (simp [errW_none, errW_some] <;> rfl) | (simp [*, errW_none, errW_some] <;> rfl) | (simp [Int.tdiv_eq_ediv_of_nonneg, *]; done), by repeat (first | (with_reducible first | exact HB.out | apply below_alloc | apply pw_below_drewN | apply below_drew1) | exact HB.out)⟩
  · rw [if_neg c2] at H
    have c2b0 : ((l0.length : Int) == 24) = false := beq_eq_false_iff_ne.mpr c2
    have c2b1 : ((l0.length : Int) != 24) = true := bne_iff_ne.mpr c2
    obtain rfl := Option.some.inj H
    go_enter Tryd.func24, Tryd.ntmps24
    go_wp2
    go_ret
    exact ⟨by first | rfl | (simp [errW_none, errW_some] <;> rfl) | (simp [*, errW_none, errW_some] <;> rfl) | (simp [Int.tdiv_eq_ediv_of_nonneg, *]; done), by repeat (first | (with_reducible first | exact HB.out | apply below_alloc | apply pw_below_drewN | apply below_drew1) | exact HB.out)⟩

/-! ### impl_VolumeOf: function 13 -/
def impl_VolumeOf.l0 : Nat → Int → List Int → Int → Int → Option (Int × Bool)
  | 0, _, _, _, _ => none
  | k + 1, x4, x10, x11, x12 => if x12 < x11 then (if 0 ≤ x12 then (if x12 < (x10.length : Int) then (impl_VolumeOf.l0 k (wrap64 (x4 + (rd x10 x12))) x10 x11 (wrap64 (x12 + 1))) else (none)) else (none)) else (some (x4, true))
def impl_VolumeOf.f (k : Nat) (l0 : List Int) : Option (Int × Bool) := (impl_isSettled.f l0).bind fun t200 => (if t200 = true then (impl_VolumeOf.l0 k 0 l0 (l0.length : Int) 0) else (some (0, false)))
theorem impl_VolumeOf.mono_l : ∀ k, (∀ y0 y1 y2 y3, LeO (impl_VolumeOf.l0 k y0 y1 y2 y3) (impl_VolumeOf.l0 (k + 1) y0 y1 y2 y3))
  | 0 => fun _ _ _ _ r h => by simp [impl_VolumeOf.l0] at h
  | k + 1 => by
    have ih0 := impl_VolumeOf.mono_l k
    · intro y0 y1 y2 y3
      unfold impl_VolumeOf.l0
      repeat' first
      | (with_reducible exact ih0 _ _ _ _)
      | (with_reducible exact LeO.refl _)
      | (with_reducible exact LeO.none _)
      | (with_reducible refine LeO.ite ?_ ?_)
      | (with_reducible refine LeO.bind ?_ (fun _ => ?_))
      | exact ih0 _ _ _ _
      | exact LeO.none _
      | refine LeO.ite ?_ ?_
      | refine LeO.bind ?_ (fun _ => ?_)
theorem impl_VolumeOf.mono : ∀ a0 k, LeO (impl_VolumeOf.f k a0) (impl_VolumeOf.f (k + 1) a0) := by
  intro a0 k
  have ih0 := impl_VolumeOf.mono_l k
  unfold impl_VolumeOf.f
  repeat' first
      | (with_reducible exact ih0 _ _ _ _)
      | (with_reducible exact LeO.refl _)
      | (with_reducible exact LeO.none _)
      | (with_reducible refine LeO.ite ?_ ?_)
      | (with_reducible refine LeO.bind ?_ (fun _ => ?_))
      | exact ih0 _ _ _ _
      | exact LeO.none _
      | refine LeO.ite ?_ ?_
      | refine LeO.bind ?_ (fun _ => ?_)
set_option maxHeartbeats 8000000 in
set_option maxRecDepth 100000 in
theorem impl_VolumeOf.calls (k : Nat) (A0 : Option Addr) (c0 : Nat) (l0 : List Int) (r1 : Int) (r2 : Bool) (w : World) (hr0 : Kd.C (Kd.int .i64) w A0 l0.length l0) (hc0 : l0.length ≤ c0) (h : impl_VolumeOf.f k l0 = some (r1, r2)) :
    Calls Tryd.prog 13 #[.slice A0 l0.length c0] w fun e w' => e = .returned (.tuple #[.int .i64 r1, .bool r2]) ∧ Below w.heap.size w w' := by
  have HR0 := Aside0.mk hr0
  have HC0 := Aside0.mk hc0
  clear hr0 hc0
  have HB := Aside0.mk (Below.refl w.heap.size w)
  have H : ((impl_isSettled.f l0).bind fun t200 => (if t200 = true then (impl_VolumeOf.l0 k 0 l0 (l0.length : Int) 0) else (some (0, false)))) = some (r1, r2) := h
  clear h
  replace H := Option.bind_eq_some_iff.mp H
  obtain ⟨t200, A20, H⟩ := H
  replace H : (if t200 = true then (impl_VolumeOf.l0 k 0 l0 (l0.length : Int) 0) else (some (0, false))) = some (r1, r2) := H
  have A2 := Aside0.mk A20
  clear A20
  by_cases c3 : t200 = true
  · subst c3
    have H1 : (impl_VolumeOf.l0 k 0 l0 (l0.length : Int) 0) = some (r1, r2) := by rw [if_pos rfl] at H; exact H
    clear H
    have H := H1
    clear H1
    have H' := Aside0.mk H
    clear H
    go_enter Tryd.func13, Tryd.ntmps13
    go_wp2_with (first | ((with_reducible refine gate_callee (f := 24) rfl ?_); refine goesL_ (some 8) rfl rfl Tryd.func24 (by kernel_rfl) rfl #[.slice A0 l0.length c0] rfl (by (try simp only [List.map_toArray, List.map_cons, List.map_nil]); first | done | rfl | (simp only [List.length_drop, List.length_take]; rfl)) ?_; (with_reducible refine (impl_isSettled.calls _ _ l0 true _ ?side1 ?side2 A2.out).mono ?_); (case side1 => repeat (first | exact HR0.out | (with_reducible refine Kd.C_alloc ?_ _) | (with_reducible refine Kd.C_drewN ?_ _) | (with_reducible refine Kd.C_drew ?_))); (case side2 => exact HC0.out); rintro e w4 ⟨rfl, hb⟩; refine ⟨_, rfl, ?_⟩; have n0_ := Aside0.mk (below_step (by repeat (first | (with_reducible first | exact HB.out | apply below_alloc | apply pw_below_drewN | apply below_drew1) | exact HB.out)) hb); clear HB; have HB := n0_; clear n0_; (try clear hb); (try clear hb2); (try clear hk); (try clear hi)))
    go_loopg [4, 12] k (fun kq v4 v12 w' => ∃ (x4_1 : Int) (x12_1 : Int), v4 = .int .i64 x4_1 ∧ v12 = .int .i64 x12_1 ∧ Aside0 (impl_VolumeOf.l0 kq x4_1 l0 (l0.length : Int) x12_1 = some (r1, r2)) ∧ Aside0 (kq ≤ k) ∧ Aside0 (Below w.heap.size w w'))
    case atStart => exact ⟨(0), (0), (by first | rfl | (simp; done) | (simp [*]; done) | (simp [Int.tdiv_eq_ediv_of_nonneg, *]; done)), (by first | rfl | (simp; done) | (simp [*]; done) | (simp [Int.tdiv_eq_ediv_of_nonneg, *]; done)), H', ⟨Nat.le_refl _⟩, ⟨by repeat (first | (with_reducible first | exact HB.out | apply below_alloc | apply pw_below_drewN | apply below_drew1) | exact HB.out)⟩⟩
    case round =>
      clear H'
      try clear c1
      try clear c2
      try clear p2
      try clear c3
      obtain ⟨x4_1, x12_1, rfl, rfl, HA, HK1, HB⟩ := hrel
      cases gk with
      | zero => exact absurd HA.out (by simp [impl_VolumeOf.l0])
      | succ k1 =>
        have H := HA.out
        clear HA
        simp only [impl_VolumeOf.l0] at H
        by_cases c5 : x12_1 < (l0.length : Int)
        · rw [if_pos c5] at H
          have c5b0 : decide (x12_1 < (l0.length : Int)) = true := decide_eq_true c5
          clear c5
          by_cases c6 : 0 ≤ x12_1
          · rw [if_pos c6] at H
            have c6b0 : decide (0 ≤ x12_1) = true := decide_eq_true c6
            clear c6
            by_cases c7 : x12_1 < (l0.length : Int)
            · rw [if_pos c7] at H
              have c7b0 : decide (x12_1 < (l0.length : Int)) = true := decide_eq_true c7
              clear c7
              have H' := Aside0.mk H
              clear H
              have p201 : 0 ≤ (x12_1 : Int) := of_decide_eq_true (by first | (with_reducible assumption) | assumption)
              have q201 : x12_1 < (l0.length : Int) := of_decide_eq_true (by first | (with_reducible assumption) | assumption)
              obtain ⟨ad201, e201, hx201_0⟩ := Kd.at_int HR0.out x12_1 p201 q201
              cases e201
              replace hx201_0 := (HB.out.cell (World.block_lt_of_cell? w _ hx201_0)).trans hx201_0
              replace p201 := eq_true p201
              replace q201 := eq_true q201
              go_wp2
              go_roundg k1
              case measure => have := HK1.out; omega
              case rel => exact ⟨(wrap64 (x4_1 + (rd l0 x12_1))), (wrap64 (x12_1 + 1)), (by first | rfl | (simp; done) | (simp [*]; done) | (simp [Int.tdiv_eq_ediv_of_nonneg, *]; done)), (by first | rfl | (simp; done) | (simp [*]; done) | (simp [Int.tdiv_eq_ediv_of_nonneg, *]; done)), H', ⟨by have := HK1.out; omega⟩, ⟨by repeat (first | (with_reducible first | exact HB.out | apply below_alloc | apply pw_below_drewN | apply below_drew1) | exact HB.out)⟩⟩
            · rw [if_neg c7] at H
              exact absurd H (by simp)
          · rw [if_neg c6] at H
            exact absurd H (by simp)
        · rw [if_neg c5] at H
          have c5b0 : decide (x12_1 < (l0.length : Int)) = false := decide_eq_false c5
          clear c5
          simp only [Option.some.injEq, Prod.mk.injEq] at H
          obtain ⟨rfl, rfl⟩ := H
          go_wp2
          go_ret2
          exact ⟨by first | rfl | (simp [errW_none, errW_some] <;> rfl) | (simp [*, errW_none, errW_some] <;> rfl) | (simp [Int.tdiv_eq_ediv_of_nonneg, *]; done), by repeat (first | (with_reducible first | exact HB.out | apply below_alloc | apply pw_below_drewN | apply below_drew1) | exact HB.out)⟩
  · replace c3 := Bool.eq_false_iff.mpr c3
    subst c3
    have H1 : (some (0, false)) = some (r1, r2) := by rw [if_neg (show ¬ (false = true) by decide)] at H; exact H
    clear H
    have H := H1
    clear H1
    simp only [Option.some.injEq, Prod.mk.injEq] at H
    obtain ⟨rfl, rfl⟩ := H
    go_enter Tryd.func13, Tryd.ntmps13
    go_wp2_with (first | ((with_reducible refine gate_callee (f := 24) rfl ?_); refine goesL_ (some 8) rfl rfl Tryd.func24 (by kernel_rfl) rfl #[.slice A0 l0.length c0] rfl (by (try simp only [List.map_toArray, List.map_cons, List.map_nil]); first | done | rfl | (simp only [List.length_drop, List.length_take]; rfl)) ?_; (with_reducible refine (impl_isSettled.calls _ _ l0 false _ ?side1 ?side2 A2.out).mono ?_); (case side1 => repeat (first | exact HR0.out | (with_reducible refine Kd.C_alloc ?_ _) | (with_reducible refine Kd.C_drewN ?_ _) | (with_reducible refine Kd.C_drew ?_))); (case side2 => exact HC0.out); rintro e w8 ⟨rfl, hb⟩; refine ⟨_, rfl, ?_⟩; have n0_ := Aside0.mk (below_step (by repeat (first | (with_reducible first | exact HB.out | apply below_alloc | apply pw_below_drewN | apply below_drew1) | exact HB.out)) hb); clear HB; have HB := n0_; clear n0_; (try clear hb); (try clear hb2); (try clear hk); (try clear hi)))
    go_ret2
    exact ⟨by first | rfl | (simp [errW_none, errW_some] <;> rfl) | (simp [*, errW_none, errW_some] <;> rfl) | (simp [Int.tdiv_eq_ediv_of_nonneg, *]; done), by repeat (first | (with_reducible first | exact HB.out | apply below_alloc | apply pw_below_drewN | apply below_drew1) | exact HB.out)⟩

end Go.Proofs.YtegjebiocgbmpaaDoor.P
-- Walks of this claim's functions, laid by a program of this session.
namespace Go.Proofs.YtegjebiocgbmpaaDoor.P
open Go.RowKit Go.Proofs.YtegjebiocgbmpaaDoorW.PrintWords Go.Proofs.YtegjebiocgbmpaaDoorW.PrintLast Go.Proofs.YtegjebiocgbmpaaDoorW.PrintMore
attribute [local go_sem] max2_int min2_int max_two min_two max_three min_three max_four min_four   -- for this text's walks alone
set_option linter.unusedVariables false
set_option linter.unusedSimpArgs false

attribute [local go_sem high] eqA26
/-! ### laws_FnVolume: function 4 -/
mutual
def laws_FnVolume.j0 : Nat → List (S26) → List Int → List Int → List Int → Int → Bool → Option (Bool)
  | 0, _, _, _, _, _, _ => none
  | k + 1, x5, x7, x9, x11, x13, x84 => if x84 = true then (none) else (laws_FnVolume.l0 k x5 x7 x9 x11 x13 0 0)
def laws_FnVolume.l0 : Nat → List (S26) → List Int → List Int → List Int → Int → Int → Int → Option (Bool)
  | 0, _, _, _, _, _, _, _ => none
  | k + 1, x5, x7, x9, x11, x13, x15, x16 => if x16 < (x5.length : Int) then (if 0 ≤ x16 then ((impl_LossText.f k ((rd_T26 x5 x16).f0) ((rd_T26 x5 x16).f1) ((rd_T26 x5 x16).f2)).bind fun bt259 => ((impl_ReadLoss.f k bt259.1).bind fun bt261 => (if bt259.2 = true then (if bt261.2.2.2 = true then (if (!(bt261.1 == ((rd_T26 x5 x16).f0)) || (!(bt261.2.1 == ((rd_T26 x5 x16).f1)) || (!(bt261.2.2.1 == ((rd_T26 x5 x16).f2))))) = true then (none) else (laws_FnVolume.l0 k x5 x7 x9 x11 x13 (wrap64 (x15 + ((rd_T26 x5 x16).f1))) (wrap64 (x16 + 1)))) else (none)) else (none)))) else (none)) else (laws_FnVolume.l1 k x7 x9 x11 x13 x15 0)
def laws_FnVolume.l1 : Nat → List Int → List Int → List Int → Int → Int → Int → Option (Bool)
  | 0, _, _, _, _, _, _ => none
  | k + 1, x7, x9, x11, x13, x15, x21 => if x21 < 24 then (if 0 ≤ x21 then (if x21 < (x7.length : Int) then (if x21 < (x9.length : Int) then (if x21 < (x11.length : Int) then (if (rd x7 x21) = (wrap64 ((rd x9 x21) + (rd x11 x21))) then (laws_FnVolume.l1 k x7 x9 x11 x13 x15 (wrap64 (x21 + 1))) else (none)) else (none)) else (none)) else (none)) else (none)) else (some (x13 == x15))
end
def laws_FnVolume.f (k : Nat) (l0 : List Int) (l1 : List Int) : Option (Bool) := (laws_b10Long.f l0 l1).bind fun t230 => (if t230 = true then (some true) else ((spec_B10Losses.f k l0).bind fun t231 => ((laws_b10At.f l1 0 (wrap64 ((t231.length : Int) + 1))).bind fun t234 => ((impl_SettlementsOf.f k t231).bind fun bt235 => (if 0 ≤ t234 then (if t234 ≤ (t231.length : Int) then ((impl_SettlementsOf.f k (t231.take (t234 : Int).toNat)).bind fun bt243 => ((impl_SettlementsOf.f k (t231.drop (t234 : Int).toNat)).bind fun bt251 => ((impl_VolumeOf.f k bt235.1).bind fun bt255 => (if bt235.2 = true then (if bt243.2 = true then (if bt251.2 = true then (if bt255.2 = true then (if (bt235.1.length : Int) = 24 then (if (bt243.1.length : Int) = 24 then (laws_FnVolume.j0 k t231 bt235.1 bt243.1 bt251.1 bt255.1 ((bt251.1.length : Int) != 24)) else (none)) else (none)) else (none)) else (none)) else (none)) else (none))))) else (none)) else (none))))))
theorem laws_FnVolume.mono_l : ∀ k, (∀ y0 y1 y2 y3 y4 y5, LeO (laws_FnVolume.j0 k y0 y1 y2 y3 y4 y5) (laws_FnVolume.j0 (k + 1) y0 y1 y2 y3 y4 y5)) ∧ (∀ y0 y1 y2 y3 y4 y5 y6, LeO (laws_FnVolume.l0 k y0 y1 y2 y3 y4 y5 y6) (laws_FnVolume.l0 (k + 1) y0 y1 y2 y3 y4 y5 y6)) ∧ (∀ y0 y1 y2 y3 y4 y5, LeO (laws_FnVolume.l1 k y0 y1 y2 y3 y4 y5) (laws_FnVolume.l1 (k + 1) y0 y1 y2 y3 y4 y5))
  | 0 => ⟨fun _ _ _ _ _ _ r h => by simp [laws_FnVolume.j0] at h, fun _ _ _ _ _ _ _ r h => by simp [laws_FnVolume.l0] at h, fun _ _ _ _ _ _ r h => by simp [laws_FnVolume.l1] at h⟩
  | k + 1 => by
    obtain ⟨ih0, ih1, ih2⟩ := laws_FnVolume.mono_l k
    refine ⟨?_, ?_, ?_⟩
    · intro y0 y1 y2 y3 y4 y5
      unfold laws_FnVolume.j0
      repeat' first
      | (with_reducible exact ih0 _ _ _ _ _ _)
      | (with_reducible exact ih1 _ _ _ _ _ _ _)
      | (with_reducible exact ih2 _ _ _ _ _ _)
      | (with_reducible exact impl_LossText.mono _ _ _ _)
      | (with_reducible exact impl_ReadLoss.mono _ _)
      | (with_reducible exact impl_SettlementsOf.mono _ _)
      | (with_reducible exact impl_VolumeOf.mono _ _)
      | (with_reducible exact spec_B10Losses.mono _ _)
      | (with_reducible exact LeO.refl _)
      | (with_reducible exact LeO.none _)
      | (with_reducible refine LeO.ite ?_ ?_)
      | (with_reducible refine LeO.bind ?_ (fun _ => ?_))
      | exact ih0 _ _ _ _ _ _
      | exact ih1 _ _ _ _ _ _ _
      | exact ih2 _ _ _ _ _ _
      | exact impl_LossText.mono _ _ _ _
      | exact impl_ReadLoss.mono _ _
      | exact impl_SettlementsOf.mono _ _
      | exact impl_VolumeOf.mono _ _
      | exact spec_B10Losses.mono _ _
      | exact LeO.none _
      | refine LeO.ite ?_ ?_
      | refine LeO.bind ?_ (fun _ => ?_)
    · intro y0 y1 y2 y3 y4 y5 y6
      unfold laws_FnVolume.l0
      repeat' first
      | (with_reducible exact ih0 _ _ _ _ _ _)
      | (with_reducible exact ih1 _ _ _ _ _ _ _)
      | (with_reducible exact ih2 _ _ _ _ _ _)
      | (with_reducible exact impl_LossText.mono _ _ _ _)
      | (with_reducible exact impl_ReadLoss.mono _ _)
      | (with_reducible exact impl_SettlementsOf.mono _ _)
      | (with_reducible exact impl_VolumeOf.mono _ _)
      | (with_reducible exact spec_B10Losses.mono _ _)
      | (with_reducible exact LeO.refl _)
      | (with_reducible exact LeO.none _)
      | (with_reducible refine LeO.ite ?_ ?_)
      | (with_reducible refine LeO.bind ?_ (fun _ => ?_))
      | exact ih0 _ _ _ _ _ _
      | exact ih1 _ _ _ _ _ _ _
      | exact ih2 _ _ _ _ _ _
      | exact impl_LossText.mono _ _ _ _
      | exact impl_ReadLoss.mono _ _
      | exact impl_SettlementsOf.mono _ _
      | exact impl_VolumeOf.mono _ _
      | exact spec_B10Losses.mono _ _
      | exact LeO.none _
      | refine LeO.ite ?_ ?_
      | refine LeO.bind ?_ (fun _ => ?_)
    · intro y0 y1 y2 y3 y4 y5
      unfold laws_FnVolume.l1
      repeat' first
      | (with_reducible exact ih0 _ _ _ _ _ _)
      | (with_reducible exact ih1 _ _ _ _ _ _ _)
      | (with_reducible exact ih2 _ _ _ _ _ _)
      | (with_reducible exact impl_LossText.mono _ _ _ _)
      | (with_reducible exact impl_ReadLoss.mono _ _)
      | (with_reducible exact impl_SettlementsOf.mono _ _)
      | (with_reducible exact impl_VolumeOf.mono _ _)
      | (with_reducible exact spec_B10Losses.mono _ _)
      | (with_reducible exact LeO.refl _)
      | (with_reducible exact LeO.none _)
      | (with_reducible refine LeO.ite ?_ ?_)
      | (with_reducible refine LeO.bind ?_ (fun _ => ?_))
      | exact ih0 _ _ _ _ _ _
      | exact ih1 _ _ _ _ _ _ _
      | exact ih2 _ _ _ _ _ _
      | exact impl_LossText.mono _ _ _ _
      | exact impl_ReadLoss.mono _ _
      | exact impl_SettlementsOf.mono _ _
      | exact impl_VolumeOf.mono _ _
      | exact spec_B10Losses.mono _ _
      | exact LeO.none _
      | refine LeO.ite ?_ ?_
      | refine LeO.bind ?_ (fun _ => ?_)
theorem laws_FnVolume.mono : ∀ a0 a1 k, LeO (laws_FnVolume.f k a0 a1) (laws_FnVolume.f (k + 1) a0 a1) := by
  intro a0 a1 k
  obtain ⟨ih0, ih1, ih2⟩ := laws_FnVolume.mono_l k
  unfold laws_FnVolume.f
  repeat' first
      | (with_reducible exact ih0 _ _ _ _ _ _)
      | (with_reducible exact ih1 _ _ _ _ _ _ _)
      | (with_reducible exact ih2 _ _ _ _ _ _)
      | (with_reducible exact impl_LossText.mono _ _ _ _)
      | (with_reducible exact impl_ReadLoss.mono _ _)
      | (with_reducible exact impl_SettlementsOf.mono _ _)
      | (with_reducible exact impl_VolumeOf.mono _ _)
      | (with_reducible exact spec_B10Losses.mono _ _)
      | (with_reducible exact LeO.refl _)
      | (with_reducible exact LeO.none _)
      | (with_reducible refine LeO.ite ?_ ?_)
      | (with_reducible refine LeO.bind ?_ (fun _ => ?_))
      | exact ih0 _ _ _ _ _ _
      | exact ih1 _ _ _ _ _ _ _
      | exact ih2 _ _ _ _ _ _
      | exact impl_LossText.mono _ _ _ _
      | exact impl_ReadLoss.mono _ _
      | exact impl_SettlementsOf.mono _ _
      | exact impl_VolumeOf.mono _ _
      | exact spec_B10Losses.mono _ _
      | exact LeO.none _
      | refine LeO.ite ?_ ?_
      | refine LeO.bind ?_ (fun _ => ?_)
set_option maxHeartbeats 8000000 in
set_option maxRecDepth 100000 in
theorem laws_FnVolume.calls (k : Nat) (A0 : Option Addr) (c0 : Nat) (l0 : List Int) (A1 : Option Addr) (c1 : Nat) (l1 : List Int) (r : Bool) (w : World) (hr0 : Kd.C (Kd.int .u8) w A0 l0.length l0) (hc0 : l0.length ≤ c0) (hr1 : Kd.C (Kd.int .u8) w A1 l1.length l1) (hc1 : l1.length ≤ c1) (hT_ : Tab2 w) (h : laws_FnVolume.f k l0 l1 = some r) :
    Calls Tryd.prog 4 #[.slice A0 l0.length c0, .slice A1 l1.length c1] w fun e w' => e = .returned (.bool r) ∧ Below w.heap.size w w' := by
  have hu26 := Tryd.underlying26
  have HR0 := Aside0.mk hr0
  have HC0 := Aside0.mk hc0
  clear hr0 hc0
  have HR1 := Aside0.mk hr1
  have HC1 := Aside0.mk hc1
  clear hr1 hc1
  have HLT_ := Aside0.mk hT_
  clear hT_
  have HB := Aside0.mk (Below.refl w.heap.size w)
  have H : ((laws_b10Long.f l0 l1).bind fun t230 => (if t230 = true then (some true) else ((spec_B10Losses.f k l0).bind fun t231 => ((laws_b10At.f l1 0 (wrap64 ((t231.length : Int) + 1))).bind fun t234 => ((impl_SettlementsOf.f k t231).bind fun bt235 => (if 0 ≤ t234 then (if t234 ≤ (t231.length : Int) then ((impl_SettlementsOf.f k (t231.take (t234 : Int).toNat)).bind fun bt243 => ((impl_SettlementsOf.f k (t231.drop (t234 : Int).toNat)).bind fun bt251 => ((impl_VolumeOf.f k bt235.1).bind fun bt255 => (if bt235.2 = true then (if bt243.2 = true then (if bt251.2 = true then (if bt255.2 = true then (if (bt235.1.length : Int) = 24 then (if (bt243.1.length : Int) = 24 then (laws_FnVolume.j0 k t231 bt235.1 bt243.1 bt251.1 bt255.1 ((bt251.1.length : Int) != 24)) else (none)) else (none)) else (none)) else (none)) else (none)) else (none))))) else (none)) else (none))))))) = some r := h
  clear h
  replace H := Option.bind_eq_some_iff.mp H
  obtain ⟨t230, A30, H⟩ := H
  replace H : (if t230 = true then (some true) else ((spec_B10Losses.f k l0).bind fun t231 => ((laws_b10At.f l1 0 (wrap64 ((t231.length : Int) + 1))).bind fun t234 => ((impl_SettlementsOf.f k t231).bind fun bt235 => (if 0 ≤ t234 then (if t234 ≤ (t231.length : Int) then ((impl_SettlementsOf.f k (t231.take (t234 : Int).toNat)).bind fun bt243 => ((impl_SettlementsOf.f k (t231.drop (t234 : Int).toNat)).bind fun bt251 => ((impl_VolumeOf.f k bt235.1).bind fun bt255 => (if bt235.2 = true then (if bt243.2 = true then (if bt251.2 = true then (if bt255.2 = true then (if (bt235.1.length : Int) = 24 then (if (bt243.1.length : Int) = 24 then (laws_FnVolume.j0 k t231 bt235.1 bt243.1 bt251.1 bt255.1 ((bt251.1.length : Int) != 24)) else (none)) else (none)) else (none)) else (none)) else (none)) else (none))))) else (none)) else (none)))))) = some r := H
  have A3 := Aside0.mk A30
  clear A30
  by_cases c4 : t230 = true
  · subst c4
    have H1 : (some true) = some r := by rw [if_pos rfl] at H; exact H
    clear H
    have H := H1
    clear H1
    obtain rfl := Option.some.inj H
    go_enter Tryd.func4, Tryd.ntmps4
    go_wp2_with (first | (go_at_call 9; (with_reducible refine (laws_b10Long.calls _ _ l0 _ _ l1 true _ ?side1 ?side2 ?side3 ?side4 A3.out).mono ?_); (case side1 => repeat (first | exact HR0.out | (with_reducible refine Kd.C_alloc ?_ _) | (with_reducible refine Kd.C_drewN ?_ _) | (with_reducible refine Kd.C_drew ?_))); (case side2 => exact HC0.out); (case side3 => repeat (first | exact HR1.out | (with_reducible refine Kd.C_alloc ?_ _) | (with_reducible refine Kd.C_drewN ?_ _) | (with_reducible refine Kd.C_drew ?_))); (case side4 => exact HC1.out); rintro e w' ⟨rfl, ⟨nd, rfl⟩⟩; (try first | exact ⟨rfl, _, World.drewN_drewN _ _ _⟩ | exact ⟨rfl, _, Eq.trans (World.drewN_drewN _ _ _) (congrArg (World.drewN _) (Nat.add_assoc _ _ _))⟩)))
    repeat (go_quiet (first | (go_at_call 9; (with_reducible refine (laws_b10Long.calls _ _ l0 _ _ l1 true _ ?side1 ?side2 ?side3 ?side4 A3.out).mono ?_); (case side1 => repeat (first | exact HR0.out | (with_reducible refine Kd.C_alloc ?_ _) | (with_reducible refine Kd.C_drewN ?_ _) | (with_reducible refine Kd.C_drew ?_))); (case side2 => exact HC0.out); (case side3 => repeat (first | exact HR1.out | (with_reducible refine Kd.C_alloc ?_ _) | (with_reducible refine Kd.C_drewN ?_ _) | (with_reducible refine Kd.C_drew ?_))); (case side4 => exact HC1.out); rintro e w' ⟨rfl, ⟨nd, rfl⟩⟩; (try first | exact ⟨rfl, _, World.drewN_drewN _ _ _⟩ | exact ⟨rfl, _, Eq.trans (World.drewN_drewN _ _ _) (congrArg (World.drewN _) (Nat.add_assoc _ _ _))⟩))); try go_wp2_with (first | (go_at_call 9; (with_reducible refine (laws_b10Long.calls _ _ l0 _ _ l1 true _ ?side1 ?side2 ?side3 ?side4 A3.out).mono ?_); (case side1 => repeat (first | exact HR0.out | (with_reducible refine Kd.C_alloc ?_ _) | (with_reducible refine Kd.C_drewN ?_ _) | (with_reducible refine Kd.C_drew ?_))); (case side2 => exact HC0.out); (case side3 => repeat (first | exact HR1.out | (with_reducible refine Kd.C_alloc ?_ _) | (with_reducible refine Kd.C_drewN ?_ _) | (with_reducible refine Kd.C_drew ?_))); (case side4 => exact HC1.out); rintro e w' ⟨rfl, ⟨nd, rfl⟩⟩; (try first | exact ⟨rfl, _, World.drewN_drewN _ _ _⟩ | exact ⟨rfl, _, Eq.trans (World.drewN_drewN _ _ _) (congrArg (World.drewN _) (Nat.add_assoc _ _ _))⟩))))
    go_ret
    exact ⟨by first | rfl | (simp [errW_none, errW_some] <;> rfl) | (simp [*, errW_none, errW_some] <;> rfl) | (simp [Int.tdiv_eq_ediv_of_nonneg, *]; done), by repeat (first | (with_reducible first | exact HB.out | apply below_alloc | apply pw_below_drewN | apply below_drew1) | exact HB.out)⟩
  · replace c4 := Bool.eq_false_iff.mpr c4
    subst c4
    have H1 : ((spec_B10Losses.f k l0).bind fun t231 => ((laws_b10At.f l1 0 (wrap64 ((t231.length : Int) + 1))).bind fun t234 => ((impl_SettlementsOf.f k t231).bind fun bt235 => (if 0 ≤ t234 then (if t234 ≤ (t231.length : Int) then ((impl_SettlementsOf.f k (t231.take (t234 : Int).toNat)).bind fun bt243 => ((impl_SettlementsOf.f k (t231.drop (t234 : Int).toNat)).bind fun bt251 => ((impl_VolumeOf.f k bt235.1).bind fun bt255 => (if bt235.2 = true then (if bt243.2 = true then (if bt251.2 = true then (if bt255.2 = true then (if (bt235.1.length : Int) = 24 then (if (bt243.1.length : Int) = 24 then (laws_FnVolume.j0 k t231 bt235.1 bt243.1 bt251.1 bt255.1 ((bt251.1.length : Int) != 24)) else (none)) else (none)) else (none)) else (none)) else (none)) else (none))))) else (none)) else (none))))) = some r := by rw [if_neg (show ¬ (false = true) by decide)] at H; exact H
    clear H
    have H := H1
    clear H1
    replace H := Option.bind_eq_some_iff.mp H
    obtain ⟨t231, A50, H⟩ := H
    replace H : ((laws_b10At.f l1 0 (wrap64 ((t231.length : Int) + 1))).bind fun t234 => ((impl_SettlementsOf.f k t231).bind fun bt235 => (if 0 ≤ t234 then (if t234 ≤ (t231.length : Int) then ((impl_SettlementsOf.f k (t231.take (t234 : Int).toNat)).bind fun bt243 => ((impl_SettlementsOf.f k (t231.drop (t234 : Int).toNat)).bind fun bt251 => ((impl_VolumeOf.f k bt235.1).bind fun bt255 => (if bt235.2 = true then (if bt243.2 = true then (if bt251.2 = true then (if bt255.2 = true then (if (bt235.1.length : Int) = 24 then (if (bt243.1.length : Int) = 24 then (laws_FnVolume.j0 k t231 bt235.1 bt243.1 bt251.1 bt255.1 ((bt251.1.length : Int) != 24)) else (none)) else (none)) else (none)) else (none)) else (none)) else (none))))) else (none)) else (none)))) = some r := H
    have A5 := Aside0.mk A50
    clear A50
    replace H := Option.bind_eq_some_iff.mp H
    obtain ⟨t234, A60, H⟩ := H
    replace H : ((impl_SettlementsOf.f k t231).bind fun bt235 => (if 0 ≤ t234 then (if t234 ≤ (t231.length : Int) then ((impl_SettlementsOf.f k (t231.take (t234 : Int).toNat)).bind fun bt243 => ((impl_SettlementsOf.f k (t231.drop (t234 : Int).toNat)).bind fun bt251 => ((impl_VolumeOf.f k bt235.1).bind fun bt255 => (if bt235.2 = true then (if bt243.2 = true then (if bt251.2 = true then (if bt255.2 = true then (if (bt235.1.length : Int) = 24 then (if (bt243.1.length : Int) = 24 then (laws_FnVolume.j0 k t231 bt235.1 bt243.1 bt251.1 bt255.1 ((bt251.1.length : Int) != 24)) else (none)) else (none)) else (none)) else (none)) else (none)) else (none))))) else (none)) else (none))) = some r := H
    have A6 := Aside0.mk A60
    clear A60
    replace H := Option.bind_eq_some_iff.mp H
    obtain ⟨⟨t235, t236⟩, A70, H⟩ := H
    replace H : (if 0 ≤ t234 then (if t234 ≤ (t231.length : Int) then ((impl_SettlementsOf.f k (t231.take (t234 : Int).toNat)).bind fun bt243 => ((impl_SettlementsOf.f k (t231.drop (t234 : Int).toNat)).bind fun bt251 => ((impl_VolumeOf.f k t235).bind fun bt255 => (if t236 = true then (if bt243.2 = true then (if bt251.2 = true then (if bt255.2 = true then (if (t235.length : Int) = 24 then (if (bt243.1.length : Int) = 24 then (laws_FnVolume.j0 k t231 t235 bt243.1 bt251.1 bt255.1 ((bt251.1.length : Int) != 24)) else (none)) else (none)) else (none)) else (none)) else (none)) else (none))))) else (none)) else (none)) = some r := H
    have A7 := Aside0.mk A70
    clear A70
    by_cases c8 : 0 ≤ t234
    · rw [if_pos c8] at H
      have c8b0 := eq_true c8
      have c8b1 : decide (0 ≤ t234) = true := decide_eq_true c8
      clear c8
      by_cases c9 : t234 ≤ (t231.length : Int)
      · rw [if_pos c9] at H
        have c9b0 := eq_true c9
        have c9b1 : decide (t234 ≤ (t231.length : Int)) = true := decide_eq_true c9
        clear c9
        obtain ⟨y239, hy239⟩ : ∃ y_ : List (S26), y_ = (t231.take (t234 : Int).toNat) := ⟨_, rfl⟩
        replace H : ((impl_SettlementsOf.f k y239).bind fun bt243 => ((impl_SettlementsOf.f k (t231.drop (t234 : Int).toNat)).bind fun bt251 => ((impl_VolumeOf.f k t235).bind fun bt255 => (if t236 = true then (if bt243.2 = true then (if bt251.2 = true then (if bt255.2 = true then (if (t235.length : Int) = 24 then (if (bt243.1.length : Int) = 24 then (laws_FnVolume.j0 k t231 t235 bt243.1 bt251.1 bt255.1 ((bt251.1.length : Int) != 24)) else (none)) else (none)) else (none)) else (none)) else (none)) else (none))))) = some r := by first | (rw [hy239]; with_reducible exact H) | (have H2_ := (Option.bind_some _ _).symm.trans H; rw [hy239]; with_reducible exact H2_) | (have H2_ := (Option.bind_some _ _).symm.trans H; with_reducible exact H2_) | with_reducible exact H | (rw [hy239]; exact H) | exact H
        have Ny239 := Aside0.mk hy239
        clear hy239
        replace H := Option.bind_eq_some_iff.mp H
        obtain ⟨⟨t243, t244⟩, A100, H⟩ := H
        replace H : ((impl_SettlementsOf.f k (t231.drop (t234 : Int).toNat)).bind fun bt251 => ((impl_VolumeOf.f k t235).bind fun bt255 => (if t236 = true then (if t244 = true then (if bt251.2 = true then (if bt255.2 = true then (if (t235.length : Int) = 24 then (if (t243.length : Int) = 24 then (laws_FnVolume.j0 k t231 t235 t243 bt251.1 bt255.1 ((bt251.1.length : Int) != 24)) else (none)) else (none)) else (none)) else (none)) else (none)) else (none)))) = some r := H
        have A10 := Aside0.mk A100
        clear A100
        have c11b0 := eq_true (of_decide_eq_true (by first | (with_reducible assumption) | assumption) : 0 ≤ t234)
        have c12b0 := eq_true (of_decide_eq_true (by first | (with_reducible assumption) | assumption) : t234 ≤ (t231.length : Int))
        obtain ⟨y247, hy247⟩ : ∃ y_ : List (S26), y_ = (t231.drop (t234 : Int).toNat) := ⟨_, rfl⟩
        replace H : ((impl_SettlementsOf.f k y247).bind fun bt251 => ((impl_VolumeOf.f k t235).bind fun bt255 => (if t236 = true then (if t244 = true then (if bt251.2 = true then (if bt255.2 = true then (if (t235.length : Int) = 24 then (if (t243.length : Int) = 24 then (laws_FnVolume.j0 k t231 t235 t243 bt251.1 bt255.1 ((bt251.1.length : Int) != 24)) else (none)) else (none)) else (none)) else (none)) else (none)) else (none)))) = some r := by first | (rw [hy247]; with_reducible exact H) | (have H2_ := (Option.bind_some _ _).symm.trans H; rw [hy247]; with_reducible exact H2_) | (have H2_ := (Option.bind_some _ _).symm.trans H; with_reducible exact H2_) | with_reducible exact H | (rw [hy247]; exact H) | exact H
        have Ny247 := Aside0.mk hy247
        clear hy247
        replace H := Option.bind_eq_some_iff.mp H
        obtain ⟨⟨t251, t252⟩, A130, H⟩ := H
        replace H : ((impl_VolumeOf.f k t235).bind fun bt255 => (if t236 = true then (if t244 = true then (if t252 = true then (if bt255.2 = true then (if (t235.length : Int) = 24 then (if (t243.length : Int) = 24 then (laws_FnVolume.j0 k t231 t235 t243 t251 bt255.1 ((t251.length : Int) != 24)) else (none)) else (none)) else (none)) else (none)) else (none)) else (none))) = some r := H
        have A13 := Aside0.mk A130
        clear A130
        replace H := Option.bind_eq_some_iff.mp H
        obtain ⟨⟨t255, t256⟩, A140, H⟩ := H
        replace H : (if t236 = true then (if t244 = true then (if t252 = true then (if t256 = true then (if (t235.length : Int) = 24 then (if (t243.length : Int) = 24 then (laws_FnVolume.j0 k t231 t235 t243 t251 t255 ((t251.length : Int) != 24)) else (none)) else (none)) else (none)) else (none)) else (none)) else (none)) = some r := H
        have A14 := Aside0.mk A140
        clear A140
        have HC15 := Aside0.mk H
        clear H
        go_enter Tryd.func4, Tryd.ntmps4
        go_upto_region 9 with (first | (go_at_call 9; (with_reducible refine (laws_b10Long.calls _ _ l0 _ _ l1 false _ ?side1 ?side2 ?side3 ?side4 A3.out).mono ?_); (case side1 => repeat (first | exact HR0.out | (with_reducible refine Kd.C_alloc ?_ _) | (with_reducible refine Kd.C_drewN ?_ _) | (with_reducible refine Kd.C_drew ?_))); (case side2 => exact HC0.out); (case side3 => repeat (first | exact HR1.out | (with_reducible refine Kd.C_alloc ?_ _) | (with_reducible refine Kd.C_drewN ?_ _) | (with_reducible refine Kd.C_drew ?_))); (case side4 => exact HC1.out); rintro e w' ⟨rfl, ⟨nd, rfl⟩⟩; (try first | exact ⟨rfl, _, World.drewN_drewN _ _ _⟩ | exact ⟨rfl, _, Eq.trans (World.drewN_drewN _ _ _) (congrArg (World.drewN _) (Nat.add_assoc _ _ _))⟩)) | (go_at_call 10; (with_reducible refine (spec_B10Losses.calls k _ _ l0 t231 _ ?side1 ?side2 A5.out).mono ?_); (case side1 => repeat (first | exact HR0.out | (with_reducible refine Kd.C_alloc ?_ _) | (with_reducible refine Kd.C_drewN ?_ _) | (with_reducible refine Kd.C_drew ?_))); (case side2 => exact HC0.out); rintro e w16 ⟨v232, rfl, ho0, hb⟩; have n0_ := Aside0.mk (Kd.R_lower ho0 (below_size (by repeat (first | (with_reducible first | exact HB.out | apply below_alloc | apply pw_below_drewN | apply below_drew1) | exact HB.out)))); have n1_ := Aside0.mk (below_step (by repeat (first | (with_reducible first | exact HB.out | apply below_alloc | apply pw_below_drewN | apply below_drew1) | exact HB.out)) hb); clear HB; have HO233 := n0_; have HB := n1_; clear n0_ n1_; (try clear hb); (try clear hb2); (try clear hk); (try clear hi); (try clear ho0); obtain ⟨Ao17, co17, eo17⟩ := Kd.R_slice HO233.out; subst eo17) | (go_at_call 11; (with_reducible refine (laws_b10At.calls _ _ l1 0 (wrap64 ((t231.length : Int) + 1)) t234 _ ?side1 ?side2 A6.out).mono ?_); (case side1 => repeat (first | exact (Kd.C_below HR1.out HB.out) | (with_reducible refine Kd.C_alloc ?_ _) | (with_reducible refine Kd.C_drewN ?_ _) | (with_reducible refine Kd.C_drew ?_))); (case side2 => exact HC1.out); rintro e w' ⟨rfl, ⟨nd, rfl⟩⟩; (try first | exact ⟨rfl, _, World.drewN_drewN _ _ _⟩ | exact ⟨rfl, _, Eq.trans (World.drewN_drewN _ _ _) (congrArg (World.drewN _) (Nat.add_assoc _ _ _))⟩)) | (go_at_call 12; (with_reducible refine (impl_SettlementsOf.calls k _ _ t231 t235 t236 _ ?side1 ?side2 A7.out).mono ?_); (case side1 => repeat (first | exact (Kd.R_reads' HO233.out).2.2 | (with_reducible refine Kd.C_alloc ?_ _) | (with_reducible refine Kd.C_drewN ?_ _) | (with_reducible refine Kd.C_drew ?_))); (case side2 => exact (Kd.R_reads' HO233.out).2.1); rintro e w18 ⟨v237, rfl, ho0, hb⟩; have n0_ := Aside0.mk (Kd.R_below (by (with_reducible repeat (first | apply Kd.R_alloc | apply Kd.R_drewN | apply Kd.R_drew)); exact HO233.out) hb); have n1_ := Aside0.mk (Kd.R_lower ho0 (below_size (by repeat (first | (with_reducible first | exact HB.out | apply below_alloc | apply pw_below_drewN | apply below_drew1) | exact HB.out)))); have n2_ := Aside0.mk (below_step (by repeat (first | (with_reducible first | exact HB.out | apply below_alloc | apply pw_below_drewN | apply below_drew1) | exact HB.out)) hb); clear HO233; clear HB; have HO233 := n0_; have HO238 := n1_; have HB := n2_; clear n0_ n1_ n2_; (try clear hb); (try clear hb2); (try clear hk); (try clear hi); (try clear ho0); have q19 : (t234 : Int) ≤ ((t231.length : Int) : Int) := of_decide_eq_true (by first | (with_reducible assumption) | assumption); obtain ⟨i019, hi019, _, hsz19, _⟩ := info_parts info26; have hroom19 : t231.length ≤ co17 := (Kd.R_reads' HO233.out).2.1; have hC19 : Kd.C k26 _ Ao17 t231.length t231 := (Kd.R_reads' HO233.out).2.2; have hcut19 := cut_to (P := Tryd.prog) 31 26 .i64 Tryd.underlying31 hi019 Ao17 t231.length co17 t234 (of_decide_eq_true (by first | (with_reducible assumption) | assumption)) q19 hroom19; have hr19 := Kd.C_take (m := (t234 : Int).toNat) hC19 (by omega); have hy19 : y239.length = (t234 : Int).toNat := (by rw [Ny239.out, List.length_take]; omega); rw [← Ny239.out] at hr19; rw [← hy19] at hcut19; have HR242 := Aside0.mk hr19; have HC242 := Aside0.mk (show y239.length ≤ co17 from by omega); clear hr19 hC19 hroom19 hi019 hsz19; have KY19 := Aside0.mk hy19; clear hy19; have KL19 := Aside0.mk (show (t234 : Int).toNat ≤ t231.length from by omega); replace q19 := eq_true q19) | (go_at_call 12; (with_reducible refine (impl_SettlementsOf.calls k _ _ y239 t243 t244 _ ?side1 ?side2 A10.out).mono ?_); (case side1 => repeat (first | exact (by repeat (first | (with_reducible exact HR242.out) | (with_reducible refine Kd.C_alloc ?_ _) | (with_reducible refine Kd.C_drewN ?_ _) | (with_reducible refine Kd.C_drew ?_) | exact HR242.out)) | (with_reducible refine Kd.C_alloc ?_ _) | (with_reducible refine Kd.C_drewN ?_ _) | (with_reducible refine Kd.C_drew ?_))); (case side2 => exact HC242.out); rintro e w20 ⟨v245, rfl, ho0, hb⟩; have n0_ := Aside0.mk (Kd.R_below (by (with_reducible repeat (first | apply Kd.R_alloc | apply Kd.R_drewN | apply Kd.R_drew)); exact HO233.out) hb); have n1_ := Aside0.mk (Kd.R_elder' (by (with_reducible repeat (first | apply Kd.R_alloc | apply Kd.R_drewN | apply Kd.R_drew)); exact HO238.out) (Kd.R_base ho0) hb); have n2_ := Aside0.mk (Kd.R_lower (Kd.R_new' ho0 (Kd.R_lt (by (with_reducible repeat (first | apply Kd.R_alloc | apply Kd.R_drewN | apply Kd.R_drew)); exact HO238.out))) (below_size (by repeat (first | (with_reducible first | exact HB.out | apply below_alloc | apply pw_below_drewN | apply below_drew1) | exact HB.out)))); have n3_ := Aside0.mk (Kd.C_below (by repeat (first | (with_reducible exact HR242.out) | (with_reducible refine Kd.C_alloc ?_ _) | (with_reducible refine Kd.C_drewN ?_ _) | (with_reducible refine Kd.C_drew ?_) | exact HR242.out)) hb); have n4_ := Aside0.mk (below_step (by repeat (first | (with_reducible first | exact HB.out | apply below_alloc | apply pw_below_drewN | apply below_drew1) | exact HB.out)) hb); clear HO233; clear HO238; clear HR242; clear HB; have HO233 := n0_; have HO238 := n1_; have HO246 := n2_; have HR242 := n3_; have HB := n4_; clear n0_ n1_ n2_ n3_ n4_; (try clear hb); (try clear hb2); (try clear hk); (try clear hi); (try clear ho0); have q21 : (t234 : Int) ≤ ((t231.length : Int) : Int) := of_decide_eq_true (by first | (with_reducible assumption) | assumption); obtain ⟨i021, hi021, _, hsz21, _⟩ := info_parts info26; have hroom21 : t231.length ≤ co17 := (Kd.R_reads' HO233.out).2.1; have hC21 : Kd.C k26 _ Ao17 t231.length t231 := (Kd.R_reads' HO233.out).2.2; have q021 : (0 : Int) ≤ (t234 : Int) := of_decide_eq_true (by first | (with_reducible assumption) | assumption); have hcut21 := cut_from (P := Tryd.prog) 31 26 .i64 Tryd.underlying31 hi021 3 hsz21 Ao17 t231.length co17 t234 q021 q21; have hr21 := Kd.C_drop (m := (t234 : Int).toNat) (c := co17) hC21 (by omega) hroom21; obtain ⟨A21, hA21⟩ : ∃ A1, A1 = (if co17 = (t234 : Int).toNat then Ao17 else (Ao17 : Option Addr).map (·.add ((t234 : Int).toNat * 3))) := ⟨_, rfl⟩; obtain ⟨c21, hc21⟩ : ∃ c1, c1 = co17 - (t234 : Int).toNat := ⟨_, rfl⟩; have hy21 : y247.length = t231.length - (t234 : Int).toNat := (by rw [Ny247.out, List.length_drop] <;> omega); rw [show (t231).drop (t234 : Int).toNat = y247 from Ny247.out.symm] at hr21; replace hr21 : Kd.C k26 _ A21 y247.length y247 := (by rw [hA21]; exact hr21); rw [← hy21, ← hA21, ← hc21] at hcut21; have HR250 := Aside0.mk hr21; have HC250 := Aside0.mk (show y247.length ≤ c21 from by rw [hy21, hc21]; exact Nat.sub_le_sub_right hroom21 _); clear hr21 hC21 hroom21 hi021 hsz21 hc21; have KY21 := Aside0.mk hy21; have KA21 := Aside0.mk hA21; clear hy21 hA21; have KL21 := Aside0.mk (show (t234 : Int).toNat ≤ t231.length from by omega); replace q21 := eq_true q21) | (go_at_call 12; (with_reducible refine (impl_SettlementsOf.calls k _ _ y247 t251 t252 _ ?side1 ?side2 A13.out).mono ?_); (case side1 => repeat (first | exact (by repeat (first | (with_reducible exact HR250.out) | (with_reducible refine Kd.C_alloc ?_ _) | (with_reducible refine Kd.C_drewN ?_ _) | (with_reducible refine Kd.C_drew ?_) | exact HR250.out)) | (with_reducible refine Kd.C_alloc ?_ _) | (with_reducible refine Kd.C_drewN ?_ _) | (with_reducible refine Kd.C_drew ?_))); (case side2 => exact HC250.out); rintro e w22 ⟨v253, rfl, ho0, hb⟩; have n0_ := Aside0.mk (Kd.R_below (by (with_reducible repeat (first | apply Kd.R_alloc | apply Kd.R_drewN | apply Kd.R_drew)); exact HO233.out) hb); have n1_ := Aside0.mk (Kd.R_elder' (by (with_reducible repeat (first | apply Kd.R_alloc | apply Kd.R_drewN | apply Kd.R_drew)); exact HO238.out) (Kd.R_base ho0) hb); have n2_ := Aside0.mk (Kd.R_elder' (by (with_reducible repeat (first | apply Kd.R_alloc | apply Kd.R_drewN | apply Kd.R_drew)); exact HO246.out) (Kd.R_base ho0) hb); have n3_ := Aside0.mk (Kd.R_lower (Kd.R_new' (Kd.R_new' ho0 (Kd.R_lt (by (with_reducible repeat (first | apply Kd.R_alloc | apply Kd.R_drewN | apply Kd.R_drew)); exact HO238.out))) (Kd.R_lt (by (with_reducible repeat (first | apply Kd.R_alloc | apply Kd.R_drewN | apply Kd.R_drew)); exact HO246.out))) (below_size (by repeat (first | (with_reducible first | exact HB.out | apply below_alloc | apply pw_below_drewN | apply below_drew1) | exact HB.out)))); have n4_ := Aside0.mk (Kd.C_below (by repeat (first | (with_reducible exact HR242.out) | (with_reducible refine Kd.C_alloc ?_ _) | (with_reducible refine Kd.C_drewN ?_ _) | (with_reducible refine Kd.C_drew ?_) | exact HR242.out)) hb); have n5_ := Aside0.mk (Kd.C_below (by repeat (first | (with_reducible exact HR250.out) | (with_reducible refine Kd.C_alloc ?_ _) | (with_reducible refine Kd.C_drewN ?_ _) | (with_reducible refine Kd.C_drew ?_) | exact HR250.out)) hb); have n6_ := Aside0.mk (below_step (by repeat (first | (with_reducible first | exact HB.out | apply below_alloc | apply pw_below_drewN | apply below_drew1) | exact HB.out)) hb); clear HO233; clear HO238; clear HO246; clear HR242; clear HR250; clear HB; have HO233 := n0_; have HO238 := n1_; have HO246 := n2_; have HO254 := n3_; have HR242 := n4_; have HR250 := n5_; have HB := n6_; clear n0_ n1_ n2_ n3_ n4_ n5_ n6_; (try clear hb); (try clear hb2); (try clear hk); (try clear hi); (try clear ho0); obtain ⟨Ao23, co23, eo23⟩ := Kd.R_slice HO238.out; subst eo23) | (go_at_call 13; (with_reducible refine (impl_VolumeOf.calls k _ _ t235 t255 t256 _ ?side1 ?side2 A14.out).mono ?_); (case side1 => repeat (first | exact (Kd.R_reads' HO238.out).2.2 | (with_reducible refine Kd.C_alloc ?_ _) | (with_reducible refine Kd.C_drewN ?_ _) | (with_reducible refine Kd.C_drew ?_))); (case side2 => exact (Kd.R_reads' HO238.out).2.1); rintro e w24 ⟨rfl, hb⟩; have n0_ := Aside0.mk (Kd.R_below (by (with_reducible repeat (first | apply Kd.R_alloc | apply Kd.R_drewN | apply Kd.R_drew)); exact HO233.out) hb); have n1_ := Aside0.mk (Kd.R_below (by (with_reducible repeat (first | apply Kd.R_alloc | apply Kd.R_drewN | apply Kd.R_drew)); exact HO238.out) hb); have n2_ := Aside0.mk (Kd.R_below (by (with_reducible repeat (first | apply Kd.R_alloc | apply Kd.R_drewN | apply Kd.R_drew)); exact HO246.out) hb); have n3_ := Aside0.mk (Kd.R_below (by (with_reducible repeat (first | apply Kd.R_alloc | apply Kd.R_drewN | apply Kd.R_drew)); exact HO254.out) hb); have n4_ := Aside0.mk (Kd.C_below (by repeat (first | (with_reducible exact HR242.out) | (with_reducible refine Kd.C_alloc ?_ _) | (with_reducible refine Kd.C_drewN ?_ _) | (with_reducible refine Kd.C_drew ?_) | exact HR242.out)) hb); have n5_ := Aside0.mk (Kd.C_below (by repeat (first | (with_reducible exact HR250.out) | (with_reducible refine Kd.C_alloc ?_ _) | (with_reducible refine Kd.C_drewN ?_ _) | (with_reducible refine Kd.C_drew ?_) | exact HR250.out)) hb); have n6_ := Aside0.mk (below_step (by repeat (first | (with_reducible first | exact HB.out | apply below_alloc | apply pw_below_drewN | apply below_drew1) | exact HB.out)) hb); clear HO233; clear HO238; clear HO246; clear HO254; clear HR242; clear HR250; clear HB; have HO233 := n0_; have HO238 := n1_; have HO246 := n2_; have HO254 := n3_; have HR242 := n4_; have HR250 := n5_; have HB := n6_; clear n0_ n1_ n2_ n3_ n4_ n5_ n6_; (try clear hb); (try clear hb2); (try clear hk); (try clear hi)))
        repeat (go_quiet (first | (go_at_call 9; (with_reducible refine (laws_b10Long.calls _ _ l0 _ _ l1 false _ ?side1 ?side2 ?side3 ?side4 A3.out).mono ?_); (case side1 => repeat (first | exact HR0.out | (with_reducible refine Kd.C_alloc ?_ _) | (with_reducible refine Kd.C_drewN ?_ _) | (with_reducible refine Kd.C_drew ?_))); (case side2 => exact HC0.out); (case side3 => repeat (first | exact HR1.out | (with_reducible refine Kd.C_alloc ?_ _) | (with_reducible refine Kd.C_drewN ?_ _) | (with_reducible refine Kd.C_drew ?_))); (case side4 => exact HC1.out); rintro e w' ⟨rfl, ⟨nd, rfl⟩⟩; (try first | exact ⟨rfl, _, World.drewN_drewN _ _ _⟩ | exact ⟨rfl, _, Eq.trans (World.drewN_drewN _ _ _) (congrArg (World.drewN _) (Nat.add_assoc _ _ _))⟩)) | (go_at_call 10; (with_reducible refine (spec_B10Losses.calls k _ _ l0 t231 _ ?side1 ?side2 A5.out).mono ?_); (case side1 => repeat (first | exact HR0.out | (with_reducible refine Kd.C_alloc ?_ _) | (with_reducible refine Kd.C_drewN ?_ _) | (with_reducible refine Kd.C_drew ?_))); (case side2 => exact HC0.out); rintro e w16 ⟨v232, rfl, ho0, hb⟩; have n0_ := Aside0.mk (Kd.R_lower ho0 (below_size (by repeat (first | (with_reducible first | exact HB.out | apply below_alloc | apply pw_below_drewN | apply below_drew1) | exact HB.out)))); have n1_ := Aside0.mk (below_step (by repeat (first | (with_reducible first | exact HB.out | apply below_alloc | apply pw_below_drewN | apply below_drew1) | exact HB.out)) hb); clear HB; have HO233 := n0_; have HB := n1_; clear n0_ n1_; (try clear hb); (try clear hb2); (try clear hk); (try clear hi); (try clear ho0); obtain ⟨Ao17, co17, eo17⟩ := Kd.R_slice HO233.out; subst eo17) | (go_at_call 11; (with_reducible refine (laws_b10At.calls _ _ l1 0 (wrap64 ((t231.length : Int) + 1)) t234 _ ?side1 ?side2 A6.out).mono ?_); (case side1 => repeat (first | exact (Kd.C_below HR1.out HB.out) | (with_reducible refine Kd.C_alloc ?_ _) | (with_reducible refine Kd.C_drewN ?_ _) | (with_reducible refine Kd.C_drew ?_))); (case side2 => exact HC1.out); rintro e w' ⟨rfl, ⟨nd, rfl⟩⟩; (try first | exact ⟨rfl, _, World.drewN_drewN _ _ _⟩ | exact ⟨rfl, _, Eq.trans (World.drewN_drewN _ _ _) (congrArg (World.drewN _) (Nat.add_assoc _ _ _))⟩)) | (go_at_call 12; (with_reducible refine (impl_SettlementsOf.calls k _ _ t231 t235 t236 _ ?side1 ?side2 A7.out).mono ?_); (case side1 => repeat (first | exact (Kd.R_reads' HO233.out).2.2 | (with_reducible refine Kd.C_alloc ?_ _) | (with_reducible refine Kd.C_drewN ?_ _) | (with_reducible refine Kd.C_drew ?_))); (case side2 => exact (Kd.R_reads' HO233.out).2.1); rintro e w18 ⟨v237, rfl, ho0, hb⟩; have n0_ := Aside0.mk (Kd.R_below (by (with_reducible repeat (first | apply Kd.R_alloc | apply Kd.R_drewN | apply Kd.R_drew)); exact HO233.out) hb); have n1_ := Aside0.mk (Kd.R_lower ho0 (below_size (by repeat (first | (with_reducible first | exact HB.out | apply below_alloc | apply pw_below_drewN | apply below_drew1) | exact HB.out)))); have n2_ := Aside0.mk (below_step (by repeat (first | (with_reducible first | exact HB.out | apply below_alloc | apply pw_below_drewN | apply below_drew1) | exact HB.out)) hb); clear HO233; clear HB; have HO233 := n0_; have HO238 := n1_; have HB := n2_; clear n0_ n1_ n2_; (try clear hb); (try clear hb2); (try clear hk); (try clear hi); (try clear ho0); have q19 : (t234 : Int) ≤ ((t231.length : Int) : Int) := of_decide_eq_true (by first | (with_reducible assumption) | assumption); obtain ⟨i019, hi019, _, hsz19, _⟩ := info_parts info26; have hroom19 : t231.length ≤ co17 := (Kd.R_reads' HO233.out).2.1; have hC19 : Kd.C k26 _ Ao17 t231.length t231 := (Kd.R_reads' HO233.out).2.2; have hcut19 := cut_to (P := Tryd.prog) 31 26 .i64 Tryd.underlying31 hi019 Ao17 t231.length co17 t234 (of_decide_eq_true (by first | (with_reducible assumption) | assumption)) q19 hroom19; have hr19 := Kd.C_take (m := (t234 : Int).toNat) hC19 (by omega); have hy19 : y239.length = (t234 : Int).toNat := (by rw [Ny239.out, List.length_take]; omega); rw [← Ny239.out] at hr19; rw [← hy19] at hcut19; have HR242 := Aside0.mk hr19; have HC242 := Aside0.mk (show y239.length ≤ co17 from by omega); clear hr19 hC19 hroom19 hi019 hsz19; have KY19 := Aside0.mk hy19; clear hy19; have KL19 := Aside0.mk (show (t234 : Int).toNat ≤ t231.length from by omega); replace q19 := eq_true q19) | (go_at_call 12; (with_reducible refine (impl_SettlementsOf.calls k _ _ y239 t243 t244 _ ?side1 ?side2 A10.out).mono ?_); (case side1 => repeat (first | exact (by repeat (first | (with_reducible exact HR242.out) | (with_reducible refine Kd.C_alloc ?_ _) | (with_reducible refine Kd.C_drewN ?_ _) | (with_reducible refine Kd.C_drew ?_) | exact HR242.out)) | (with_reducible refine Kd.C_alloc ?_ _) | (with_reducible refine Kd.C_drewN ?_ _) | (with_reducible refine Kd.C_drew ?_))); (case side2 => exact HC242.out); rintro e w20 ⟨v245, rfl, ho0, hb⟩; have n0_ := Aside0.mk (Kd.R_below (by (with_reducible repeat (first | apply Kd.R_alloc | apply Kd.R_drewN | apply Kd.R_drew)); exact HO233.out) hb); have n1_ := Aside0.mk (Kd.R_elder' (by (with_reducible repeat (first | apply Kd.R_alloc | apply Kd.R_drewN | apply Kd.R_drew)); exact HO238.out) (Kd.R_base ho0) hb); have n2_ := Aside0.mk (Kd.R_lower (Kd.R_new' ho0 (Kd.R_lt (by (with_reducible repeat (first | apply Kd.R_alloc | apply Kd.R_drewN | apply Kd.R_drew)); exact HO238.out))) (below_size (by repeat (first | (with_reducible first | exact HB.out | apply below_alloc | apply pw_below_drewN | apply below_drew1) | exact HB.out)))); have n3_ := Aside0.mk (Kd.C_below (by repeat (first | (with_reducible exact HR242.out) | (with_reducible refine Kd.C_alloc ?_ _) | (with_reducible refine Kd.C_drewN ?_ _) | (with_reducible refine Kd.C_drew ?_) | exact HR242.out)) hb); have n4_ := Aside0.mk (below_step (by repeat (first | (with_reducible first | exact HB.out | apply below_alloc | apply pw_below_drewN | apply below_drew1) | exact HB.out)) hb); clear HO233; clear HO238; clear HR242; clear HB; have HO233 := n0_; have HO238 := n1_; have HO246 := n2_; have HR242 := n3_; have HB := n4_; clear n0_ n1_ n2_ n3_ n4_; (try clear hb); (try clear hb2); (try clear hk); (try clear hi); (try clear ho0); have q21 : (t234 : Int) ≤ ((t231.length : Int) : Int) := of_decide_eq_true (by first | (with_reducible assumption) | assumption); obtain ⟨i021, hi021, _, hsz21, _⟩ := info_parts info26; have hroom21 : t231.length ≤ co17 := (Kd.R_reads' HO233.out).2.1; have hC21 : Kd.C k26 _ Ao17 t231.length t231 := (Kd.R_reads' HO233.out).2.2; have q021 : (0 : Int) ≤ (t234 : Int) := of_decide_eq_true (by first | (with_reducible assumption) | assumption); have hcut21 := cut_from (P := Tryd.prog) 31 26 .i64 Tryd.underlying31 hi021 3 hsz21 Ao17 t231.length co17 t234 q021 q21; have hr21 := Kd.C_drop (m := (t234 : Int).toNat) (c := co17) hC21 (by omega) hroom21; obtain ⟨A21, hA21⟩ : ∃ A1, A1 = (if co17 = (t234 : Int).toNat then Ao17 else (Ao17 : Option Addr).map (·.add ((t234 : Int).toNat * 3))) := ⟨_, rfl⟩; obtain ⟨c21, hc21⟩ : ∃ c1, c1 = co17 - (t234 : Int).toNat := ⟨_, rfl⟩; have hy21 : y247.length = t231.length - (t234 : Int).toNat := (by rw [Ny247.out, List.length_drop] <;> omega); rw [show (t231).drop (t234 : Int).toNat = y247 from Ny247.out.symm] at hr21; replace hr21 : Kd.C k26 _ A21 y247.length y247 := (by rw [hA21]; exact hr21); rw [← hy21, ← hA21, ← hc21] at hcut21; have HR250 := Aside0.mk hr21; have HC250 := Aside0.mk (show y247.length ≤ c21 from by rw [hy21, hc21]; exact Nat.sub_le_sub_right hroom21 _); clear hr21 hC21 hroom21 hi021 hsz21 hc21; have KY21 := Aside0.mk hy21; have KA21 := Aside0.mk hA21; clear hy21 hA21; have KL21 := Aside0.mk (show (t234 : Int).toNat ≤ t231.length from by omega); replace q21 := eq_true q21) | (go_at_call 12; (with_reducible refine (impl_SettlementsOf.calls k _ _ y247 t251 t252 _ ?side1 ?side2 A13.out).mono ?_); (case side1 => repeat (first | exact (by repeat (first | (with_reducible exact HR250.out) | (with_reducible refine Kd.C_alloc ?_ _) | (with_reducible refine Kd.C_drewN ?_ _) | (with_reducible refine Kd.C_drew ?_) | exact HR250.out)) | (with_reducible refine Kd.C_alloc ?_ _) | (with_reducible refine Kd.C_drewN ?_ _) | (with_reducible refine Kd.C_drew ?_))); (case side2 => exact HC250.out); rintro e w22 ⟨v253, rfl, ho0, hb⟩; have n0_ := Aside0.mk (Kd.R_below (by (with_reducible repeat (first | apply Kd.R_alloc | apply Kd.R_drewN | apply Kd.R_drew)); exact HO233.out) hb); have n1_ := Aside0.mk (Kd.R_elder' (by (with_reducible repeat (first | apply Kd.R_alloc | apply Kd.R_drewN | apply Kd.R_drew)); exact HO238.out) (Kd.R_base ho0) hb); have n2_ := Aside0.mk (Kd.R_elder' (by (with_reducible repeat (first | apply Kd.R_alloc | apply Kd.R_drewN | apply Kd.R_drew)); exact HO246.out) (Kd.R_base ho0) hb); have n3_ := Aside0.mk (Kd.R_lower (Kd.R_new' (Kd.R_new' ho0 (Kd.R_lt (by (with_reducible repeat (first | apply Kd.R_alloc | apply Kd.R_drewN | apply Kd.R_drew)); exact HO238.out))) (Kd.R_lt (by (with_reducible repeat (first | apply Kd.R_alloc | apply Kd.R_drewN | apply Kd.R_drew)); exact HO246.out))) (below_size (by repeat (first | (with_reducible first | exact HB.out | apply below_alloc | apply pw_below_drewN | apply below_drew1) | exact HB.out)))); have n4_ := Aside0.mk (Kd.C_below (by repeat (first | (with_reducible exact HR242.out) | (with_reducible refine Kd.C_alloc ?_ _) | (with_reducible refine Kd.C_drewN ?_ _) | (with_reducible refine Kd.C_drew ?_) | exact HR242.out)) hb); have n5_ := Aside0.mk (Kd.C_below (by repeat (first | (with_reducible exact HR250.out) | (with_reducible refine Kd.C_alloc ?_ _) | (with_reducible refine Kd.C_drewN ?_ _) | (with_reducible refine Kd.C_drew ?_) | exact HR250.out)) hb); have n6_ := Aside0.mk (below_step (by repeat (first | (with_reducible first | exact HB.out | apply below_alloc | apply pw_below_drewN | apply below_drew1) | exact HB.out)) hb); clear HO233; clear HO238; clear HO246; clear HR242; clear HR250; clear HB; have HO233 := n0_; have HO238 := n1_; have HO246 := n2_; have HO254 := n3_; have HR242 := n4_; have HR250 := n5_; have HB := n6_; clear n0_ n1_ n2_ n3_ n4_ n5_ n6_; (try clear hb); (try clear hb2); (try clear hk); (try clear hi); (try clear ho0); obtain ⟨Ao23, co23, eo23⟩ := Kd.R_slice HO238.out; subst eo23) | (go_at_call 13; (with_reducible refine (impl_VolumeOf.calls k _ _ t235 t255 t256 _ ?side1 ?side2 A14.out).mono ?_); (case side1 => repeat (first | exact (Kd.R_reads' HO238.out).2.2 | (with_reducible refine Kd.C_alloc ?_ _) | (with_reducible refine Kd.C_drewN ?_ _) | (with_reducible refine Kd.C_drew ?_))); (case side2 => exact (Kd.R_reads' HO238.out).2.1); rintro e w24 ⟨rfl, hb⟩; have n0_ := Aside0.mk (Kd.R_below (by (with_reducible repeat (first | apply Kd.R_alloc | apply Kd.R_drewN | apply Kd.R_drew)); exact HO233.out) hb); have n1_ := Aside0.mk (Kd.R_below (by (with_reducible repeat (first | apply Kd.R_alloc | apply Kd.R_drewN | apply Kd.R_drew)); exact HO238.out) hb); have n2_ := Aside0.mk (Kd.R_below (by (with_reducible repeat (first | apply Kd.R_alloc | apply Kd.R_drewN | apply Kd.R_drew)); exact HO246.out) hb); have n3_ := Aside0.mk (Kd.R_below (by (with_reducible repeat (first | apply Kd.R_alloc | apply Kd.R_drewN | apply Kd.R_drew)); exact HO254.out) hb); have n4_ := Aside0.mk (Kd.C_below (by repeat (first | (with_reducible exact HR242.out) | (with_reducible refine Kd.C_alloc ?_ _) | (with_reducible refine Kd.C_drewN ?_ _) | (with_reducible refine Kd.C_drew ?_) | exact HR242.out)) hb); have n5_ := Aside0.mk (Kd.C_below (by repeat (first | (with_reducible exact HR250.out) | (with_reducible refine Kd.C_alloc ?_ _) | (with_reducible refine Kd.C_drewN ?_ _) | (with_reducible refine Kd.C_drew ?_) | exact HR250.out)) hb); have n6_ := Aside0.mk (below_step (by repeat (first | (with_reducible first | exact HB.out | apply below_alloc | apply pw_below_drewN | apply below_drew1) | exact HB.out)) hb); clear HO233; clear HO238; clear HO246; clear HO254; clear HR242; clear HR250; clear HB; have HO233 := n0_; have HO238 := n1_; have HO246 := n2_; have HO254 := n3_; have HR242 := n4_; have HR250 := n5_; have HB := n6_; clear n0_ n1_ n2_ n3_ n4_ n5_ n6_; (try clear hb); (try clear hb2); (try clear hk); (try clear hi))); go_upto_region 9 with (first | (go_at_call 9; (with_reducible refine (laws_b10Long.calls _ _ l0 _ _ l1 false _ ?side1 ?side2 ?side3 ?side4 A3.out).mono ?_); (case side1 => repeat (first | exact HR0.out | (with_reducible refine Kd.C_alloc ?_ _) | (with_reducible refine Kd.C_drewN ?_ _) | (with_reducible refine Kd.C_drew ?_))); (case side2 => exact HC0.out); (case side3 => repeat (first | exact HR1.out | (with_reducible refine Kd.C_alloc ?_ _) | (with_reducible refine Kd.C_drewN ?_ _) | (with_reducible refine Kd.C_drew ?_))); (case side4 => exact HC1.out); rintro e w' ⟨rfl, ⟨nd, rfl⟩⟩; (try first | exact ⟨rfl, _, World.drewN_drewN _ _ _⟩ | exact ⟨rfl, _, Eq.trans (World.drewN_drewN _ _ _) (congrArg (World.drewN _) (Nat.add_assoc _ _ _))⟩)) | (go_at_call 10; (with_reducible refine (spec_B10Losses.calls k _ _ l0 t231 _ ?side1 ?side2 A5.out).mono ?_); (case side1 => repeat (first | exact HR0.out | (with_reducible refine Kd.C_alloc ?_ _) | (with_reducible refine Kd.C_drewN ?_ _) | (with_reducible refine Kd.C_drew ?_))); (case side2 => exact HC0.out); rintro e w16 ⟨v232, rfl, ho0, hb⟩; have n0_ := Aside0.mk (Kd.R_lower ho0 (below_size (by repeat (first | (with_reducible first | exact HB.out | apply below_alloc | apply pw_below_drewN | apply below_drew1) | exact HB.out)))); have n1_ := Aside0.mk (below_step (by repeat (first | (with_reducible first | exact HB.out | apply below_alloc | apply pw_below_drewN | apply below_drew1) | exact HB.out)) hb); clear HB; have HO233 := n0_; have HB := n1_; clear n0_ n1_; (try clear hb); (try clear hb2); (try clear hk); (try clear hi); (try clear ho0); obtain ⟨Ao17, co17, eo17⟩ := Kd.R_slice HO233.out; subst eo17) | (go_at_call 11; (with_reducible refine (laws_b10At.calls _ _ l1 0 (wrap64 ((t231.length : Int) + 1)) t234 _ ?side1 ?side2 A6.out).mono ?_); (case side1 => repeat (first | exact (Kd.C_below HR1.out HB.out) | (with_reducible refine Kd.C_alloc ?_ _) | (with_reducible refine Kd.C_drewN ?_ _) | (with_reducible refine Kd.C_drew ?_))); (case side2 => exact HC1.out); rintro e w' ⟨rfl, ⟨nd, rfl⟩⟩; (try first | exact ⟨rfl, _, World.drewN_drewN _ _ _⟩ | exact ⟨rfl, _, Eq.trans (World.drewN_drewN _ _ _) (congrArg (World.drewN _) (Nat.add_assoc _ _ _))⟩)) | (go_at_call 12; (with_reducible refine (impl_SettlementsOf.calls k _ _ t231 t235 t236 _ ?side1 ?side2 A7.out).mono ?_); (case side1 => repeat (first | exact (Kd.R_reads' HO233.out).2.2 | (with_reducible refine Kd.C_alloc ?_ _) | (with_reducible refine Kd.C_drewN ?_ _) | (with_reducible refine Kd.C_drew ?_))); (case side2 => exact (Kd.R_reads' HO233.out).2.1); rintro e w18 ⟨v237, rfl, ho0, hb⟩; have n0_ := Aside0.mk (Kd.R_below (by (with_reducible repeat (first | apply Kd.R_alloc | apply Kd.R_drewN | apply Kd.R_drew)); exact HO233.out) hb); have n1_ := Aside0.mk (Kd.R_lower ho0 (below_size (by repeat (first | (with_reducible first | exact HB.out | apply below_alloc | apply pw_below_drewN | apply below_drew1) | exact HB.out)))); have n2_ := Aside0.mk (below_step (by repeat (first | (with_reducible first | exact HB.out | apply below_alloc | apply pw_below_drewN | apply below_drew1) | exact HB.out)) hb); clear HO233; clear HB; have HO233 := n0_; have HO238 := n1_; have HB := n2_; clear n0_ n1_ n2_; (try clear hb); (try clear hb2); (try clear hk); (try clear hi); (try clear ho0); have q19 : (t234 : Int) ≤ ((t231.length : Int) : Int) := of_decide_eq_true (by first | (with_reducible assumption) | assumption); obtain ⟨i019, hi019, _, hsz19, _⟩ := info_parts info26; have hroom19 : t231.length ≤ co17 := (Kd.R_reads' HO233.out).2.1; have hC19 : Kd.C k26 _ Ao17 t231.length t231 := (Kd.R_reads' HO233.out).2.2; have hcut19 := cut_to (P := Tryd.prog) 31 26 .i64 Tryd.underlying31 hi019 Ao17 t231.length co17 t234 (of_decide_eq_true (by first | (with_reducible assumption) | assumption)) q19 hroom19; have hr19 := Kd.C_take (m := (t234 : Int).toNat) hC19 (by omega); have hy19 : y239.length = (t234 : Int).toNat := (by rw [Ny239.out, List.length_take]; omega); rw [← Ny239.out] at hr19; rw [← hy19] at hcut19; have HR242 := Aside0.mk hr19; have HC242 := Aside0.mk (show y239.length ≤ co17 from by omega); clear hr19 hC19 hroom19 hi019 hsz19; have KY19 := Aside0.mk hy19; clear hy19; have KL19 := Aside0.mk (show (t234 : Int).toNat ≤ t231.length from by omega); replace q19 := eq_true q19) | (go_at_call 12; (with_reducible refine (impl_SettlementsOf.calls k _ _ y239 t243 t244 _ ?side1 ?side2 A10.out).mono ?_); (case side1 => repeat (first | exact (by repeat (first | (with_reducible exact HR242.out) | (with_reducible refine Kd.C_alloc ?_ _) | (with_reducible refine Kd.C_drewN ?_ _) | (with_reducible refine Kd.C_drew ?_) | exact HR242.out)) | (with_reducible refine Kd.C_alloc ?_ _) | (with_reducible refine Kd.C_drewN ?_ _) | (with_reducible refine Kd.C_drew ?_))); (case side2 => exact HC242.out); rintro e w20 ⟨v245, rfl, ho0, hb⟩; have n0_ := Aside0.mk (Kd.R_below (by (with_reducible repeat (first | apply Kd.R_alloc | apply Kd.R_drewN | apply Kd.R_drew)); exact HO233.out) hb); have n1_ := Aside0.mk (Kd.R_elder' (by (with_reducible repeat (first | apply Kd.R_alloc | apply Kd.R_drewN | apply Kd.R_drew)); exact HO238.out) (Kd.R_base ho0) hb); have n2_ := Aside0.mk (Kd.R_lower (Kd.R_new' ho0 (Kd.R_lt (by (with_reducible repeat (first | apply Kd.R_alloc | apply Kd.R_drewN | apply Kd.R_drew)); exact HO238.out))) (below_size (by repeat (first | (with_reducible first | exact HB.out | apply below_alloc | apply pw_below_drewN | apply below_drew1) | exact HB.out)))); have n3_ := Aside0.mk (Kd.C_below (by repeat (first | (with_reducible exact HR242.out) | (with_reducible refine Kd.C_alloc ?_ _) | (with_reducible refine Kd.C_drewN ?_ _) | (with_reducible refine Kd.C_drew ?_) | exact HR242.out)) hb); have n4_ := Aside0.mk (below_step (by repeat (first | (with_reducible first | exact HB.out | apply below_alloc | apply pw_below_drewN | apply below_drew1) | exact HB.out)) hb); clear HO233; clear HO238; clear HR242; clear HB; have HO233 := n0_; have HO238 := n1_; have HO246 := n2_; have HR242 := n3_; have HB := n4_; clear n0_ n1_ n2_ n3_ n4_; (try clear hb); (try clear hb2); (try clear hk); (try clear hi); (try clear ho0); have q21 : (t234 : Int) ≤ ((t231.length : Int) : Int) := of_decide_eq_true (by first | (with_reducible assumption) | assumption); obtain ⟨i021, hi021, _, hsz21, _⟩ := info_parts info26; have hroom21 : t231.length ≤ co17 := (Kd.R_reads' HO233.out).2.1; have hC21 : Kd.C k26 _ Ao17 t231.length t231 := (Kd.R_reads' HO233.out).2.2; have q021 : (0 : Int) ≤ (t234 : Int) := of_decide_eq_true (by first | (with_reducible assumption) | assumption); have hcut21 := cut_from (P := Tryd.prog) 31 26 .i64 Tryd.underlying31 hi021 3 hsz21 Ao17 t231.length co17 t234 q021 q21; have hr21 := Kd.C_drop (m := (t234 : Int).toNat) (c := co17) hC21 (by omega) hroom21; obtain ⟨A21, hA21⟩ : ∃ A1, A1 = (if co17 = (t234 : Int).toNat then Ao17 else (Ao17 : Option Addr).map (·.add ((t234 : Int).toNat * 3))) := ⟨_, rfl⟩; obtain ⟨c21, hc21⟩ : ∃ c1, c1 = co17 - (t234 : Int).toNat := ⟨_, rfl⟩; have hy21 : y247.length = t231.length - (t234 : Int).toNat := (by rw [Ny247.out, List.length_drop] <;> omega); rw [show (t231).drop (t234 : Int).toNat = y247 from Ny247.out.symm] at hr21; replace hr21 : Kd.C k26 _ A21 y247.length y247 := (by rw [hA21]; exact hr21); rw [← hy21, ← hA21, ← hc21] at hcut21; have HR250 := Aside0.mk hr21; have HC250 := Aside0.mk (show y247.length ≤ c21 from by rw [hy21, hc21]; exact Nat.sub_le_sub_right hroom21 _); clear hr21 hC21 hroom21 hi021 hsz21 hc21; have KY21 := Aside0.mk hy21; have KA21 := Aside0.mk hA21; clear hy21 hA21; have KL21 := Aside0.mk (show (t234 : Int).toNat ≤ t231.length from by omega); replace q21 := eq_true q21) | (go_at_call 12; (with_reducible refine (impl_SettlementsOf.calls k _ _ y247 t251 t252 _ ?side1 ?side2 A13.out).mono ?_); (case side1 => repeat (first | exact (by repeat (first | (with_reducible exact HR250.out) | (with_reducible refine Kd.C_alloc ?_ _) | (with_reducible refine Kd.C_drewN ?_ _) | (with_reducible refine Kd.C_drew ?_) | exact HR250.out)) | (with_reducible refine Kd.C_alloc ?_ _) | (with_reducible refine Kd.C_drewN ?_ _) | (with_reducible refine Kd.C_drew ?_))); (case side2 => exact HC250.out); rintro e w22 ⟨v253, rfl, ho0, hb⟩; have n0_ := Aside0.mk (Kd.R_below (by (with_reducible repeat (first | apply Kd.R_alloc | apply Kd.R_drewN | apply Kd.R_drew)); exact HO233.out) hb); have n1_ := Aside0.mk (Kd.R_elder' (by (with_reducible repeat (first | apply Kd.R_alloc | apply Kd.R_drewN | apply Kd.R_drew)); exact HO238.out) (Kd.R_base ho0) hb); have n2_ := Aside0.mk (Kd.R_elder' (by (with_reducible repeat (first | apply Kd.R_alloc | apply Kd.R_drewN | apply Kd.R_drew)); exact HO246.out) (Kd.R_base ho0) hb); have n3_ := Aside0.mk (Kd.R_lower (Kd.R_new' (Kd.R_new' ho0 (Kd.R_lt (by (with_reducible repeat (first | apply Kd.R_alloc | apply Kd.R_drewN | apply Kd.R_drew)); exact HO238.out))) (Kd.R_lt (by (with_reducible repeat (first | apply Kd.R_alloc | apply Kd.R_drewN | apply Kd.R_drew)); exact HO246.out))) (below_size (by repeat (first | (with_reducible first | exact HB.out | apply below_alloc | apply pw_below_drewN | apply below_drew1) | exact HB.out)))); have n4_ := Aside0.mk (Kd.C_below (by repeat (first | (with_reducible exact HR242.out) | (with_reducible refine Kd.C_alloc ?_ _) | (with_reducible refine Kd.C_drewN ?_ _) | (with_reducible refine Kd.C_drew ?_) | exact HR242.out)) hb); have n5_ := Aside0.mk (Kd.C_below (by repeat (first | (with_reducible exact HR250.out) | (with_reducible refine Kd.C_alloc ?_ _) | (with_reducible refine Kd.C_drewN ?_ _) | (with_reducible refine Kd.C_drew ?_) | exact HR250.out)) hb); have n6_ := Aside0.mk (below_step (by repeat (first | (with_reducible first | exact HB.out | apply below_alloc | apply pw_below_drewN | apply below_drew1) | exact HB.out)) hb); clear HO233; clear HO238; clear HO246; clear HR242; clear HR250; clear HB; have HO233 := n0_; have HO238 := n1_; have HO246 := n2_; have HO254 := n3_; have HR242 := n4_; have HR250 := n5_; have HB := n6_; clear n0_ n1_ n2_ n3_ n4_ n5_ n6_; (try clear hb); (try clear hb2); (try clear hk); (try clear hi); (try clear ho0); obtain ⟨Ao23, co23, eo23⟩ := Kd.R_slice HO238.out; subst eo23) | (go_at_call 13; (with_reducible refine (impl_VolumeOf.calls k _ _ t235 t255 t256 _ ?side1 ?side2 A14.out).mono ?_); (case side1 => repeat (first | exact (Kd.R_reads' HO238.out).2.2 | (with_reducible refine Kd.C_alloc ?_ _) | (with_reducible refine Kd.C_drewN ?_ _) | (with_reducible refine Kd.C_drew ?_))); (case side2 => exact (Kd.R_reads' HO238.out).2.1); rintro e w24 ⟨rfl, hb⟩; have n0_ := Aside0.mk (Kd.R_below (by (with_reducible repeat (first | apply Kd.R_alloc | apply Kd.R_drewN | apply Kd.R_drew)); exact HO233.out) hb); have n1_ := Aside0.mk (Kd.R_below (by (with_reducible repeat (first | apply Kd.R_alloc | apply Kd.R_drewN | apply Kd.R_drew)); exact HO238.out) hb); have n2_ := Aside0.mk (Kd.R_below (by (with_reducible repeat (first | apply Kd.R_alloc | apply Kd.R_drewN | apply Kd.R_drew)); exact HO246.out) hb); have n3_ := Aside0.mk (Kd.R_below (by (with_reducible repeat (first | apply Kd.R_alloc | apply Kd.R_drewN | apply Kd.R_drew)); exact HO254.out) hb); have n4_ := Aside0.mk (Kd.C_below (by repeat (first | (with_reducible exact HR242.out) | (with_reducible refine Kd.C_alloc ?_ _) | (with_reducible refine Kd.C_drewN ?_ _) | (with_reducible refine Kd.C_drew ?_) | exact HR242.out)) hb); have n5_ := Aside0.mk (Kd.C_below (by repeat (first | (with_reducible exact HR250.out) | (with_reducible refine Kd.C_alloc ?_ _) | (with_reducible refine Kd.C_drewN ?_ _) | (with_reducible refine Kd.C_drew ?_) | exact HR250.out)) hb); have n6_ := Aside0.mk (below_step (by repeat (first | (with_reducible first | exact HB.out | apply below_alloc | apply pw_below_drewN | apply below_drew1) | exact HB.out)) hb); clear HO233; clear HO238; clear HO246; clear HO254; clear HR242; clear HR250; clear HB; have HO233 := n0_; have HO238 := n1_; have HO246 := n2_; have HO254 := n3_; have HR242 := n4_; have HR250 := n5_; have HB := n6_; clear n0_ n1_ n2_ n3_ n4_ n5_ n6_; (try clear hb); (try clear hb2); (try clear hk); (try clear hi))))
        (try simp only [Act.put, List.setIfInBounds_toArray, List.set_cons_zero, List.set_cons_succ])
        go_cut [84] (fun v84 wc => ∃ (kq : Nat) (x84_14 : Bool), v84 = .bool x84_14 ∧ Aside0 (laws_FnVolume.j0 kq t231 t235 t243 t251 t255 x84_14 = some r) ∧ Aside0 (kq ≤ k) ∧ Aside0 (Kd.R k26 26 wc w.heap.size (fun _ => True) (.slice Ao17 t231.length co17) t231) ∧ Aside0 (Kd.R (Kd.int .i64) 2 wc w.heap.size (fun k_ => some k_ ≠ (v245 : Value).ownBlock ∧ some k_ ≠ (v253 : Value).ownBlock) (.slice Ao23 t235.length co23) t235) ∧ Aside0 (Kd.R (Kd.int .i64) 2 wc w.heap.size (fun k_ => some k_ ≠ ((.slice Ao23 t235.length co23) : Value).ownBlock ∧ some k_ ≠ (v253 : Value).ownBlock) v245 t243) ∧ Aside0 (Kd.R (Kd.int .i64) 2 wc w.heap.size (fun k_ => some k_ ≠ ((.slice Ao23 t235.length co23) : Value).ownBlock ∧ some k_ ≠ (v245 : Value).ownBlock) v253 t251) ∧ Aside0 (Below w.heap.size w wc))
        case first =>
          have H := HC15.out
          clear HC15
          by_cases c25 : t236 = true
          · subst c25
            have H1 : (if t244 = true then (if t252 = true then (if t256 = true then (if (t235.length : Int) = 24 then (if (t243.length : Int) = 24 then (laws_FnVolume.j0 k t231 t235 t243 t251 t255 ((t251.length : Int) != 24)) else (none)) else (none)) else (none)) else (none)) else (none)) = some r := by rw [if_pos rfl] at H; exact H
            clear H
            have H := H1
            clear H1
            by_cases c26 : t244 = true
            · subst c26
              have H1 : (if t252 = true then (if t256 = true then (if (t235.length : Int) = 24 then (if (t243.length : Int) = 24 then (laws_FnVolume.j0 k t231 t235 t243 t251 t255 ((t251.length : Int) != 24)) else (none)) else (none)) else (none)) else (none)) = some r := by rw [if_pos rfl] at H; exact H
              clear H
              have H := H1
              clear H1
              by_cases c27 : t252 = true
              · subst c27
                have H1 : (if t256 = true then (if (t235.length : Int) = 24 then (if (t243.length : Int) = 24 then (laws_FnVolume.j0 k t231 t235 t243 t251 t255 ((t251.length : Int) != 24)) else (none)) else (none)) else (none)) = some r := by rw [if_pos rfl] at H; exact H
                clear H
                have H := H1
                clear H1
                by_cases c28 : t256 = true
                · subst c28
                  have H1 : (if (t235.length : Int) = 24 then (if (t243.length : Int) = 24 then (laws_FnVolume.j0 k t231 t235 t243 t251 t255 ((t251.length : Int) != 24)) else (none)) else (none)) = some r := by rw [if_pos rfl] at H; exact H
                  clear H
                  have H := H1
                  clear H1
                  by_cases c29 : (t235.length : Int) = 24
                  · rw [if_pos c29] at H
                    have c29b0 : ((t235.length : Int) == 24) = true := beq_iff_eq.mpr c29
                    have c29b1 : ((t235.length : Int) != 24) = false := bne_eq_false_iff_eq.mpr c29
                    clear c29
                    (first | rw [c29b0] | (simp only [i64_w, i32_w]; rw [c29b0]) | skip)
                    by_cases c30 : (t243.length : Int) = 24
                    · rw [if_pos c30] at H
                      have c30b0 : ((t243.length : Int) == 24) = true := beq_iff_eq.mpr c30
                      have c30b1 : ((t243.length : Int) != 24) = false := bne_eq_false_iff_eq.mpr c30
                      clear c30
                      have H' := Aside0.mk H
                      clear H
                      obtain ⟨Ao31, co31, eo31⟩ := Kd.R_slice HO246.out
                      subst eo31
                      obtain ⟨Ao32, co32, eo32⟩ := Kd.R_slice HO254.out
                      subst eo32
                      go_wp2
                      repeat (go_quiet (fail); try go_wp2)
                      go_meet
                      case rel => exact ⟨_, (((t251.length : Int) != 24)), (by first | rfl | (simp; done) | (simp [*]; done) | (simp [Int.tdiv_eq_ediv_of_nonneg, *]; done)), H', ⟨by first | omega | exact Nat.le_refl _⟩, ⟨by (with_reducible repeat (first | apply Kd.R_alloc | apply Kd.R_drewN | apply Kd.R_drew)); exact HO233.out⟩, ⟨by (with_reducible repeat (first | apply Kd.R_alloc | apply Kd.R_drewN | apply Kd.R_drew)); exact Kd.R_mono HO238.out (fun _ hk => ⟨hk.1.2, hk.2⟩)⟩, ⟨by (with_reducible repeat (first | apply Kd.R_alloc | apply Kd.R_drewN | apply Kd.R_drew)); exact Kd.R_mono HO246.out (fun _ hk => ⟨hk.1.2, hk.2⟩)⟩, ⟨by (with_reducible repeat (first | apply Kd.R_alloc | apply Kd.R_drewN | apply Kd.R_drew)); exact Kd.R_mono HO254.out (fun _ hk => ⟨hk.1.2, hk.2⟩)⟩, ⟨by repeat (first | (with_reducible first | exact HB.out | apply below_alloc | apply pw_below_drewN | apply below_drew1) | exact HB.out)⟩⟩
                    · rw [if_neg c30] at H
                      exact absurd H (by simp)
                  · rw [if_neg c29] at H
                    exact absurd H (by simp)
                · replace c28 := Bool.eq_false_iff.mpr c28
                  subst c28
                  have H1 : (none) = some r := by rw [if_neg (show ¬ (false = true) by decide)] at H; exact H
                  clear H
                  have H := H1
                  clear H1
                  exact absurd H (by simp)
              · replace c27 := Bool.eq_false_iff.mpr c27
                subst c27
                have H1 : (none) = some r := by rw [if_neg (show ¬ (false = true) by decide)] at H; exact H
                clear H
                have H := H1
                clear H1
                exact absurd H (by simp)
            · replace c26 := Bool.eq_false_iff.mpr c26
              subst c26
              have H1 : (none) = some r := by rw [if_neg (show ¬ (false = true) by decide)] at H; exact H
              clear H
              have H := H1
              clear H1
              exact absurd H (by simp)
          · replace c25 := Bool.eq_false_iff.mpr c25
            subst c25
            have H1 : (none) = some r := by rw [if_neg (show ¬ (false = true) by decide)] at H; exact H
            clear H
            have H := H1
            clear H1
            exact absurd H (by simp)
        case rest =>
          clear HC15
          try clear c1
          try clear q1
          try clear c2
          try clear p2
          try clear q2
          try clear c3
          try clear c4
          try clear p6
          try clear c8
          try clear c8b0
          try clear c8b1
          try clear c9
          try clear c9b0
          try clear c9b1
          try clear c11
          try clear c11b0
          try clear c12
          try clear c12b0
          try clear q19
          try clear c21
          try clear q21
          try clear c25
          try clear c26
          try clear c27
          try clear c28
          try clear c29
          try clear c29b0
          try clear c29b1
          try clear c30
          try clear c30b0
          try clear c30b1
          try clear q021
          try clear q19
          try clear q21
          obtain ⟨kq, x84_14, rfl, HA, HJ14, HO_5, HO_7, HO_9, HO_11, HB⟩ := hcut
          cases kq with
          | zero => exact absurd HA.out (by simp [laws_FnVolume.j0])
          | succ kj14 =>
            have H := HA.out
            clear HA
            simp only [laws_FnVolume.j0] at H
            by_cases c33 : x84_14 = true
            · subst c33
              have H1 : (none) = some r := by rw [if_pos rfl] at H; exact H
              clear H
              have H := H1
              clear H1
              exact absurd H (by simp)
            · replace c33 := Bool.eq_false_iff.mpr c33
              subst c33
              have H1 : (laws_FnVolume.l0 kj14 t231 t235 t243 t251 t255 0 0) = some r := by rw [if_neg (show ¬ (false = true) by decide)] at H; exact H
              clear H
              have H := H1
              clear H1
              have H' := Aside0.mk H
              clear H
              go_wp2
              repeat (go_quiet (fail); try go_wp2)
              go_loopg [15, 16] kj14 (fun kq v15 v16 w' => ∃ (x15_2 : Int) (x16_2 : Int), v15 = .int .i64 x15_2 ∧ v16 = .int .i64 x16_2 ∧ Aside0 (laws_FnVolume.l0 kq t231 t235 t243 t251 t255 x15_2 x16_2 = some r) ∧ Aside0 (kq ≤ kj14) ∧ Aside0 (Kd.R k26 26 w' w.heap.size (fun _ => True) (.slice Ao17 t231.length co17) t231) ∧ Aside0 (Kd.R (Kd.int .i64) 2 w' w.heap.size (fun k_ => some k_ ≠ (v245 : Value).ownBlock ∧ some k_ ≠ (v253 : Value).ownBlock) (.slice Ao23 t235.length co23) t235) ∧ Aside0 (Kd.R (Kd.int .i64) 2 w' w.heap.size (fun k_ => some k_ ≠ ((.slice Ao23 t235.length co23) : Value).ownBlock ∧ some k_ ≠ (v253 : Value).ownBlock) v245 t243) ∧ Aside0 (Kd.R (Kd.int .i64) 2 w' w.heap.size (fun k_ => some k_ ≠ ((.slice Ao23 t235.length co23) : Value).ownBlock ∧ some k_ ≠ (v245 : Value).ownBlock) v253 t251) ∧ Aside0 (Below w.heap.size w w'))
              case atStart => exact ⟨(0), (0), (by first | rfl | (simp; done) | (simp [*]; done) | (simp [Int.tdiv_eq_ediv_of_nonneg, *]; done)), (by first | rfl | (simp; done) | (simp [*]; done) | (simp [Int.tdiv_eq_ediv_of_nonneg, *]; done)), H', ⟨Nat.le_refl _⟩, ⟨by (with_reducible repeat (first | apply Kd.R_alloc | apply Kd.R_drewN | apply Kd.R_drew)); exact HO_5.out⟩, ⟨by (with_reducible repeat (first | apply Kd.R_alloc | apply Kd.R_drewN | apply Kd.R_drew)); exact HO_7.out⟩, ⟨by (with_reducible repeat (first | apply Kd.R_alloc | apply Kd.R_drewN | apply Kd.R_drew)); exact HO_9.out⟩, ⟨by (with_reducible repeat (first | apply Kd.R_alloc | apply Kd.R_drewN | apply Kd.R_drew)); exact HO_11.out⟩, ⟨by repeat (first | (with_reducible first | exact HB.out | apply below_alloc | apply pw_below_drewN | apply below_drew1) | exact HB.out)⟩⟩
              case round =>
                clear H'
                try clear c1
                try clear q1
                try clear c2
                try clear p2
                try clear q2
                try clear c3
                try clear c4
                try clear p6
                try clear c8
                try clear c8b0
                try clear c8b1
                try clear c9
                try clear c9b0
                try clear c9b1
                try clear c11
                try clear c11b0
                try clear c12
                try clear c12b0
                try clear q19
                try clear c21
                try clear q21
                try clear c25
                try clear c26
                try clear c27
                try clear c28
                try clear c29
                try clear c29b0
                try clear c29b1
                try clear c30
                try clear c30b0
                try clear c30b1
                try clear c33
                try clear p2
                try clear p6
                try clear q021
                try clear q1
                try clear q19
                try clear q2
                try clear q21
                obtain ⟨x15_2, x16_2, rfl, rfl, HA, HK2, HO_5, HO_7, HO_9, HO_11, HB⟩ := hrel
                cases gk with
                | zero => exact absurd HA.out (by simp [laws_FnVolume.l0])
                | succ k2 =>
                  have H := HA.out
                  clear HA
                  simp only [laws_FnVolume.l0] at H
                  by_cases c34 : x16_2 < (t231.length : Int)
                  · rw [if_pos c34] at H
                    have c34b0 : decide (x16_2 < (t231.length : Int)) = true := decide_eq_true c34
                    clear c34
                    by_cases c35 : 0 ≤ x16_2
                    · rw [if_pos c35] at H
                      have c35b0 : decide (0 ≤ x16_2) = true := decide_eq_true c35
                      clear c35
                      replace H := Option.bind_eq_some_iff.mp H
                      obtain ⟨⟨t259, t260⟩, A360, H⟩ := H
                      replace H : ((impl_ReadLoss.f k2 t259).bind fun bt261 => (if t260 = true then (if bt261.2.2.2 = true then (if (!(bt261.1 == ((rd_T26 t231 x16_2).f0)) || (!(bt261.2.1 == ((rd_T26 t231 x16_2).f1)) || (!(bt261.2.2.1 == ((rd_T26 t231 x16_2).f2))))) = true then (none) else (laws_FnVolume.l0 k2 t231 t235 t243 t251 t255 (wrap64 (x15_2 + ((rd_T26 t231 x16_2).f1))) (wrap64 (x16_2 + 1)))) else (none)) else (none))) = some r := H
                      have A36 := Aside0.mk A360
                      clear A360
                      replace H := Option.bind_eq_some_iff.mp H
                      obtain ⟨⟨t261, t262, t263, t264⟩, A370, H⟩ := H
                      replace H : (if t260 = true then (if t264 = true then (if (!(t261 == ((rd_T26 t231 x16_2).f0)) || (!(t262 == ((rd_T26 t231 x16_2).f1)) || (!(t263 == ((rd_T26 t231 x16_2).f2))))) = true then (none) else (laws_FnVolume.l0 k2 t231 t235 t243 t251 t255 (wrap64 (x15_2 + ((rd_T26 t231 x16_2).f1))) (wrap64 (x16_2 + 1)))) else (none)) else (none)) = some r := H
                      have A37 := Aside0.mk A370
                      clear A370
                      by_cases c38 : t260 = true
                      · subst c38
                        have H1 : (if t264 = true then (if (!(t261 == ((rd_T26 t231 x16_2).f0)) || (!(t262 == ((rd_T26 t231 x16_2).f1)) || (!(t263 == ((rd_T26 t231 x16_2).f2))))) = true then (none) else (laws_FnVolume.l0 k2 t231 t235 t243 t251 t255 (wrap64 (x15_2 + ((rd_T26 t231 x16_2).f1))) (wrap64 (x16_2 + 1)))) else (none)) = some r := by rw [if_pos rfl] at H; exact H
                        clear H
                        have H := H1
                        clear H1
                        by_cases c39 : t264 = true
                        · subst c39
                          have H1 : (if (!(t261 == ((rd_T26 t231 x16_2).f0)) || (!(t262 == ((rd_T26 t231 x16_2).f1)) || (!(t263 == ((rd_T26 t231 x16_2).f2))))) = true then (none) else (laws_FnVolume.l0 k2 t231 t235 t243 t251 t255 (wrap64 (x15_2 + ((rd_T26 t231 x16_2).f1))) (wrap64 (x16_2 + 1)))) = some r := by rw [if_pos rfl] at H; exact H
                          clear H
                          have H := H1
                          clear H1
                          by_cases c40 : (!(t261 == ((rd_T26 t231 x16_2).f0)) || (!(t262 == ((rd_T26 t231 x16_2).f1)) || (!(t263 == ((rd_T26 t231 x16_2).f2))))) = true
                          · rw [if_pos c40] at H
                            exact absurd H (by simp)
                          · rw [if_neg c40] at H
                            have c40b0 : (!(t261 == ((rd_T26 t231 x16_2).f0)) || (!(t262 == ((rd_T26 t231 x16_2).f1)) || (!(t263 == ((rd_T26 t231 x16_2).f2))))) = false := by simpa using c40
                            clear c40
                            have H' := Aside0.mk H
                            clear H
                            have p257 : 0 ≤ (x16_2 : Int) := of_decide_eq_true (by first | (with_reducible assumption) | assumption)
                            have q257 : x16_2 < (t231.length : Int) := of_decide_eq_true (by first | (with_reducible assumption) | assumption)
                            obtain ⟨ad257, e257, hx257_0, hx257_1, hx257_2⟩ := at_T26 (Kd.R_reads' HO_5.out).2.2 x16_2 p257 q257
                            cases e257
                            replace p257 := eq_true p257
                            replace q257 := eq_true q257
                            have p258 : 0 ≤ (x16_2 : Int) := of_decide_eq_true (by first | (with_reducible assumption) | assumption)
                            have q258 : x16_2 < (t231.length : Int) := of_decide_eq_true (by first | (with_reducible assumption) | assumption)
                            obtain ⟨ad258, e258, hx258_0, hx258_1, hx258_2⟩ := at_T26 (Kd.R_reads' HO_5.out).2.2 x16_2 p258 q258
                            obtain rfl : ad257 = ad258 := (by injection e258)
                            replace p258 := eq_true p258
                            replace q258 := eq_true q258
                            go_wp2_with (first | (go_at_call 8; (with_reducible refine (impl_LossText.calls k2 ((rd_T26 t231 x16_2).f0) ((rd_T26 t231 x16_2).f1) ((rd_T26 t231 x16_2).f2) t259 true _ ?side1 A36.out).mono ?_); (case side1 => exact Tab1.on HLT_.out.t1 (by repeat (first | (with_reducible first | exact HB.out | apply below_alloc | apply pw_below_drewN | apply below_drew1) | exact HB.out))); rintro e w41 ⟨rfl, hb⟩; have n0_ := Aside0.mk (Kd.R_below (by (with_reducible repeat (first | apply Kd.R_alloc | apply Kd.R_drewN | apply Kd.R_drew)); exact HO_5.out) hb); have n1_ := Aside0.mk (Kd.R_below (by (with_reducible repeat (first | apply Kd.R_alloc | apply Kd.R_drewN | apply Kd.R_drew)); exact HO_7.out) hb); have n2_ := Aside0.mk (Kd.R_below (by (with_reducible repeat (first | apply Kd.R_alloc | apply Kd.R_drewN | apply Kd.R_drew)); exact HO_9.out) hb); have n3_ := Aside0.mk (Kd.R_below (by (with_reducible repeat (first | apply Kd.R_alloc | apply Kd.R_drewN | apply Kd.R_drew)); exact HO_11.out) hb); have n4_ := Aside0.mk (below_step (by repeat (first | (with_reducible first | exact HB.out | apply below_alloc | apply pw_below_drewN | apply below_drew1) | exact HB.out)) hb); clear HO_5; clear HO_7; clear HO_9; clear HO_11; clear HB; have HO_5 := n0_; have HO_7 := n1_; have HO_9 := n2_; have HO_11 := n3_; have HB := n4_; clear n0_ n1_ n2_ n3_ n4_; (try clear hb); (try clear hb2); (try clear hk); (try clear hi)) | (go_at_call 14; (with_reducible refine (impl_ReadLoss.calls k2 t259 t261 t262 t263 true _ ?side1 A37.out).mono ?_); (case side1 => exact Tab2.on HLT_.out (by repeat (first | (with_reducible first | exact HB.out | apply below_alloc | apply pw_below_drewN | apply below_drew1) | exact HB.out))); rintro e w42 ⟨rfl, hb⟩; have n0_ := Aside0.mk (Kd.R_below (by (with_reducible repeat (first | apply Kd.R_alloc | apply Kd.R_drewN | apply Kd.R_drew)); exact HO_5.out) hb); have n1_ := Aside0.mk (Kd.R_below (by (with_reducible repeat (first | apply Kd.R_alloc | apply Kd.R_drewN | apply Kd.R_drew)); exact HO_7.out) hb); have n2_ := Aside0.mk (Kd.R_below (by (with_reducible repeat (first | apply Kd.R_alloc | apply Kd.R_drewN | apply Kd.R_drew)); exact HO_9.out) hb); have n3_ := Aside0.mk (Kd.R_below (by (with_reducible repeat (first | apply Kd.R_alloc | apply Kd.R_drewN | apply Kd.R_drew)); exact HO_11.out) hb); have n4_ := Aside0.mk (below_step (by repeat (first | (with_reducible first | exact HB.out | apply below_alloc | apply pw_below_drewN | apply below_drew1) | exact HB.out)) hb); clear HO_5; clear HO_7; clear HO_9; clear HO_11; clear HB; have HO_5 := n0_; have HO_7 := n1_; have HO_9 := n2_; have HO_11 := n3_; have HB := n4_; clear n0_ n1_ n2_ n3_ n4_; (try clear hb); (try clear hb2); (try clear hk); (try clear hi)) | ((with_reducible refine gate_dst (N := 19) rfl ?_); (try (refine gate_guard (by rfl) ?_; dsimp only)); refine box_event ?hg (N := 19) ?hd (cs := #[.int .i64 0, .int .i64 0, .int .i64 0]) (t := 26) ?hr ?_; (case hd => rfl); (case hg => rfl); (case hr => first | (go_simp; done) | (go_simp; rfl)); intro gb265 hg w43 hbox hb; have n0_ := Aside0.mk (Kd.R_below (Kd.R_elderB (by (with_reducible repeat (first | apply Kd.R_alloc | apply Kd.R_drewN | apply Kd.R_drew)); exact HO_5.out) gb265 (Nat.le_of_eq hg.symm)) hb); have n1_ := Aside0.mk (Kd.R_below (by (with_reducible repeat (first | apply Kd.R_alloc | apply Kd.R_drewN | apply Kd.R_drew)); exact HO_7.out) hb); have n2_ := Aside0.mk (Kd.R_below (by (with_reducible repeat (first | apply Kd.R_alloc | apply Kd.R_drewN | apply Kd.R_drew)); exact HO_9.out) hb); have n3_ := Aside0.mk (Kd.R_below (by (with_reducible repeat (first | apply Kd.R_alloc | apply Kd.R_drewN | apply Kd.R_drew)); exact HO_11.out) hb); have n4_ := Aside0.mk (below_step (by repeat (first | (with_reducible first | exact HB.out | apply below_alloc | apply pw_below_drewN | apply below_drew1) | exact HB.out)) hb); have n5_ := Aside0.mk (hbox); have n6_ := Aside0.mk ((by rw [hg]; exact (below_size (by repeat (first | (with_reducible first | exact HB.out | apply below_alloc | apply pw_below_drewN | apply below_drew1) | exact HB.out))) : w.heap.size ≤ gb265)); have n7_ := Aside0.mk ((by rw [hg]; exact (below_size (by repeat (first | (with_reducible first | exact HB.out | apply below_alloc | apply pw_below_drewN | apply below_drew1) | exact HB.out))) : w.heap.size ≤ gb265)); clear HO_5; clear HO_7; clear HO_9; clear HO_11; clear HB; have HO_5 := n0_; have HO_7 := n1_; have HO_9 := n2_; have HO_11 := n3_; have HB := n4_; have BK265 := n5_; have GW265 := n6_; have GE265 := n7_; clear n0_ n1_ n2_ n3_ n4_ n5_ n6_ n7_; clear hb hbox hg; have hcz44_0 : w43.cell? ⟨gb265, 0, none⟩ = some (.int .i64 0) := (blk_cell BK265.out 0).trans rfl; have hcz44_1 : w43.cell? ⟨gb265, 1, none⟩ = some (.int .i64 0) := (blk_cell BK265.out 1).trans rfl; have hcz44_2 : w43.cell? ⟨gb265, 2, none⟩ = some (.int .i64 0) := (blk_cell BK265.out 2).trans rfl; have hfz44_0 := blk_frozen BK265.out 0; have hfz44_1 := blk_frozen BK265.out 1; have hfz44_2 := blk_frozen BK265.out 2; have p266 : 0 ≤ (x16_2 : Int) := of_decide_eq_true (by first | (with_reducible assumption) | assumption); have q266 : x16_2 < (t231.length : Int) := of_decide_eq_true (by first | (with_reducible assumption) | assumption); obtain ⟨ad266, e266, hx266_0, hx266_1, hx266_2⟩ := at_T26 (Kd.R_reads' HO_5.out).2.2 x16_2 p266 q266; obtain rfl : ad257 = ad266 := (by injection e266); have hn266_0 : ad257.block ≠ gb265 := Kd.own_blk (by first | exact Kd.R_ne HO_5.out BK265.out (by decide) | exact Kd.R_away HO_5.out (fun _ hk => hk.2)); have hn266_1 : ad257.block ≠ gb265 := Kd.own_blk (by first | exact Kd.R_ne HO_5.out BK265.out (by decide) | exact Kd.R_away HO_5.out (fun _ hk => hk.2)); have hn266_2 : ad257.block ≠ gb265 := Kd.own_blk (by first | exact Kd.R_ne HO_5.out BK265.out (by decide) | exact Kd.R_away HO_5.out (fun _ hk => hk.2)); replace hx266_0 := (cell_far (p := ⟨gb265, 0, none⟩) (by first | (rw [add_block]; exact hn266_0) | (show (Addr.add _ _).block ≠ _; rw [add_block]; exact hn266_0) | exact hn266_0) (.int .i64 t261)).trans hx266_0; replace hx266_1 := (cell_far (p := ⟨gb265, 0, none⟩) (by first | (rw [add_block]; exact hn266_0) | (show (Addr.add _ _).block ≠ _; rw [add_block]; exact hn266_0) | exact hn266_0) (.int .i64 t261)).trans hx266_1; replace hx266_2 := (cell_far (p := ⟨gb265, 0, none⟩) (by first | (rw [add_block]; exact hn266_0) | (show (Addr.add _ _).block ≠ _; rw [add_block]; exact hn266_0) | exact hn266_0) (.int .i64 t261)).trans hx266_2; replace hx266_0 := (cell_far (p := ⟨gb265, 1, none⟩) (by first | (rw [add_block]; exact hn266_1) | (show (Addr.add _ _).block ≠ _; rw [add_block]; exact hn266_1) | exact hn266_1) (.int .i64 t262)).trans hx266_0; replace hx266_1 := (cell_far (p := ⟨gb265, 1, none⟩) (by first | (rw [add_block]; exact hn266_1) | (show (Addr.add _ _).block ≠ _; rw [add_block]; exact hn266_1) | exact hn266_1) (.int .i64 t262)).trans hx266_1; replace hx266_2 := (cell_far (p := ⟨gb265, 1, none⟩) (by first | (rw [add_block]; exact hn266_1) | (show (Addr.add _ _).block ≠ _; rw [add_block]; exact hn266_1) | exact hn266_1) (.int .i64 t262)).trans hx266_2; replace hx266_0 := (cell_far (p := ⟨gb265, 2, none⟩) (by first | (rw [add_block]; exact hn266_2) | (show (Addr.add _ _).block ≠ _; rw [add_block]; exact hn266_2) | exact hn266_2) (.int .i64 t263)).trans hx266_0; replace hx266_1 := (cell_far (p := ⟨gb265, 2, none⟩) (by first | (rw [add_block]; exact hn266_2) | (show (Addr.add _ _).block ≠ _; rw [add_block]; exact hn266_2) | exact hn266_2) (.int .i64 t263)).trans hx266_1; replace hx266_2 := (cell_far (p := ⟨gb265, 2, none⟩) (by first | (rw [add_block]; exact hn266_2) | (show (Addr.add _ _).block ≠ _; rw [add_block]; exact hn266_2) | exact hn266_2) (.int .i64 t263)).trans hx266_2; (try have hy266_0 := fun (n_ : Nat) => (show (((((w43.drewN n_).setCell ⟨gb265, 0, none⟩ (.int .i64 t261)).setCell ⟨gb265, 1, none⟩ (.int .i64 t262)).setCell ⟨gb265, 2, none⟩ (.int .i64 t263))).cell? _ = some _ from hx266_0)); (try have hy266_1 := fun (n_ : Nat) => (show (((((w43.drewN n_).setCell ⟨gb265, 0, none⟩ (.int .i64 t261)).setCell ⟨gb265, 1, none⟩ (.int .i64 t262)).setCell ⟨gb265, 2, none⟩ (.int .i64 t263))).cell? _ = some _ from hx266_1)); (try have hy266_2 := fun (n_ : Nat) => (show (((((w43.drewN n_).setCell ⟨gb265, 0, none⟩ (.int .i64 t261)).setCell ⟨gb265, 1, none⟩ (.int .i64 t262)).setCell ⟨gb265, 2, none⟩ (.int .i64 t263))).cell? _ = some _ from hx266_2)); clear hn266_0; clear hn266_1; clear hn266_2; replace p266 := eq_true p266; replace q266 := eq_true q266))
                            repeat (go_quiet (first | (go_at_call 8; (with_reducible refine (impl_LossText.calls k2 ((rd_T26 t231 x16_2).f0) ((rd_T26 t231 x16_2).f1) ((rd_T26 t231 x16_2).f2) t259 true _ ?side1 A36.out).mono ?_); (case side1 => exact Tab1.on HLT_.out.t1 (by repeat (first | (with_reducible first | exact HB.out | apply below_alloc | apply pw_below_drewN | apply below_drew1) | exact HB.out))); rintro e w41 ⟨rfl, hb⟩; have n0_ := Aside0.mk (Kd.R_below (by (with_reducible repeat (first | apply Kd.R_alloc | apply Kd.R_drewN | apply Kd.R_drew)); exact HO_5.out) hb); have n1_ := Aside0.mk (Kd.R_below (by (with_reducible repeat (first | apply Kd.R_alloc | apply Kd.R_drewN | apply Kd.R_drew)); exact HO_7.out) hb); have n2_ := Aside0.mk (Kd.R_below (by (with_reducible repeat (first | apply Kd.R_alloc | apply Kd.R_drewN | apply Kd.R_drew)); exact HO_9.out) hb); have n3_ := Aside0.mk (Kd.R_below (by (with_reducible repeat (first | apply Kd.R_alloc | apply Kd.R_drewN | apply Kd.R_drew)); exact HO_11.out) hb); have n4_ := Aside0.mk (below_step (by repeat (first | (with_reducible first | exact HB.out | apply below_alloc | apply pw_below_drewN | apply below_drew1) | exact HB.out)) hb); clear HO_5; clear HO_7; clear HO_9; clear HO_11; clear HB; have HO_5 := n0_; have HO_7 := n1_; have HO_9 := n2_; have HO_11 := n3_; have HB := n4_; clear n0_ n1_ n2_ n3_ n4_; (try clear hb); (try clear hb2); (try clear hk); (try clear hi)) | (go_at_call 14; (with_reducible refine (impl_ReadLoss.calls k2 t259 t261 t262 t263 true _ ?side1 A37.out).mono ?_); (case side1 => exact Tab2.on HLT_.out (by repeat (first | (with_reducible first | exact HB.out | apply below_alloc | apply pw_below_drewN | apply below_drew1) | exact HB.out))); rintro e w42 ⟨rfl, hb⟩; have n0_ := Aside0.mk (Kd.R_below (by (with_reducible repeat (first | apply Kd.R_alloc | apply Kd.R_drewN | apply Kd.R_drew)); exact HO_5.out) hb); have n1_ := Aside0.mk (Kd.R_below (by (with_reducible repeat (first | apply Kd.R_alloc | apply Kd.R_drewN | apply Kd.R_drew)); exact HO_7.out) hb); have n2_ := Aside0.mk (Kd.R_below (by (with_reducible repeat (first | apply Kd.R_alloc | apply Kd.R_drewN | apply Kd.R_drew)); exact HO_9.out) hb); have n3_ := Aside0.mk (Kd.R_below (by (with_reducible repeat (first | apply Kd.R_alloc | apply Kd.R_drewN | apply Kd.R_drew)); exact HO_11.out) hb); have n4_ := Aside0.mk (below_step (by repeat (first | (with_reducible first | exact HB.out | apply below_alloc | apply pw_below_drewN | apply below_drew1) | exact HB.out)) hb); clear HO_5; clear HO_7; clear HO_9; clear HO_11; clear HB; have HO_5 := n0_; have HO_7 := n1_; have HO_9 := n2_; have HO_11 := n3_; have HB := n4_; clear n0_ n1_ n2_ n3_ n4_; (try clear hb); (try clear hb2); (try clear hk); (try clear hi)) | ((with_reducible refine gate_dst (N := 19) rfl ?_); (try (refine gate_guard (by rfl) ?_; dsimp only)); refine box_event ?hg (N := 19) ?hd (cs := #[.int .i64 0, .int .i64 0, .int .i64 0]) (t := 26) ?hr ?_; (case hd => rfl); (case hg => rfl); (case hr => first | (go_simp; done) | (go_simp; rfl)); intro gb265 hg w43 hbox hb; have n0_ := Aside0.mk (Kd.R_below (Kd.R_elderB (by (with_reducible repeat (first | apply Kd.R_alloc | apply Kd.R_drewN | apply Kd.R_drew)); exact HO_5.out) gb265 (Nat.le_of_eq hg.symm)) hb); have n1_ := Aside0.mk (Kd.R_below (by (with_reducible repeat (first | apply Kd.R_alloc | apply Kd.R_drewN | apply Kd.R_drew)); exact HO_7.out) hb); have n2_ := Aside0.mk (Kd.R_below (by (with_reducible repeat (first | apply Kd.R_alloc | apply Kd.R_drewN | apply Kd.R_drew)); exact HO_9.out) hb); have n3_ := Aside0.mk (Kd.R_below (by (with_reducible repeat (first | apply Kd.R_alloc | apply Kd.R_drewN | apply Kd.R_drew)); exact HO_11.out) hb); have n4_ := Aside0.mk (below_step (by repeat (first | (with_reducible first | exact HB.out | apply below_alloc | apply pw_below_drewN | apply below_drew1) | exact HB.out)) hb); have n5_ := Aside0.mk (hbox); have n6_ := Aside0.mk ((by rw [hg]; exact (below_size (by repeat (first | (with_reducible first | exact HB.out | apply below_alloc | apply pw_below_drewN | apply below_drew1) | exact HB.out))) : w.heap.size ≤ gb265)); have n7_ := Aside0.mk ((by rw [hg]; exact (below_size (by repeat (first | (with_reducible first | exact HB.out | apply below_alloc | apply pw_below_drewN | apply below_drew1) | exact HB.out))) : w.heap.size ≤ gb265)); clear HO_5; clear HO_7; clear HO_9; clear HO_11; clear HB; have HO_5 := n0_; have HO_7 := n1_; have HO_9 := n2_; have HO_11 := n3_; have HB := n4_; have BK265 := n5_; have GW265 := n6_; have GE265 := n7_; clear n0_ n1_ n2_ n3_ n4_ n5_ n6_ n7_; clear hb hbox hg; have hcz44_0 : w43.cell? ⟨gb265, 0, none⟩ = some (.int .i64 0) := (blk_cell BK265.out 0).trans rfl; have hcz44_1 : w43.cell? ⟨gb265, 1, none⟩ = some (.int .i64 0) := (blk_cell BK265.out 1).trans rfl; have hcz44_2 : w43.cell? ⟨gb265, 2, none⟩ = some (.int .i64 0) := (blk_cell BK265.out 2).trans rfl; have hfz44_0 := blk_frozen BK265.out 0; have hfz44_1 := blk_frozen BK265.out 1; have hfz44_2 := blk_frozen BK265.out 2; have p266 : 0 ≤ (x16_2 : Int) := of_decide_eq_true (by first | (with_reducible assumption) | assumption); have q266 : x16_2 < (t231.length : Int) := of_decide_eq_true (by first | (with_reducible assumption) | assumption); obtain ⟨ad266, e266, hx266_0, hx266_1, hx266_2⟩ := at_T26 (Kd.R_reads' HO_5.out).2.2 x16_2 p266 q266; obtain rfl : ad257 = ad266 := (by injection e266); have hn266_0 : ad257.block ≠ gb265 := Kd.own_blk (by first | exact Kd.R_ne HO_5.out BK265.out (by decide) | exact Kd.R_away HO_5.out (fun _ hk => hk.2)); have hn266_1 : ad257.block ≠ gb265 := Kd.own_blk (by first | exact Kd.R_ne HO_5.out BK265.out (by decide) | exact Kd.R_away HO_5.out (fun _ hk => hk.2)); have hn266_2 : ad257.block ≠ gb265 := Kd.own_blk (by first | exact Kd.R_ne HO_5.out BK265.out (by decide) | exact Kd.R_away HO_5.out (fun _ hk => hk.2)); replace hx266_0 := (cell_far (p := ⟨gb265, 0, none⟩) (by first | (rw [add_block]; exact hn266_0) | (show (Addr.add _ _).block ≠ _; rw [add_block]; exact hn266_0) | exact hn266_0) (.int .i64 t261)).trans hx266_0; replace hx266_1 := (cell_far (p := ⟨gb265, 0, none⟩) (by first | (rw [add_block]; exact hn266_0) | (show (Addr.add _ _).block ≠ _; rw [add_block]; exact hn266_0) | exact hn266_0) (.int .i64 t261)).trans hx266_1; replace hx266_2 := (cell_far (p := ⟨gb265, 0, none⟩) (by first | (rw [add_block]; exact hn266_0) | (show (Addr.add _ _).block ≠ _; rw [add_block]; exact hn266_0) | exact hn266_0) (.int .i64 t261)).trans hx266_2; replace hx266_0 := (cell_far (p := ⟨gb265, 1, none⟩) (by first | (rw [add_block]; exact hn266_1) | (show (Addr.add _ _).block ≠ _; rw [add_block]; exact hn266_1) | exact hn266_1) (.int .i64 t262)).trans hx266_0; replace hx266_1 := (cell_far (p := ⟨gb265, 1, none⟩) (by first | (rw [add_block]; exact hn266_1) | (show (Addr.add _ _).block ≠ _; rw [add_block]; exact hn266_1) | exact hn266_1) (.int .i64 t262)).trans hx266_1; replace hx266_2 := (cell_far (p := ⟨gb265, 1, none⟩) (by first | (rw [add_block]; exact hn266_1) | (show (Addr.add _ _).block ≠ _; rw [add_block]; exact hn266_1) | exact hn266_1) (.int .i64 t262)).trans hx266_2; replace hx266_0 := (cell_far (p := ⟨gb265, 2, none⟩) (by first | (rw [add_block]; exact hn266_2) | (show (Addr.add _ _).block ≠ _; rw [add_block]; exact hn266_2) | exact hn266_2) (.int .i64 t263)).trans hx266_0; replace hx266_1 := (cell_far (p := ⟨gb265, 2, none⟩) (by first | (rw [add_block]; exact hn266_2) | (show (Addr.add _ _).block ≠ _; rw [add_block]; exact hn266_2) | exact hn266_2) (.int .i64 t263)).trans hx266_1; replace hx266_2 := (cell_far (p := ⟨gb265, 2, none⟩) (by first | (rw [add_block]; exact hn266_2) | (show (Addr.add _ _).block ≠ _; rw [add_block]; exact hn266_2) | exact hn266_2) (.int .i64 t263)).trans hx266_2; (try have hy266_0 := fun (n_ : Nat) => (show (((((w43.drewN n_).setCell ⟨gb265, 0, none⟩ (.int .i64 t261)).setCell ⟨gb265, 1, none⟩ (.int .i64 t262)).setCell ⟨gb265, 2, none⟩ (.int .i64 t263))).cell? _ = some _ from hx266_0)); (try have hy266_1 := fun (n_ : Nat) => (show (((((w43.drewN n_).setCell ⟨gb265, 0, none⟩ (.int .i64 t261)).setCell ⟨gb265, 1, none⟩ (.int .i64 t262)).setCell ⟨gb265, 2, none⟩ (.int .i64 t263))).cell? _ = some _ from hx266_1)); (try have hy266_2 := fun (n_ : Nat) => (show (((((w43.drewN n_).setCell ⟨gb265, 0, none⟩ (.int .i64 t261)).setCell ⟨gb265, 1, none⟩ (.int .i64 t262)).setCell ⟨gb265, 2, none⟩ (.int .i64 t263))).cell? _ = some _ from hx266_2)); clear hn266_0; clear hn266_1; clear hn266_2; replace p266 := eq_true p266; replace q266 := eq_true q266)); try go_wp2_with (first | (go_at_call 8; (with_reducible refine (impl_LossText.calls k2 ((rd_T26 t231 x16_2).f0) ((rd_T26 t231 x16_2).f1) ((rd_T26 t231 x16_2).f2) t259 true _ ?side1 A36.out).mono ?_); (case side1 => exact Tab1.on HLT_.out.t1 (by repeat (first | (with_reducible first | exact HB.out | apply below_alloc | apply pw_below_drewN | apply below_drew1) | exact HB.out))); rintro e w41 ⟨rfl, hb⟩; have n0_ := Aside0.mk (Kd.R_below (by (with_reducible repeat (first | apply Kd.R_alloc | apply Kd.R_drewN | apply Kd.R_drew)); exact HO_5.out) hb); have n1_ := Aside0.mk (Kd.R_below (by (with_reducible repeat (first | apply Kd.R_alloc | apply Kd.R_drewN | apply Kd.R_drew)); exact HO_7.out) hb); have n2_ := Aside0.mk (Kd.R_below (by (with_reducible repeat (first | apply Kd.R_alloc | apply Kd.R_drewN | apply Kd.R_drew)); exact HO_9.out) hb); have n3_ := Aside0.mk (Kd.R_below (by (with_reducible repeat (first | apply Kd.R_alloc | apply Kd.R_drewN | apply Kd.R_drew)); exact HO_11.out) hb); have n4_ := Aside0.mk (below_step (by repeat (first | (with_reducible first | exact HB.out | apply below_alloc | apply pw_below_drewN | apply below_drew1) | exact HB.out)) hb); clear HO_5; clear HO_7; clear HO_9; clear HO_11; clear HB; have HO_5 := n0_; have HO_7 := n1_; have HO_9 := n2_; have HO_11 := n3_; have HB := n4_; clear n0_ n1_ n2_ n3_ n4_; (try clear hb); (try clear hb2); (try clear hk); (try clear hi)) | (go_at_call 14; (with_reducible refine (impl_ReadLoss.calls k2 t259 t261 t262 t263 true _ ?side1 A37.out).mono ?_); (case side1 => exact Tab2.on HLT_.out (by repeat (first | (with_reducible first | exact HB.out | apply below_alloc | apply pw_below_drewN | apply below_drew1) | exact HB.out))); rintro e w42 ⟨rfl, hb⟩; have n0_ := Aside0.mk (Kd.R_below (by (with_reducible repeat (first | apply Kd.R_alloc | apply Kd.R_drewN | apply Kd.R_drew)); exact HO_5.out) hb); have n1_ := Aside0.mk (Kd.R_below (by (with_reducible repeat (first | apply Kd.R_alloc | apply Kd.R_drewN | apply Kd.R_drew)); exact HO_7.out) hb); have n2_ := Aside0.mk (Kd.R_below (by (with_reducible repeat (first | apply Kd.R_alloc | apply Kd.R_drewN | apply Kd.R_drew)); exact HO_9.out) hb); have n3_ := Aside0.mk (Kd.R_below (by (with_reducible repeat (first | apply Kd.R_alloc | apply Kd.R_drewN | apply Kd.R_drew)); exact HO_11.out) hb); have n4_ := Aside0.mk (below_step (by repeat (first | (with_reducible first | exact HB.out | apply below_alloc | apply pw_below_drewN | apply below_drew1) | exact HB.out)) hb); clear HO_5; clear HO_7; clear HO_9; clear HO_11; clear HB; have HO_5 := n0_; have HO_7 := n1_; have HO_9 := n2_; have HO_11 := n3_; have HB := n4_; clear n0_ n1_ n2_ n3_ n4_; (try clear hb); (try clear hb2); (try clear hk); (try clear hi)) | ((with_reducible refine gate_dst (N := 19) rfl ?_); (try (refine gate_guard (by rfl) ?_; dsimp only)); refine box_event ?hg (N := 19) ?hd (cs := #[.int .i64 0, .int .i64 0, .int .i64 0]) (t := 26) ?hr ?_; (case hd => rfl); (case hg => rfl); (case hr => first | (go_simp; done) | (go_simp; rfl)); intro gb265 hg w43 hbox hb; have n0_ := Aside0.mk (Kd.R_below (Kd.R_elderB (by (with_reducible repeat (first | apply Kd.R_alloc | apply Kd.R_drewN | apply Kd.R_drew)); exact HO_5.out) gb265 (Nat.le_of_eq hg.symm)) hb); have n1_ := Aside0.mk (Kd.R_below (by (with_reducible repeat (first | apply Kd.R_alloc | apply Kd.R_drewN | apply Kd.R_drew)); exact HO_7.out) hb); have n2_ := Aside0.mk (Kd.R_below (by (with_reducible repeat (first | apply Kd.R_alloc | apply Kd.R_drewN | apply Kd.R_drew)); exact HO_9.out) hb); have n3_ := Aside0.mk (Kd.R_below (by (with_reducible repeat (first | apply Kd.R_alloc | apply Kd.R_drewN | apply Kd.R_drew)); exact HO_11.out) hb); have n4_ := Aside0.mk (below_step (by repeat (first | (with_reducible first | exact HB.out | apply below_alloc | apply pw_below_drewN | apply below_drew1) | exact HB.out)) hb); have n5_ := Aside0.mk (hbox); have n6_ := Aside0.mk ((by rw [hg]; exact (below_size (by repeat (first | (with_reducible first | exact HB.out | apply below_alloc | apply pw_below_drewN | apply below_drew1) | exact HB.out))) : w.heap.size ≤ gb265)); have n7_ := Aside0.mk ((by rw [hg]; exact (below_size (by repeat (first | (with_reducible first | exact HB.out | apply below_alloc | apply pw_below_drewN | apply below_drew1) | exact HB.out))) : w.heap.size ≤ gb265)); clear HO_5; clear HO_7; clear HO_9; clear HO_11; clear HB; have HO_5 := n0_; have HO_7 := n1_; have HO_9 := n2_; have HO_11 := n3_; have HB := n4_; have BK265 := n5_; have GW265 := n6_; have GE265 := n7_; clear n0_ n1_ n2_ n3_ n4_ n5_ n6_ n7_; clear hb hbox hg; have hcz44_0 : w43.cell? ⟨gb265, 0, none⟩ = some (.int .i64 0) := (blk_cell BK265.out 0).trans rfl; have hcz44_1 : w43.cell? ⟨gb265, 1, none⟩ = some (.int .i64 0) := (blk_cell BK265.out 1).trans rfl; have hcz44_2 : w43.cell? ⟨gb265, 2, none⟩ = some (.int .i64 0) := (blk_cell BK265.out 2).trans rfl; have hfz44_0 := blk_frozen BK265.out 0; have hfz44_1 := blk_frozen BK265.out 1; have hfz44_2 := blk_frozen BK265.out 2; have p266 : 0 ≤ (x16_2 : Int) := of_decide_eq_true (by first | (with_reducible assumption) | assumption); have q266 : x16_2 < (t231.length : Int) := of_decide_eq_true (by first | (with_reducible assumption) | assumption); obtain ⟨ad266, e266, hx266_0, hx266_1, hx266_2⟩ := at_T26 (Kd.R_reads' HO_5.out).2.2 x16_2 p266 q266; obtain rfl : ad257 = ad266 := (by injection e266); have hn266_0 : ad257.block ≠ gb265 := Kd.own_blk (by first | exact Kd.R_ne HO_5.out BK265.out (by decide) | exact Kd.R_away HO_5.out (fun _ hk => hk.2)); have hn266_1 : ad257.block ≠ gb265 := Kd.own_blk (by first | exact Kd.R_ne HO_5.out BK265.out (by decide) | exact Kd.R_away HO_5.out (fun _ hk => hk.2)); have hn266_2 : ad257.block ≠ gb265 := Kd.own_blk (by first | exact Kd.R_ne HO_5.out BK265.out (by decide) | exact Kd.R_away HO_5.out (fun _ hk => hk.2)); replace hx266_0 := (cell_far (p := ⟨gb265, 0, none⟩) (by first | (rw [add_block]; exact hn266_0) | (show (Addr.add _ _).block ≠ _; rw [add_block]; exact hn266_0) | exact hn266_0) (.int .i64 t261)).trans hx266_0; replace hx266_1 := (cell_far (p := ⟨gb265, 0, none⟩) (by first | (rw [add_block]; exact hn266_0) | (show (Addr.add _ _).block ≠ _; rw [add_block]; exact hn266_0) | exact hn266_0) (.int .i64 t261)).trans hx266_1; replace hx266_2 := (cell_far (p := ⟨gb265, 0, none⟩) (by first | (rw [add_block]; exact hn266_0) | (show (Addr.add _ _).block ≠ _; rw [add_block]; exact hn266_0) | exact hn266_0) (.int .i64 t261)).trans hx266_2; replace hx266_0 := (cell_far (p := ⟨gb265, 1, none⟩) (by first | (rw [add_block]; exact hn266_1) | (show (Addr.add _ _).block ≠ _; rw [add_block]; exact hn266_1) | exact hn266_1) (.int .i64 t262)).trans hx266_0; replace hx266_1 := (cell_far (p := ⟨gb265, 1, none⟩) (by first | (rw [add_block]; exact hn266_1) | (show (Addr.add _ _).block ≠ _; rw [add_block]; exact hn266_1) | exact hn266_1) (.int .i64 t262)).trans hx266_1; replace hx266_2 := (cell_far (p := ⟨gb265, 1, none⟩) (by first | (rw [add_block]; exact hn266_1) | (show (Addr.add _ _).block ≠ _; rw [add_block]; exact hn266_1) | exact hn266_1) (.int .i64 t262)).trans hx266_2; replace hx266_0 := (cell_far (p := ⟨gb265, 2, none⟩) (by first | (rw [add_block]; exact hn266_2) | (show (Addr.add _ _).block ≠ _; rw [add_block]; exact hn266_2) | exact hn266_2) (.int .i64 t263)).trans hx266_0; replace hx266_1 := (cell_far (p := ⟨gb265, 2, none⟩) (by first | (rw [add_block]; exact hn266_2) | (show (Addr.add _ _).block ≠ _; rw [add_block]; exact hn266_2) | exact hn266_2) (.int .i64 t263)).trans hx266_1; replace hx266_2 := (cell_far (p := ⟨gb265, 2, none⟩) (by first | (rw [add_block]; exact hn266_2) | (show (Addr.add _ _).block ≠ _; rw [add_block]; exact hn266_2) | exact hn266_2) (.int .i64 t263)).trans hx266_2; (try have hy266_0 := fun (n_ : Nat) => (show (((((w43.drewN n_).setCell ⟨gb265, 0, none⟩ (.int .i64 t261)).setCell ⟨gb265, 1, none⟩ (.int .i64 t262)).setCell ⟨gb265, 2, none⟩ (.int .i64 t263))).cell? _ = some _ from hx266_0)); (try have hy266_1 := fun (n_ : Nat) => (show (((((w43.drewN n_).setCell ⟨gb265, 0, none⟩ (.int .i64 t261)).setCell ⟨gb265, 1, none⟩ (.int .i64 t262)).setCell ⟨gb265, 2, none⟩ (.int .i64 t263))).cell? _ = some _ from hx266_1)); (try have hy266_2 := fun (n_ : Nat) => (show (((((w43.drewN n_).setCell ⟨gb265, 0, none⟩ (.int .i64 t261)).setCell ⟨gb265, 1, none⟩ (.int .i64 t262)).setCell ⟨gb265, 2, none⟩ (.int .i64 t263))).cell? _ = some _ from hx266_2)); clear hn266_0; clear hn266_1; clear hn266_2; replace p266 := eq_true p266; replace q266 := eq_true q266)))
                            go_roundg k2
                            case measure => have := HJ14.out; have := HK2.out; omega
                            case rel => exact ⟨(wrap64 (x15_2 + ((rd_T26 t231 x16_2).f1))), (wrap64 (x16_2 + 1)), (by first | rfl | (simp; done) | (simp [*]; done) | (simp [Int.tdiv_eq_ediv_of_nonneg, *]; done)), (by first | rfl | (simp; done) | (simp [*]; done) | (simp [Int.tdiv_eq_ediv_of_nonneg, *]; done)), H', ⟨by have := HJ14.out; have := HK2.out; omega⟩, ⟨by (with_reducible repeat (first | apply Kd.R_alloc | apply Kd.R_drewN | apply Kd.R_drew)); exact Kd.R_mono (Kd.R_far (p := ⟨gb265, 2, none⟩) (Kd.R_far (p := ⟨gb265, 1, none⟩) (Kd.R_far (p := ⟨gb265, 0, none⟩) (Kd.R_mono HO_5.out (fun k_ hk => (⟨hk, hk.2⟩ : _ ∧ k_ ≠ gb265))) (fun _ hk => hk.2) (.int .i64 t261)) (fun _ hk => hk.2) (.int .i64 t262)) (fun _ hk => hk.2) (.int .i64 t263)) (fun _ hk => trivial)⟩, ⟨by (with_reducible repeat (first | apply Kd.R_alloc | apply Kd.R_drewN | apply Kd.R_drew)); exact Kd.R_mono (Kd.R_far (p := ⟨gb265, 2, none⟩) (Kd.R_far (p := ⟨gb265, 1, none⟩) (Kd.R_far (p := ⟨gb265, 0, none⟩) (Kd.R_types HO_7.out BK265.out (by decide)) (fun _ hk => hk.2) (.int .i64 t261)) (fun _ hk => hk.2) (.int .i64 t262)) (fun _ hk => hk.2) (.int .i64 t263)) (fun _ hk => ⟨hk.1.1, hk.1.2⟩)⟩, ⟨by (with_reducible repeat (first | apply Kd.R_alloc | apply Kd.R_drewN | apply Kd.R_drew)); exact Kd.R_mono (Kd.R_far (p := ⟨gb265, 2, none⟩) (Kd.R_far (p := ⟨gb265, 1, none⟩) (Kd.R_far (p := ⟨gb265, 0, none⟩) (Kd.R_types HO_9.out BK265.out (by decide)) (fun _ hk => hk.2) (.int .i64 t261)) (fun _ hk => hk.2) (.int .i64 t262)) (fun _ hk => hk.2) (.int .i64 t263)) (fun _ hk => ⟨hk.1.1, hk.1.2⟩)⟩, ⟨by (with_reducible repeat (first | apply Kd.R_alloc | apply Kd.R_drewN | apply Kd.R_drew)); exact Kd.R_mono (Kd.R_far (p := ⟨gb265, 2, none⟩) (Kd.R_far (p := ⟨gb265, 1, none⟩) (Kd.R_far (p := ⟨gb265, 0, none⟩) (Kd.R_types HO_11.out BK265.out (by decide)) (fun _ hk => hk.2) (.int .i64 t261)) (fun _ hk => hk.2) (.int .i64 t262)) (fun _ hk => hk.2) (.int .i64 t263)) (fun _ hk => ⟨hk.1.1, hk.1.2⟩)⟩, ⟨by repeat (first | (with_reducible first | exact HB.out | apply below_alloc | apply pw_below_drewN | apply below_drew1 | refine below_set ?_ GE265.out) | exact HB.out)⟩⟩
                        · replace c39 := Bool.eq_false_iff.mpr c39
                          subst c39
                          have H1 : (none) = some r := by rw [if_neg (show ¬ (false = true) by decide)] at H; exact H
                          clear H
                          have H := H1
                          clear H1
                          exact absurd H (by simp)
                      · replace c38 := Bool.eq_false_iff.mpr c38
                        subst c38
                        have H1 : (none) = some r := by rw [if_neg (show ¬ (false = true) by decide)] at H; exact H
                        clear H
                        have H := H1
                        clear H1
                        exact absurd H (by simp)
                    · rw [if_neg c35] at H
                      exact absurd H (by simp)
                  · rw [if_neg c34] at H
                    have c34b0 : decide (x16_2 < (t231.length : Int)) = false := decide_eq_false c34
                    clear c34
                    have H' := Aside0.mk H
                    clear H
                    go_wp2
                    repeat (go_quiet (fail); try go_wp2)
                    go_loopg [21] k2 (fun kq v21 w' => ∃ (x21_3 : Int), v21 = .int .i64 x21_3 ∧ Aside0 (laws_FnVolume.l1 kq t235 t243 t251 t255 x15_2 x21_3 = some r) ∧ Aside0 (kq ≤ k2) ∧ Aside0 (Kd.R (Kd.int .i64) 2 w' w.heap.size (fun k_ => some k_ ≠ (v245 : Value).ownBlock ∧ some k_ ≠ (v253 : Value).ownBlock) (.slice Ao23 t235.length co23) t235) ∧ Aside0 (Kd.R (Kd.int .i64) 2 w' w.heap.size (fun k_ => some k_ ≠ ((.slice Ao23 t235.length co23) : Value).ownBlock ∧ some k_ ≠ (v253 : Value).ownBlock) v245 t243) ∧ Aside0 (Kd.R (Kd.int .i64) 2 w' w.heap.size (fun k_ => some k_ ≠ ((.slice Ao23 t235.length co23) : Value).ownBlock ∧ some k_ ≠ (v245 : Value).ownBlock) v253 t251) ∧ Aside0 (Below w.heap.size w w'))
                    case atStart => exact ⟨(0), (by first | rfl | (simp; done) | (simp [*]; done) | (simp [Int.tdiv_eq_ediv_of_nonneg, *]; done)), H', ⟨Nat.le_refl _⟩, ⟨by (with_reducible repeat (first | apply Kd.R_alloc | apply Kd.R_drewN | apply Kd.R_drew)); exact HO_7.out⟩, ⟨by (with_reducible repeat (first | apply Kd.R_alloc | apply Kd.R_drewN | apply Kd.R_drew)); exact HO_9.out⟩, ⟨by (with_reducible repeat (first | apply Kd.R_alloc | apply Kd.R_drewN | apply Kd.R_drew)); exact HO_11.out⟩, ⟨by repeat (first | (with_reducible first | exact HB.out | apply below_alloc | apply pw_below_drewN | apply below_drew1) | exact HB.out)⟩⟩
                    case round =>
                      clear H'
                      try clear c1
                      try clear q1
                      try clear c2
                      try clear p2
                      try clear q2
                      try clear hx2
                      try clear c3
                      try clear c4
                      try clear p6
                      try clear c8
                      try clear c8b0
                      try clear c8b1
                      try clear c9
                      try clear c9b0
                      try clear c9b1
                      try clear c11
                      try clear c11b0
                      try clear c12
                      try clear c12b0
                      try clear q19
                      try clear c21
                      try clear q21
                      try clear c25
                      try clear p25
                      try clear q25
                      try clear hx25
                      try clear c26
                      try clear p26
                      try clear q26
                      try clear hx26
                      try clear c27
                      try clear c28
                      try clear c29
                      try clear c29b0
                      try clear c29b1
                      try clear c30
                      try clear c30b0
                      try clear c30b1
                      try clear c33
                      try clear c34
                      try clear c34b0
                      try clear c35
                      try clear c35b0
                      try clear c38
                      try clear c39
                      try clear c40
                      try clear c40b0
                      try clear hcz44_0
                      try clear hcz44_1
                      try clear hcz44_2
                      try clear hfz44_0
                      try clear hfz44_1
                      try clear hfz44_2
                      try clear hx257_0
                      try clear hx257_1
                      try clear hx257_2
                      try clear hx258_0
                      try clear hx258_1
                      try clear hx258_2
                      try clear hx266_0
                      try clear hx266_1
                      try clear hx266_2
                      try clear p2
                      try clear p257
                      try clear p258
                      try clear p266
                      try clear p6
                      try clear q021
                      try clear q1
                      try clear q19
                      try clear q2
                      try clear q21
                      try clear q257
                      try clear q258
                      try clear q266
                      obtain ⟨x21_3, rfl, HA, HK3, HO_7, HO_9, HO_11, HB⟩ := hrel
                      cases gk with
                      | zero => exact absurd HA.out (by simp [laws_FnVolume.l1])
                      | succ k3 =>
                        have H := HA.out
                        clear HA
                        simp only [laws_FnVolume.l1] at H
                        by_cases c45 : x21_3 < 24
                        · rw [if_pos c45] at H
                          have c45b0 : decide (x21_3 < 24) = true := decide_eq_true c45
                          clear c45
                          by_cases c46 : 0 ≤ x21_3
                          · rw [if_pos c46] at H
                            have c46b0 : decide (0 ≤ x21_3) = true := decide_eq_true c46
                            clear c46
                            by_cases c47 : x21_3 < (t235.length : Int)
                            · rw [if_pos c47] at H
                              have c47b0 : decide (x21_3 < (t235.length : Int)) = true := decide_eq_true c47
                              clear c47
                              by_cases c48 : x21_3 < (t243.length : Int)
                              · rw [if_pos c48] at H
                                have c48b0 : decide (x21_3 < (t243.length : Int)) = true := decide_eq_true c48
                                clear c48
                                by_cases c49 : x21_3 < (t251.length : Int)
                                · rw [if_pos c49] at H
                                  have c49b0 : decide (x21_3 < (t251.length : Int)) = true := decide_eq_true c49
                                  clear c49
                                  by_cases c50 : (rd t235 x21_3) = (wrap64 ((rd t243 x21_3) + (rd t251 x21_3)))
                                  · rw [if_pos c50] at H
                                    have c50b0 : ((rd t235 x21_3) == (wrap64 ((rd t243 x21_3) + (rd t251 x21_3)))) = true := beq_iff_eq.mpr c50
                                    have c50b1 : ((rd t235 x21_3) != (wrap64 ((rd t243 x21_3) + (rd t251 x21_3)))) = false := bne_eq_false_iff_eq.mpr c50
                                    clear c50
                                    have H' := Aside0.mk H
                                    clear H
                                    have p267 : 0 ≤ (x21_3 : Int) := of_decide_eq_true (by first | (with_reducible assumption) | assumption)
                                    have q267 : x21_3 < (t235.length : Int) := of_decide_eq_true (by first | (with_reducible assumption) | assumption)
                                    obtain ⟨ad267, e267, hx267_0⟩ := Kd.at_int (Kd.R_reads' HO_7.out).2.2 x21_3 p267 q267
                                    cases e267
                                    replace p267 := eq_true p267
                                    replace q267 := eq_true q267
                                    obtain ⟨Ao51, co51, eo51⟩ := Kd.R_slice HO_9.out
                                    subst eo51
                                    have p268 : 0 ≤ (x21_3 : Int) := of_decide_eq_true (by first | (with_reducible assumption) | assumption)
                                    have q268 : x21_3 < (t243.length : Int) := of_decide_eq_true (by first | (with_reducible assumption) | assumption)
                                    obtain ⟨ad268, e268, hx268_0⟩ := Kd.at_int (Kd.R_reads' HO_9.out).2.2 x21_3 p268 q268
                                    cases e268
                                    replace p268 := eq_true p268
                                    replace q268 := eq_true q268
                                    obtain ⟨Ao52, co52, eo52⟩ := Kd.R_slice HO_11.out
                                    subst eo52
                                    have p269 : 0 ≤ (x21_3 : Int) := of_decide_eq_true (by first | (with_reducible assumption) | assumption)
                                    have q269 : x21_3 < (t251.length : Int) := of_decide_eq_true (by first | (with_reducible assumption) | assumption)
                                    obtain ⟨ad269, e269, hx269_0⟩ := Kd.at_int (Kd.R_reads' HO_11.out).2.2 x21_3 p269 q269
                                    cases e269
                                    replace p269 := eq_true p269
                                    replace q269 := eq_true q269
                                    go_wp2
                                    repeat (go_quiet (fail); try go_wp2)
                                    go_roundg k3
                                    case measure => have := HJ14.out; have := HK2.out; have := HK3.out; omega
                                    case rel => exact ⟨(wrap64 (x21_3 + 1)), (by first | rfl | (simp; done) | (simp [*]; done) | (simp [Int.tdiv_eq_ediv_of_nonneg, *]; done)), H', ⟨by have := HJ14.out; have := HK2.out; have := HK3.out; omega⟩, ⟨by (with_reducible repeat (first | apply Kd.R_alloc | apply Kd.R_drewN | apply Kd.R_drew)); exact HO_7.out⟩, ⟨by (with_reducible repeat (first | apply Kd.R_alloc | apply Kd.R_drewN | apply Kd.R_drew)); exact HO_9.out⟩, ⟨by (with_reducible repeat (first | apply Kd.R_alloc | apply Kd.R_drewN | apply Kd.R_drew)); exact HO_11.out⟩, ⟨by repeat (first | (with_reducible first | exact HB.out | apply below_alloc | apply pw_below_drewN | apply below_drew1) | exact HB.out)⟩⟩
                                  · rw [if_neg c50] at H
                                    exact absurd H (by simp)
                                · rw [if_neg c49] at H
                                  exact absurd H (by simp)
                              · rw [if_neg c48] at H
                                exact absurd H (by simp)
                            · rw [if_neg c47] at H
                              exact absurd H (by simp)
                          · rw [if_neg c46] at H
                            exact absurd H (by simp)
                        · rw [if_neg c45] at H
                          have c45b0 : decide (x21_3 < 24) = false := decide_eq_false c45
                          clear c45
                          obtain rfl := Option.some.inj H
                          go_wp2
                          repeat (go_quiet (fail); try go_wp2)
                          go_ret
                          exact ⟨by first | rfl | (simp [errW_none, errW_some] <;> rfl) | (simp [*, errW_none, errW_some] <;> rfl) | (simp [Int.tdiv_eq_ediv_of_nonneg, *]; done), by repeat (first | (with_reducible first | exact HB.out | apply below_alloc | apply pw_below_drewN | apply below_drew1) | exact HB.out)⟩
      · rw [if_neg c9] at H
        exact absurd H (by simp)
    · rw [if_neg c8] at H
      exact absurd H (by simp)

/-- THE ONE PURE STATEMENT of laws_FnVolume: yours. -/
def laws_FnVolume.Pure : Prop := ∀ (l0 : List Int) (l1 : List Int), l0.length ≤ maxLen → l0.length * 1 ≤ 140737488351232 → (∀ x ∈ l0, (Lit.int .u8 x).wf = true) → l1.length ≤ maxLen → l1.length * 1 ≤ 140737488351232 → (∀ x ∈ l1, (Lit.int .u8 x).wf = true) → ∃ k, laws_FnVolume.f k l0 l1 = some true
theorem laws_FnVolume.walk (P : laws_FnVolume.Pure) (a0 : Option Addr) (len0 cap0 : Nat) (z0 : List Int) (a1 : Option Addr) (len1 cap1 : Nat) (z1 : List Int) (w : World) (w0 : (a0 = none ∧ len0 = 0 ∧ cap0 = 0 ∧ z0 = []) ∨ ∃ x, a0 = some x ∧ len0 ≤ cap0 ∧ cap0 ≤ maxLen ∧ z0.length = cap0 ∧ (∀ i, i < z0.length → w.cell? (x.add i) = some (.int .u8 (z0.getD i 0))) ∧ ∀ n ∈ z0, (Lit.int .u8 n).wf = true) (y0 : len0 * 1 ≤ 140737488351232) (w1 : (a1 = none ∧ len1 = 0 ∧ cap1 = 0 ∧ z1 = []) ∨ ∃ x, a1 = some x ∧ len1 ≤ cap1 ∧ cap1 ≤ maxLen ∧ z1.length = cap1 ∧ (∀ i, i < z1.length → w.cell? (x.add i) = some (.int .u8 (z1.getD i 0))) ∧ ∀ n ∈ z1, (Lit.int .u8 n).wf = true) (y1 : len1 * 1 ≤ 140737488351232) (hT_ : Tab2 w) :
    Calls Tryd.prog 4 #[.slice a0 len0 cap0, .slice a1 len1 cap1] w fun e w' => e = .returned (.bool true) ∧ Below w.heap.size w w' := by
  obtain ⟨l0, rfl, hr0, hm0, hw0, hc0⟩ := ReadsInt.ofRowC w0
  obtain ⟨l1, rfl, hr1, hm1, hw1, hc1⟩ := ReadsInt.ofRowC w1
  obtain ⟨k, h⟩ := P l0 l1 hm0 y0 hw0 hm1 y1 hw1
  refine (laws_FnVolume.calls k _ _ l0 _ _ l1 true w (Kd.C_of_reads (d := (0 : Int)) (h1 := fun _ => rfl) hr0) hc0 (Kd.C_of_reads (d := (0 : Int)) (h1 := fun _ => rfl) hr1) hc1 hT_ h).mono ?_
  rintro e w' ⟨rfl, hd⟩
  exact ⟨rfl, hd⟩

end Go.Proofs.YtegjebiocgbmpaaDoor.P
/- Plain facts on numbers and lists that every loop's lemma uses. -/
namespace Go.Proofs.YtegjebiocgbmpaaDoor.P
open Go.RowKit Go.Proofs.YtegjebiocgbmpaaDoor.P Go.Proofs.YtegjebiocgbmpaaDoorW.PrintWords Go.Proofs.YtegjebiocgbmpaaDoorW.PrintLast Go.Proofs.YtegjebiocgbmpaaDoorW.PrintMore
set_option linter.unusedVariables false
set_option linter.unusedSimpArgs false
theorem w64 (x : Int) (h1 : -9223372036854775808 ≤ x) (h2 : x ≤ 9223372036854775807) : wrap64 x = x := by unfold wrap64; omega
theorem w64s (i : Nat) (h : i < 9223372036854775807) : wrap64 ((i : Int) + 1) = ((i + 1 : Nat) : Int) := by unfold wrap64; omega
theorem wf64 {x : Int} (h : (Lit.int .i64 x).wf = true) : -9223372036854775808 ≤ x ∧ x ≤ 9223372036854775807 := by
  simp only [Lit.wf, IntKind.min, IntKind.max, IntKind.signed, IntKind.bits, Bool.and_eq_true, decide_eq_true_eq, if_true] at h
  omega
theorem wfu8 {x : Int} (h : (Lit.int .u8 x).wf = true) : 0 ≤ x ∧ x ≤ 255 := by
  simp only [Lit.wf, IntKind.min, IntKind.max, IntKind.signed, IntKind.bits, Bool.and_eq_true, decide_eq_true_eq] at h
  simp at h
  omega
theorem rd_at (l : List Int) (i : Nat) (h : i < l.length) : rd l (i : Int) = l[i] := by
  unfold rd
  rw [Int.toNat_natCast, List.getD_eq_getElem?_getD, List.getElem?_eq_getElem h]
  rfl
theorem drop_at (l : List Int) (i : Nat) (h : i < l.length) : l.drop i = rd l (i : Int) :: l.drop (i + 1) := by
  rw [rd_at l i h, List.drop_eq_getElem_cons h]
theorem fill_step {α : Type} (l acc : List α) (i : Nat) (x : α) (hi : i < l.length) (hl : acc.length = l.length) (h : acc.take i = l.take i) (hx : l[i] = x) : (acc.set i x).take (i + 1) = l.take (i + 1) := by
  subst hx
  have hi2 : i < (acc.set i l[i]).length := by rw [List.length_set]; omega
  rw [List.take_succ_eq_append_getElem hi2, List.take_succ_eq_append_getElem hi, List.getElem_set_self, List.take_set_of_le (Nat.le_refl i), h]
def iota (m : Int) : Nat → List Int
  | 0 => []
  | n + 1 => m :: iota (m + 1) n
theorem iota_length (m : Int) (n : Nat) : (iota m n).length = n := by
  induction n generalizing m with
  | zero => rfl
  | succ n ih => simp [iota, ih]
theorem iota_get (m : Int) (n i : Nat) (h : i < (iota m n).length) : (iota m n)[i] = m + i := by
  induction n generalizing m i with
  | zero => rw [iota_length] at h; omega
  | succ n ih =>
    cases i with
    | zero => simp [iota]
    | succ i =>
      have h2 : i < (iota (m + 1) n).length := by rw [iota_length] at h ⊢; omega
      simp only [iota, List.getElem_cons_succ]
      rw [ih (m + 1) i h2]
      omega
theorem bind_some_ {α β : Type} (a : α) (f : α → Option β) : (some a).bind f = f a := rfl
theorem ite_tt (b r : Bool) : (if b = true then some r else some false) = some (b && r) := by cases b <;> rfl
theorem ite_ff (p : Prop) [Decidable p] (r : Bool) : (if p then some false else some r) = some (!decide p && r) := by by_cases h : p <;> simp [h]
theorem ite_pp (p : Prop) [Decidable p] (r : Bool) : (if p then some r else some false) = some (decide p && r) := by by_cases h : p <;> simp [h]
theorem not_ge_dec (a b : Int) : (!decide (a ≥ b)) = decide (a < b) := by by_cases h : a < b <;> simp [h] <;> omega

end Go.Proofs.YtegjebiocgbmpaaDoor.P
/- A number that an input's byte chooses lies below its bound. -/
namespace Go.Proofs.YtegjebiocgbmpaaDoor.P
open Go.RowKit Go.Proofs.YtegjebiocgbmpaaDoor.P Go.Proofs.YtegjebiocgbmpaaDoorW.PrintWords Go.Proofs.YtegjebiocgbmpaaDoorW.PrintLast Go.Proofs.YtegjebiocgbmpaaDoorW.PrintMore
set_option linter.unusedVariables false
set_option linter.unusedSimpArgs false
theorem b10At_in (l : List Int) (hl : ∀ x ∈ l, (Lit.int .u8 x).wf = true) (i n : Int) (hi : 0 ≤ i ∧ i ≤ 1000) (hn : 1 ≤ n ∧ n ≤ 100000) : ∃ r, laws_b10At.f l i n = some r ∧ 0 ≤ r ∧ r < n := by
  unfold laws_b10At.f
  by_cases h1 : n ≤ 1
  · rw [if_pos h1]; exact ⟨0, rfl, by omega, by omega⟩
  · rw [if_neg h1]
    by_cases h2 : i < (l.length : Int)
    · obtain ⟨j, rfl⟩ : ∃ j : Nat, i = j := ⟨i.toNat, by omega⟩
      have hr := wfu8 (hl _ (List.getElem_mem (show j < l.length by omega)))
      rw [if_pos h2, if_pos (by omega), if_neg (by omega), rd_at l j (by omega), w64 _ (by omega) (by omega)]
      exact ⟨_, rfl, Int.tmod_nonneg _ hr.1, Int.tmod_lt_of_pos _ (by omega)⟩
    · rw [if_neg h2, if_neg (by omega), w64 (i * 37) (by omega) (by omega), w64 (i * 37 + 11) (by omega) (by omega)]
      exact ⟨_, rfl, Int.tmod_nonneg _ (by omega), Int.tmod_lt_of_pos _ (by omega)⟩

end Go.Proofs.YtegjebiocgbmpaaDoor.P
/- A number drawn from an input's bytes lies below its bound. -/
namespace Go.Proofs.YtegjebiocgbmpaaDoor.P
open Go.RowKit Go.Proofs.YtegjebiocgbmpaaDoor.P Go.Proofs.YtegjebiocgbmpaaDoorW.PrintWords Go.Proofs.YtegjebiocgbmpaaDoorW.PrintLast Go.Proofs.YtegjebiocgbmpaaDoorW.PrintMore
set_option linter.unusedVariables false
set_option linter.unusedSimpArgs false
theorem u64_in (n : Int) : 0 ≤ IntKind.u64.wrap n ∧ IntKind.u64.wrap n < 18446744073709551616 := by
  simp only [IntKind.wrap, IntKind.bits, IntKind.signed]
  simp
  omega
theorem wraps_u64 (n : Int) (h₀ : 0 ≤ n) (h₁ : n < 2 ^ 64) : IntKind.u64.wrap n = n := by
  simp only [IntKind.wrap, IntKind.bits, IntKind.signed]
  simp
  omega
theorem u64_and255 (x : Int) (h₀ : 0 ≤ x) (h₁ : x < 18446744073709551616) : bits .and .u64 x 255 = x % 256 := bits_mask .u64 64 (by decide) wraps_u64 8 (by decide) x h₀ (by omega)
theorem low_in (n : Int) : 0 ≤ wrap64 (Go.bits .and .u64 (IntKind.u64.wrap n / 1099511627776) 255) ∧ wrap64 (Go.bits .and .u64 (IntKind.u64.wrap n / 1099511627776) 255) ≤ 255 := by
  have h := u64_in n
  have h2 : 0 ≤ IntKind.u64.wrap n / 1099511627776 ∧ IntKind.u64.wrap n / 1099511627776 < 18446744073709551616 := by omega
  rw [u64_and255 _ h2.1 h2.2, w64 _ (by omega) (by omega)]
  omega
theorem next_in (l : List Int) (hl : ∀ x ∈ l, (Lit.int .u8 x).wf = true) (s e : Int) (hs : 0 ≤ s ∧ s ≤ 1000000000000) : ∃ r e', spec_l00Src_next.f l s e = some (r, s + 1, e') ∧ 0 ≤ r ∧ r ≤ 255 := by
  unfold spec_l00Src_next.f
  rw [w64 (s + 1) (by omega) (by omega)]
  by_cases h1 : s < (l.length : Int)
  · obtain ⟨j, rfl⟩ : ∃ j : Nat, s = j := ⟨s.toNat, by omega⟩
    have hr := wfu8 (hl _ (List.getElem_mem (show j < l.length by omega)))
    rw [if_pos h1, if_pos (by omega), if_pos (by omega), rd_at l j (by omega), w64 _ (by omega) (by omega)]
    exact ⟨_, _, rfl, hr.1, hr.2⟩
  · rw [if_neg h1]
    by_cases h2 : s + 1 ≤ (l.length : Int)
    · omega
    · rw [if_neg h2]
      exact ⟨_, _, rfl, (low_in _).1, (low_in _).2⟩
theorem pick_in (l : List Int) (hl : ∀ x ∈ l, (Lit.int .u8 x).wf = true) (s e n : Int) (hs : 0 ≤ s ∧ s ≤ 900000000000) (hn : 1 ≤ n ∧ n ≤ 1000000) : ∃ r s' e', spec_l00Src_pick.f l s e n = some (r, s', e') ∧ (0 ≤ r ∧ r < n) ∧ (s ≤ s' ∧ s' ≤ s + 2) := by
  unfold spec_l00Src_pick.f
  by_cases h1 : n ≤ 1
  · rw [if_pos h1]
    exact ⟨_, _, _, rfl, by omega, by omega⟩
  · rw [if_neg h1]
    obtain ⟨r, e1, h, r1, r2⟩ := next_in l hl s e (by omega)
    rw [h, bind_some_]
    by_cases h2 : n > 200
    · obtain ⟨q, e2, h', q1, q2⟩ := next_in l hl (s + 1) e1 (by omega)
      rw [if_pos h2, h', bind_some_, if_neg (by omega), w64 (r * 256) (by omega) (by omega), w64 (r * 256 + q) (by omega) (by omega)]
      exact ⟨_, _, _, rfl, ⟨Int.tmod_nonneg _ (by omega), Int.tmod_lt_of_pos _ (by omega)⟩, by dsimp only; omega⟩
    · rw [if_neg h2, if_neg (by omega)]
      exact ⟨_, _, _, rfl, ⟨Int.tmod_nonneg _ r1, Int.tmod_lt_of_pos _ (by omega)⟩, by dsimp only; omega⟩

end Go.Proofs.YtegjebiocgbmpaaDoor.P
/- A test at each of some numbers that follow one another. -/
namespace Go.Proofs.YtegjebiocgbmpaaDoor.P
open Go.RowKit Go.Proofs.YtegjebiocgbmpaaDoor.P Go.Proofs.YtegjebiocgbmpaaDoorW.PrintWords Go.Proofs.YtegjebiocgbmpaaDoorW.PrintLast Go.Proofs.YtegjebiocgbmpaaDoorW.PrintMore
set_option linter.unusedVariables false
set_option linter.unusedSimpArgs false
def upTo (p : Nat → Bool) : Nat → Nat → Bool
  | 0, _ => true
  | d + 1, i => p i && upTo p d (i + 1)
theorem upTo_iff (p : Nat → Bool) : ∀ (d i : Nat), upTo p d i = true ↔ ∀ j, i ≤ j → j < i + d → p j = true := by
  intro d
  induction d with
  | zero => intro i; simp [upTo]; intro j h1 h2; omega
  | succ d ih =>
    intro i
    simp only [upTo, Bool.and_eq_true, ih]
    constructor
    · intro ⟨h0, h⟩ j h1 h2
      by_cases e : i = j
      · rw [← e]; exact h0
      · exact h j (by omega) (by omega)
    · intro h
      exact ⟨h i (Nat.le_refl _) (by omega), fun j h1 h2 => h j (by omega) (by omega)⟩

end Go.Proofs.YtegjebiocgbmpaaDoor.P
/- What is asked of a list of losses. -/
namespace Go.Proofs.YtegjebiocgbmpaaDoor.P
open Go.RowKit Go.Proofs.YtegjebiocgbmpaaDoor.P Go.Proofs.YtegjebiocgbmpaaDoorW.PrintWords Go.Proofs.YtegjebiocgbmpaaDoorW.PrintLast Go.Proofs.YtegjebiocgbmpaaDoorW.PrintMore
set_option linter.unusedVariables false
set_option linter.unusedSimpArgs false
def lsOk (l : List S26) (i : Nat) : Bool :=
  decide (0 ≤ (rd_T26 l i).f1 ∧ (rd_T26 l i).f1 ≤ 100000) && decide (0 ≤ (rd_T26 l i).f2 ∧ (rd_T26 l i).f2 ≤ 5) && decide ((rd_T26 l i).f2 ≤ (rd_T26 l i).f0 ∧ (rd_T26 l i).f0 ≤ wrap64 (23 - (rd_T26 l i).f2))
def lsValid (l : List S26) : Bool := upTo (lsOk l) l.length 0 && decide ((l.length : Int) ≤ 12)

end Go.Proofs.YtegjebiocgbmpaaDoor.P
/- An element of a list of structs, read at an index. -/
namespace Go.Proofs.YtegjebiocgbmpaaDoor.P
open Go.RowKit Go.Proofs.YtegjebiocgbmpaaDoor.P Go.Proofs.YtegjebiocgbmpaaDoorW.PrintWords Go.Proofs.YtegjebiocgbmpaaDoorW.PrintLast Go.Proofs.YtegjebiocgbmpaaDoorW.PrintMore
set_option linter.unusedVariables false
set_option linter.unusedSimpArgs false
theorem rdLoss_at (l : List S26) (i : Nat) (h : i < l.length) : rd_T26 l (i : Int) = l[i] := by
  unfold rd_T26
  rw [Int.toNat_natCast, List.getD_eq_getElem?_getD, List.getElem?_eq_getElem h]
  rfl
theorem dropLoss_at (l : List S26) (i : Nat) (h : i < l.length) : l.drop i = rd_T26 l (i : Int) :: l.drop (i + 1) := by
  rw [rdLoss_at l i h, List.drop_eq_getElem_cons h]

end Go.Proofs.YtegjebiocgbmpaaDoor.P
/- What a law draws is a valid list of few losses. -/
namespace Go.Proofs.YtegjebiocgbmpaaDoor.P
open Go.RowKit Go.Proofs.YtegjebiocgbmpaaDoor.P Go.Proofs.YtegjebiocgbmpaaDoorW.PrintWords Go.Proofs.YtegjebiocgbmpaaDoorW.PrintLast Go.Proofs.YtegjebiocgbmpaaDoorW.PrintMore
set_option linter.unusedVariables false
set_option linter.unusedSimpArgs false
theorem rdLoss_app (l : List S26) (g : S26) (i : Nat) (hi : i < (l ++ [g]).length) : rd_T26 (l ++ [g]) i = if i < l.length then rd_T26 l i else g := by
  rw [rdLoss_at _ i hi]
  by_cases h : i < l.length
  · rw [if_pos h, List.getElem_append_left h, rdLoss_at l i h]
  · rw [if_neg h, List.getElem_append_right (by omega)]
    simp
theorem drawLosses_loop (c : List Int) (hc : ∀ x ∈ c, (Lit.int .u8 x).wf = true) : ∀ (d k : Nat) (l : List S26) (s e : Int), d < k → l.length + d ≤ 6 → (∀ i, i < l.length → lsOk l i = true) → (0 ≤ s ∧ s ≤ 1000 + 8 * (l.length : Int)) →
    ∃ r, spec_B10Losses.l0 k l d c s e = some r ∧ lsValid r = true := by
  intro d
  induction d with
  | zero =>
    intro k l s e hk hl hr hs
    obtain ⟨k, rfl⟩ : ∃ m, k = m + 1 := ⟨k - 1, by omega⟩
    simp only [spec_B10Losses.l0]
    rw [if_neg (by omega)]
    refine ⟨l, rfl, ?_⟩
    unfold lsValid
    rw [Bool.and_eq_true]
    exact ⟨(upTo_iff _ _ _).2 (fun j _ hj => hr j (by omega)), by simp; omega⟩
  | succ d ih =>
    intro k l s e hk hl hr hs
    obtain ⟨k, rfl⟩ : ∃ m, k = m + 1 := ⟨k - 1, by omega⟩
    obtain ⟨w, s1, e1, h1, a1, b1⟩ := pick_in c hc s e 6 (by omega) (by omega)
    obtain ⟨b, s2, e2, h2, a2, b2⟩ := pick_in c hc s1 e1 (24 - 2 * w) (by omega) (by omega)
    obtain ⟨f, s3, e3, h3, a3, b3⟩ := pick_in c hc s2 e2 4000 (by omega) (by omega)
    simp only [spec_B10Losses.l0]
    rw [if_pos (by omega), h1]
    simp only [bind_some_]
    rw [w64 (2 * w) (by omega) (by omega), w64 (24 - 2 * w) (by omega) (by omega), h2]
    simp only [bind_some_, h3]
    rw [if_pos (by omega), w64 (w + b) (by omega) (by omega), w64 (((d + 1 : Nat) : Int) - 1) (by omega) (by omega), show ((d + 1 : Nat) : Int) - 1 = (d : Int) by omega]
    refine ih k _ s3 e3 (by omega) (by simp; omega) ?_ (by simp; omega)
    intro i hi
    by_cases q : i < l.length
    · have := hr i q
      unfold lsOk at this ⊢
      rw [rdLoss_app l _ i hi, if_pos q]
      exact this
    · unfold lsOk
      rw [rdLoss_app l _ i hi, if_neg q, w64 (23 - _) (by dsimp only; omega) (by dsimp only; omega)]
      simp only [Bool.and_eq_true, decide_eq_true_eq]
      omega
theorem drawLosses_is (c : List Int) (hc : ∀ x ∈ c, (Lit.int .u8 x).wf = true) (k : Nat) (hk : 10 ≤ k) : ∃ r, spec_B10Losses.f k c = some r ∧ lsValid r = true := by
  unfold spec_B10Losses.f spec_l00From.f
  obtain ⟨a, s1, e1, h1, a1, b1⟩ := pick_in c hc 0 0 6 (by omega) (by omega)
  simp only [bind_some_, h1]
  obtain ⟨n, hn⟩ : ∃ n : Nat, a = n := ⟨a.toNat, by omega⟩
  rw [hn]
  exact drawLosses_loop c hc n k [] s1 e1 (by omega) (by simp; omega) (by simp) (by simp; omega)

end Go.Proofs.YtegjebiocgbmpaaDoor.P
/- A number lies in a range, as the program asks it. -/
namespace Go.Proofs.YtegjebiocgbmpaaDoor.P
open Go.RowKit Go.Proofs.YtegjebiocgbmpaaDoor.P Go.Proofs.YtegjebiocgbmpaaDoorW.PrintWords Go.Proofs.YtegjebiocgbmpaaDoorW.PrintLast Go.Proofs.YtegjebiocgbmpaaDoorW.PrintMore
set_option linter.unusedVariables false
set_option linter.unusedSimpArgs false
theorem within_is (a b c : Int) : impl_within.f a b c = some (decide (b ≤ a ∧ a ≤ c)) := by
  unfold impl_within.f
  by_cases h : b ≤ a <;> simp [h]

end Go.Proofs.YtegjebiocgbmpaaDoor.P
/- What the program asks of a list of losses. -/
namespace Go.Proofs.YtegjebiocgbmpaaDoor.P
open Go.RowKit Go.Proofs.YtegjebiocgbmpaaDoor.P Go.Proofs.YtegjebiocgbmpaaDoorW.PrintWords Go.Proofs.YtegjebiocgbmpaaDoorW.PrintLast Go.Proofs.YtegjebiocgbmpaaDoorW.PrintMore
set_option linter.unusedVariables false
set_option linter.unusedSimpArgs false
theorem implLosses_loop (l : List S26) (hb : l.length ≤ 9223372036854775806) : ∀ (d k i : Nat), i + d = l.length → d < k → impl_ValidLosses.l0 k l l l.length i = some (upTo (lsOk l) d i && decide ((l.length : Int) ≤ 12)) := by
  intro d
  induction d with
  | zero =>
    intro k i hi hk
    obtain ⟨k, rfl⟩ : ∃ m, k = m + 1 := ⟨k - 1, by omega⟩
    simp only [impl_ValidLosses.l0]
    rw [if_neg (by omega)]
    simp [upTo]
  | succ d ih =>
    intro k i hi hk
    obtain ⟨k, rfl⟩ : ∃ m, k = m + 1 := ⟨k - 1, by omega⟩
    have hr := ih k (i + 1) (by omega) (by omega)
    rw [← w64s i (by omega)] at hr
    simp only [impl_ValidLosses.l0, within_is, bind_some_, hr]
    rw [if_pos (by omega), if_pos (by omega), if_pos (by omega)]
    simp only [upTo, lsOk, ite_tt, Bool.and_assoc]
    generalize decide (0 ≤ (rd_T26 l i).f1 ∧ (rd_T26 l i).f1 ≤ 100000) = a
    generalize decide (0 ≤ (rd_T26 l i).f2 ∧ (rd_T26 l i).f2 ≤ 5) = b
    cases a <;> cases b <;> rfl
theorem implLosses_is (k : Nat) (l : List S26) (hb : l.length ≤ 9223372036854775806) (hk : l.length < k) : impl_ValidLosses.f k l = some (lsValid l) := by
  unfold impl_ValidLosses.f lsValid
  exact implLosses_loop l hb l.length k 0 (by omega) hk

end Go.Proofs.YtegjebiocgbmpaaDoor.P
/- The parts of a trough, plainly: what the sums of a binomial row take of a volume. -/
namespace Go.Proofs.YtegjebiocgbmpaaDoor.P
open Go.RowKit Go.Proofs.YtegjebiocgbmpaaDoor.P Go.Proofs.YtegjebiocgbmpaaDoorW.PrintWords Go.Proofs.YtegjebiocgbmpaaDoorW.PrintLast Go.Proofs.YtegjebiocgbmpaaDoorW.PrintMore
set_option linter.unusedVariables false
set_option linter.unusedSimpArgs false
def tRow : Nat → List Int
  | 0 => [1]
  | 1 => [1, 2, 1]
  | 2 => [1, 4, 6, 4, 1]
  | 3 => [1, 6, 15, 20, 15, 6, 1]
  | 4 => [1, 8, 28, 56, 70, 56, 28, 8, 1]
  | 5 => [1, 10, 45, 120, 210, 252, 210, 120, 45, 10, 1]
  | _ => []
def tAll : Nat → Int
  | 0 => 1
  | 1 => 4
  | 2 => 16
  | 3 => 64
  | 4 => 256
  | 5 => 1024
  | _ => 1
def tParts (v all : Int) : Int → List Int → List Int
  | _, [] => []
  | s, x :: xs => (v * (s + x) / all - v * s / all) :: tParts v all (s + x) xs
def trough (v : Int) (w : Nat) : List Int := tParts v (tAll w) 0 (tRow w)
def tSum (s : Int) (l : List Int) : Int := l.foldl (· + ·) s
theorem tRow_len (w : Nat) (h : w ≤ 5) : (tRow w).length = 2 * w + 1 := by
  rcases w with _ | _ | _ | _ | _ | _ | w <;> first | rfl | omega
theorem tParts_len (v all : Int) : ∀ (l : List Int) (s : Int), (tParts v all s l).length = l.length
  | [], _ => rfl
  | x :: xs, s => by simp [tParts, tParts_len v all xs]
theorem trough_len (v : Int) (w : Nat) (h : w ≤ 5) : (trough v w).length = 2 * w + 1 := by
  rw [trough, tParts_len, tRow_len w h]
/-- A row whose numbers are none negative, and whose sum, begun with s, is at most 1024. -/
def tFine (s : Int) : List Int → Bool
  | [] => decide (0 ≤ s ∧ s ≤ 1024)
  | x :: xs => decide (0 ≤ s ∧ s ≤ 1024) && decide (0 ≤ x) && tFine (s + x) xs
theorem tFine_head {s : Int} {l : List Int} (h : tFine s l = true) : 0 ≤ s ∧ s ≤ 1024 := by
  cases l with
  | nil => simpa [tFine] using h
  | cons x xs => simp only [tFine, Bool.and_eq_true, decide_eq_true_eq] at h; exact h.1.1
theorem tFine_tail {s x : Int} {l : List Int} (h : tFine s (x :: l) = true) : tFine (s + x) l = true := by
  simp only [tFine, Bool.and_eq_true, decide_eq_true_eq] at h; exact h.2
theorem tRow_fine (w : Nat) : tFine 0 (tRow w) = true := by
  rcases w with _ | _ | _ | _ | _ | _ | w <;> first | decide | rfl
theorem tAll_pos (w : Nat) : 1 ≤ tAll w ∧ tAll w ≤ 1024 := by
  rcases w with _ | _ | _ | _ | _ | _ | w <;> simp [tAll]
theorem mul_in (v c : Int) (hv : 0 ≤ v ∧ v ≤ 100000) (hc : 0 ≤ c ∧ c ≤ 1024) : 0 ≤ v * c ∧ v * c ≤ 102400000 := by
  constructor
  · exact Int.mul_nonneg hv.1 hc.1
  · calc v * c ≤ 100000 * c := Int.mul_le_mul_of_nonneg_right hv.2 hc.1
      _ ≤ 100000 * 1024 := by omega
      _ = 102400000 := by decide
theorem div_in (x a : Int) (hx : 0 ≤ x ∧ x ≤ 102400000) (ha : 1 ≤ a) : 0 ≤ x / a ∧ x / a ≤ 102400000 := by
  constructor
  · exact Int.ediv_nonneg hx.1 (by omega)
  · exact Int.le_trans (Int.ediv_le_self _ hx.1) hx.2

end Go.Proofs.YtegjebiocgbmpaaDoor.P
/- The program's trough is the plain one. -/
namespace Go.Proofs.YtegjebiocgbmpaaDoor.P
open Go.RowKit Go.Proofs.YtegjebiocgbmpaaDoor.P Go.Proofs.YtegjebiocgbmpaaDoorW.PrintWords Go.Proofs.YtegjebiocgbmpaaDoorW.PrintLast Go.Proofs.YtegjebiocgbmpaaDoorW.PrintMore
set_option linter.unusedVariables false
set_option linter.unusedSimpArgs false
theorem tRow_step (w : Nat) (hw : w ≤ 5) (j : Nat) (hj : j < 2 * w + 1) : wrap64 (Int.tdiv (wrap64 (rd (tRow w) j * wrap64 (2 * (w : Int) - (j : Int)))) ((j + 1 : Nat) : Int)) = rd (tRow w) ((j + 1 : Nat) : Int) := by
  have : ∀ w, w < 6 → ∀ j, j < 11 → j < 2 * w + 1 → wrap64 (Int.tdiv (wrap64 (rd (tRow w) (j : Nat) * wrap64 (2 * (w : Nat) - (j : Nat)))) ((j + 1 : Nat) : Int)) = rd (tRow w) ((j + 1 : Nat) : Int) := by decide +kernel
  exact this w (by omega) j (by omega) hj
theorem tAll_shr (w : Nat) (hw : w ≤ 5) (x : Int) : shr .i64 x (IntKind.u64.wrap (wrap64 (2 * (w : Int)))) = x / tAll w := by
  have : ∀ w, w < 6 → (2 : Int) ^ min (IntKind.u64.wrap (wrap64 (2 * (w : Nat)))).toNat IntKind.i64.bits = tAll w := by decide +kernel
  unfold shr
  rw [this w (by omega)]
theorem implTr_l0 (v : Int) (hv : 0 ≤ v ∧ v ≤ 100000) (w : Nat) (hw : w ≤ 5) : ∀ (d k j : Nat) (acc : List Int) (s : Int), j + d = 2 * w + 1 → d < k → acc.length ≤ j → tFine s ((tRow w).drop j) = true →
    impl_trough.l0 k v w acc (rd (tRow w) j) s (v * s / tAll w) (2 * (w : Int) + 1) j = some (acc ++ tParts v (tAll w) s ((tRow w).drop j)) := by
  have hl := tRow_len w hw
  have ha := tAll_pos w
  intro d
  induction d with
  | zero =>
    intro k j acc s hj hk hacc hf
    obtain ⟨k, rfl⟩ : ∃ m, k = m + 1 := ⟨k - 1, by omega⟩
    simp only [impl_trough.l0]
    rw [if_neg (by omega), List.drop_of_length_le (by omega)]
    simp [tParts]
  | succ d ih =>
    intro k j acc s hj hk hacc hf
    obtain ⟨k, rfl⟩ : ∃ m, k = m + 1 := ⟨k - 1, by omega⟩
    rw [drop_at (tRow w) j (by omega)] at hf ⊢
    have hs := tFine_head hf
    have ht := tFine_tail hf
    have hs2 := tFine_head ht
    have m1 := mul_in v _ hv hs
    have m2 := mul_in v _ hv hs2
    have d1 := div_in _ _ m1 ha.1
    have d2 := div_in _ _ m2 ha.1
    have hst := tRow_step w hw j (by omega)
    simp only [impl_trough.l0, tParts]
    have hu : 0 ≤ IntKind.u64.wrap (wrap64 (2 * (w : Int))) := by
      have : ∀ w, w < 6 → 0 ≤ IntKind.u64.wrap (wrap64 (2 * (w : Nat))) := by decide +kernel
      exact this w (by omega)
    rw [if_pos (by omega), if_pos hu, if_pos (by omega), tAll_shr w hw, w64s j (by omega), if_neg (by omega), w64 (s + rd (tRow w) j) (by omega) (by omega), w64 (v * (s + rd (tRow w) j)) (by omega) (by omega),
      w64 (v * (s + rd (tRow w) j) / tAll w - v * s / tAll w) (by omega) (by omega)]
    have h2w : wrap64 (2 * (w : Int)) = 2 * (w : Int) := w64 _ (by omega) (by omega)
    rw [h2w, hst, ih k (j + 1) _ _ (by omega) (by omega) (by simp; omega) ht]
    simp
theorem implTrough_is (k : Nat) (v : Int) (w : Nat) (hv : 0 ≤ v ∧ v ≤ 100000) (hw : w ≤ 5) (hk : 200 ≤ k) : impl_trough.f k v w = some (trough v w) := by
  unfold impl_trough.f
  have h2w : wrap64 (2 * (w : Int)) = 2 * (w : Int) := w64 _ (by omega) (by omega)
  rw [h2w, w64 (2 * (w : Int) + 1) (by omega) (by omega)]
  have h1 : rd (tRow w) ((0 : Nat) : Int) = 1 := by
    rcases w with _ | _ | _ | _ | _ | _ | w <;> first | rfl | omega
  have h0 : v * 0 / tAll w = 0 := by simp
  have := implTr_l0 v hv w hw (2 * w + 1) k 0 [] 0 (by omega) (by omega) (by simp) (tRow_fine w)
  rw [h1, h0] at this
  simpa [trough] using this

end Go.Proofs.YtegjebiocgbmpaaDoor.P
/- What losses settle, plainly. -/
namespace Go.Proofs.YtegjebiocgbmpaaDoor.P
open Go.RowKit Go.Proofs.YtegjebiocgbmpaaDoor.P Go.Proofs.YtegjebiocgbmpaaDoorW.PrintWords Go.Proofs.YtegjebiocgbmpaaDoorW.PrintLast Go.Proofs.YtegjebiocgbmpaaDoorW.PrintMore
set_option linter.unusedVariables false
set_option linter.unusedSimpArgs false
def layT (o : Nat) (t : List Int) : Nat → Nat → List Int → List Int
  | 0, _, p => p
  | d + 1, j, p => layT o t d (j + 1) (p.set (o + j) (wrap64 (rd p ((o + j : Nat) : Int) + rd t (j : Int))))
theorem layT_len (o : Nat) (t : List Int) : ∀ (d j : Nat) (p : List Int), (layT o t d j p).length = p.length
  | 0, _, _ => rfl
  | d + 1, j, p => by
    simp only [layT]
    rw [layT_len o t d (j + 1), List.length_set]
def layLs (l : List S26) : Nat → Nat → List Int → List Int
  | 0, _, p => p
  | d + 1, i, p => layLs l d (i + 1) (layT ((rd_T26 l (i : Int)).f0 - (rd_T26 l (i : Int)).f2).toNat (trough (rd_T26 l (i : Int)).f1 (rd_T26 l (i : Int)).f2.toNat) (2 * (rd_T26 l (i : Int)).f2.toNat + 1) 0 p)
theorem layLs_len (l : List S26) : ∀ (d i : Nat) (p : List Int), (layLs l d i p).length = p.length
  | 0, _, _ => rfl
  | d + 1, i, p => by
    simp only [layLs]
    rw [layLs_len l d (i + 1), layT_len]
def settleP (l : List S26) : List Int := layLs l l.length 0 (List.replicate 24 0)
theorem settleP_len (l : List S26) : (settleP l).length = 24 := by
  unfold settleP
  rw [layLs_len, List.length_replicate]
theorem lsValid_at {l : List S26} (h : lsValid l = true) (i : Nat) (hi : i < l.length) : (0 ≤ (rd_T26 l i).f1 ∧ (rd_T26 l i).f1 ≤ 100000) ∧ (0 ≤ (rd_T26 l i).f2 ∧ (rd_T26 l i).f2 ≤ 5) ∧ ((rd_T26 l i).f2 ≤ (rd_T26 l i).f0 ∧ (rd_T26 l i).f0 ≤ 23 - (rd_T26 l i).f2) := by
  unfold lsValid at h
  simp only [Bool.and_eq_true, decide_eq_true_eq] at h
  have h2 := (upTo_iff _ _ _).mp h.1 i (by omega) (by omega)
  simp only [lsOk, Bool.and_eq_true, decide_eq_true_eq] at h2
  obtain ⟨⟨a, b⟩, c⟩ := h2
  rw [w64 (23 - _) (by omega) (by omega)] at c
  exact ⟨a, b, c⟩
theorem lsValid_len {l : List S26} (h : lsValid l = true) : l.length ≤ 12 := by
  unfold lsValid at h
  simp only [Bool.and_eq_true, decide_eq_true_eq] at h
  omega

end Go.Proofs.YtegjebiocgbmpaaDoor.P
/- What losses settle, as the program reckons it. -/
namespace Go.Proofs.YtegjebiocgbmpaaDoor.P
open Go.RowKit Go.Proofs.YtegjebiocgbmpaaDoor.P Go.Proofs.YtegjebiocgbmpaaDoorW.PrintWords Go.Proofs.YtegjebiocgbmpaaDoorW.PrintLast Go.Proofs.YtegjebiocgbmpaaDoorW.PrintMore
set_option linter.unusedVariables false
set_option linter.unusedSimpArgs false
theorem implSettle_l1 (l : List S26) (n : Int) (i : Nat) (hi : i ≤ 1000) (a b c : Int) (o : Nat) (t : List Int) (ht : t.length ≤ 11) (hf : -100 ≤ a ∧ a ≤ 100 ∧ 0 ≤ c ∧ c ≤ 100) (ho : a - c = o) (hot : o + t.length ≤ 24) : ∀ (d k j : Nat) (p : List Int), j + d = t.length → p.length = 24 → impl_SettlementsOf.l1 (k + d + 1) p l n i t t.length j a b c = impl_SettlementsOf.l0 k (layT o t d j p) l n ((i + 1 : Nat) : Int) := by
  intro d
  induction d with
  | zero =>
    intro k j p hj hp
    simp only [impl_SettlementsOf.l1, layT]
    rw [if_neg (by omega), w64s i (by omega)]
  | succ d ih =>
    intro k j p hj hp
    have hz := fun (p : List Int) (h : p.length = 24) => ih k (j + 1) p (by omega) h
    obtain ⟨q, hq⟩ : ∃ q, q = k + d + 1 := ⟨_, rfl⟩
    rw [← hq] at hz
    rw [show k + (d + 1) + 1 = q + 1 by omega]
    have c1 : (j : Int) < (t.length : Int) := by omega
    have c2 : (0 : Int) ≤ (j : Int) := by omega
    have c3 : (0 : Int) ≤ ((o + j : Nat) : Int) := by omega
    have c4 : ((o + j : Nat) : Int) < (p.length : Int) := by omega
    have b1 : -9223372036854775808 ≤ a - c := by omega
    have b2 : a - c ≤ 9223372036854775807 := by omega
    have b3 : -9223372036854775808 ≤ (o : Int) + (j : Int) := by omega
    have b4 : (o : Int) + (j : Int) ≤ 9223372036854775807 := by omega
    have b5 : (o : Int) + (j : Int) = ((o + j : Nat) : Int) := by omega
    have b6 : j < 9223372036854775807 := by omega
    have c7 := w64s j b6
    have e1 := (w64 (a - c) b1 b2).trans ho
    have e2 := (w64 ((o : Int) + (j : Int)) b3 b4).trans b5
    simp only [impl_SettlementsOf.l1, layT]
    rw [if_pos c1, if_pos c2, if_pos c1, e1, e2, if_pos c3, if_pos c4, c7, Int.toNat_natCast]
    have hz2 := hz (p.set (o + j) (wrap64 (rd p ((o + j : Nat) : Int) + rd t (j : Int)))) (by rw [List.length_set]; exact hp)
    rw [hz2]
theorem implSettle_l0 (l : List S26) (hv : lsValid l = true) : ∀ (d k i : Nat) (p : List Int), i + d = l.length → p.length = 24 → 300 + 14 * d ≤ k → impl_SettlementsOf.l0 k p l l.length i = some (layLs l d i p, true) := by
  have h12 := lsValid_len hv
  intro d
  induction d with
  | zero =>
    intro k i p hi hp hk
    obtain ⟨k, rfl⟩ : ∃ m, k = m + 1 := ⟨k - 1, by omega⟩
    simp only [impl_SettlementsOf.l0, layLs]
    rw [if_neg (by omega)]
  | succ d ih =>
    intro k i p hi hp hk
    obtain ⟨k, rfl⟩ : ∃ m, k = m + 1 := ⟨k - 1, by omega⟩
    obtain ⟨g1, g2, g3⟩ := lsValid_at hv i (by omega)
    obtain ⟨w, hw⟩ : ∃ w : Nat, (rd_T26 l i).f2 = w := ⟨(rd_T26 l i).f2.toNat, by omega⟩
    obtain ⟨o, ho⟩ : ∃ o : Nat, (rd_T26 l i).f0 - (rd_T26 l i).f2 = o := ⟨((rd_T26 l i).f0 - (rd_T26 l i).f2).toNat, by omega⟩
    have htl := trough_len (rd_T26 l i).f1 w (by omega)
    obtain ⟨m, hm⟩ : ∃ m, k = m + (2 * w + 1) + 1 := ⟨k - (2 * w + 1) - 1, by omega⟩
    have h1 := implSettle_l1 l l.length i (by omega) (rd_T26 l i).f0 (rd_T26 l i).f1 (rd_T26 l i).f2 o (trough (rd_T26 l i).f1 w) (by omega) (by omega) ho (by omega) (2 * w + 1) m 0 p (by omega) hp
    have hz := ih m (i + 1) (layT o (trough (rd_T26 l i).f1 w) (2 * w + 1) 0 p) (by omega) (by rw [layT_len]; exact hp) (by omega)
    have ht := implTrough_is k (rd_T26 l i).f1 w g1 (by omega) (by omega)
    rw [← hw] at ht
    simp only [impl_SettlementsOf.l0, layLs]
    rw [if_pos (by omega), if_pos (by omega), if_pos (by omega), ht, bind_some_, ho, show (rd_T26 l i).f2.toNat = w by omega, Int.toNat_natCast, hm]
    exact h1.trans hz
theorem implSettle_is (k : Nat) (l : List S26) (hb : l.length ≤ 1048576) (hk : 500 + l.length ≤ k) : impl_SettlementsOf.f k l = some (if lsValid l = true then (settleP l, true) else ([], false)) := by
  unfold impl_SettlementsOf.f settleP
  rw [implLosses_is k l (by omega) (by omega), bind_some_]
  by_cases h : lsValid l = true
  · have := lsValid_len h
    rw [if_pos h, if_pos h, if_pos (by omega)]
    exact implSettle_l0 l h l.length k 0 _ (by omega) (by simp) (by omega)
  · rw [if_neg h, if_neg h]

end Go.Proofs.YtegjebiocgbmpaaDoor.P
