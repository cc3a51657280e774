/- What the claim of FnCast bears, part 1: functions of the program as plain Lean functions, with proofs that the code comes to their answers, and lemmas on them. -/
import Derived.Test.YtajndapolblhmaaCFnCast0
-- Walks of this claim's functions, laid by a program of this session.
namespace Go.Proofs.Ytajndapolblhmaa.P
open Go.RowKit Go.Proofs.YtajndapolblhmaaW.PrintWords Go.Proofs.YtajndapolblhmaaW.PrintLast Go.Proofs.YtajndapolblhmaaW.PrintMore
attribute [local go_sem] max2_int min2_int max_two min_two max_three min_three max_four min_four   -- for this text's walks alone
set_option linter.unusedVariables false
set_option linter.unusedSimpArgs false

/-- A state of type 133 at block g of W; what its slices lead to came in by w0. -/
def IsS133 (w0 W : World) (g : Nat) (f0 : List Int) (f1 : Int) (f2 : Int) : Prop := ∃ A0 c0, W.heap[g]? = some (.cells #[.slice A0 f0.length c0, .int .i64 f1, .int .u64 f2] 133 (0, 0)) ∧ w0.heap.size ≤ g ∧ Kd.C (Kd.int .u8) w0 A0 f0.length f0
theorem IsS133.grown {w0 W : World} {g : Nat} {f0 : List Int} {f1 : Int} {f2 : Int} {W1 : World} {row : Option Nat} (h : IsS133 w0 W g f0 f1 f2) (hw : W.grownBy W1 row) (hne : some g ≠ row) : IsS133 w0 W1 g f0 f1 f2 := by
  obtain ⟨A0, c0, hb, hg, hr0⟩ := h
  exact ⟨A0, c0, blk_grown hb hw hne, hg, hr0⟩
theorem IsS133.own_neN {w0 W : World} {g : Nat} {f0 : List Int} {f1 : Int} {f2 : Int} {α : Type} {d : Kd α} {e : Nat} {base : Nat} {ok : Nat → Prop} {v : Value} {xs : List α} (h : IsS133 w0 W g f0 f1 f2) (ho : Kd.N d e W base ok v xs) (ht : e ≠ 133) : some g ≠ v.ownBlock := by
  obtain ⟨A0, c0, hb, hg, hr0⟩ := h
  exact Kd.N_ne ho hb ht
theorem IsS133.fresh {w0 W : World} {g : Nat} {f0 : List Int} {f1 : Int} {f2 : Int} (h : IsS133 w0 W g f0 f1 f2) : ∀ k, W.heap.size ≤ k → k ≠ g := by
  obtain ⟨A0, c0, hb, hg, hr0⟩ := h
  exact Kd.freshB hb
theorem IsS133.kept {w0 W : World} {g : Nat} {f0 : List Int} {f1 : Int} {f2 : Int} {W1 : World} {S : Nat → Prop} (h : IsS133 w0 W g f0 f1 f2) (hk : Kept W W1 S) (hne : ¬ S g) : IsS133 w0 W1 g f0 f1 f2 := by
  obtain ⟨A0, c0, hb, hg, hr0⟩ := h
  exact ⟨A0, c0, blk_kept hb hk hne, hg, hr0⟩
theorem IsS133.below {w0 W : World} {g : Nat} {f0 : List Int} {f1 : Int} {f2 : Int} {W1 : World} (h : IsS133 w0 W g f0 f1 f2) (hw : Below W.heap.size W W1) : IsS133 w0 W1 g f0 f1 f2 := h.grown (grown_of_below hw none) (by simp)
theorem IsS133.alloc {w0 W : World} {g : Nat} {f0 : List Int} {f1 : Int} {f2 : Int} (h : IsS133 w0 W g f0 f1 f2) (o : Obj) : IsS133 w0 (W.alloc o) g f0 f1 f2 := h.below (below_alloc (Below.refl _ _) o)
theorem IsS133.drewN {w0 W : World} {g : Nat} {f0 : List Int} {f1 : Int} {f2 : Int} (h : IsS133 w0 W g f0 f1 f2) (m : Nat) : IsS133 w0 (W.drewN m) g f0 f1 f2 := h
theorem IsS133.drew {w0 W : World} {g : Nat} {f0 : List Int} {f1 : Int} {f2 : Int} (h : IsS133 w0 W g f0 f1 f2) : IsS133 w0 W.drew g f0 f1 f2 := h
theorem IsS133.at_ {w0 W : World} {g : Nat} {f0 : List Int} {f1 : Int} {f2 : Int} {w' : World} {m : Nat} (hq : W.drewN m = w') (h : IsS133 w0 W g f0 f1 f2) : IsS133 w0 w' g f0 f1 f2 := by subst hq; exact IsS133.drewN h m
theorem IsS133.apart {w0 W : World} {g : Nat} {f0 : List Int} {f1 : Int} {f2 : Int} {α : Type} {d : Kd α} {e : Nat} {base : Nat} {ok : Nat → Prop} {v : Value} {xs : List α} (h : IsS133 w0 W g f0 f1 f2) (ho : d.R e W base ok v xs) (ht : ∀ q, q ∈ e :: d.E → q ≠ 133) : d.R e W base (fun k => ok k ∧ k ≠ g) v xs := by
  obtain ⟨A0, c0, hb, hg, hr0⟩ := h
  exact Kd.R_types ho hb ht
theorem IsS133.own_ne {w0 W : World} {g : Nat} {f0 : List Int} {f1 : Int} {f2 : Int} {α : Type} {d : Kd α} {e : Nat} {base : Nat} {ok : Nat → Prop} {v : Value} {xs : List α} (h : IsS133 w0 W g f0 f1 f2) (ho : d.R e W base ok v xs) (ht : e ≠ 133) : some g ≠ v.ownBlock := by
  obtain ⟨A0, c0, hb, hg, hr0⟩ := h
  exact Kd.R_ne ho hb ht
theorem IsS133.apartQ {w0 W : World} {g : Nat} {f0 : List Int} {f1 : Int} {f2 : Int} {α : Type} {d : Kd α} {e : Nat} {base : Nat} {ok : Nat → Prop} {v : Value} {xs : List α} (h : IsS133 w0 W g f0 f1 f2) (ho : d.Q e W base ok v xs) (ht : ∀ q, q ∈ e :: d.E → q ≠ 133) : d.Q e W base (fun k => ok k ∧ k ≠ g) v xs := by
  obtain ⟨A0, c0, hb, hg, hr0⟩ := h
  exact Kd.Q_types ho hb ht
theorem IsS133.own_neQ {w0 W : World} {g : Nat} {f0 : List Int} {f1 : Int} {f2 : Int} {α : Type} {d : Kd α} {e : Nat} {base : Nat} {ok : Nat → Prop} {v : Value} {xs : List α} (h : IsS133 w0 W g f0 f1 f2) (ho : d.Q e W base ok v xs) (ht : e ≠ 133) : some g ≠ v.ownBlock := by
  obtain ⟨A0, c0, hb, hg, hr0⟩ := h
  exact Kd.Q_ne ho hb ht
theorem IsS133.apartS {w0 W : World} {g : Nat} {f0 : List Int} {f1 : Int} {f2 : Int} {α : Type} {d : Kd α} {e : Nat} {base : Nat} {ok : Nat → Prop} {v : Value} {xs : List α} (h : IsS133 w0 W g f0 f1 f2) (ho : d.S e W base ok v xs) (ht : ∀ q, q ∈ e :: d.E → q ≠ 133) : d.S e W base (fun k => ok k ∧ k ≠ g) v xs := by
  obtain ⟨A0, c0, hb, hg, hr0⟩ := h
  exact Kd.S_types ho hb ht
theorem IsS133.own_neS {w0 W : World} {g : Nat} {f0 : List Int} {f1 : Int} {f2 : Int} {α : Type} {d : Kd α} {e : Nat} {base : Nat} {ok : Nat → Prop} {v : Value} {xs : List α} (h : IsS133 w0 W g f0 f1 f2) (ho : d.S e W base ok v xs) (ht : e ≠ 133) : some g ≠ v.ownBlock := by
  obtain ⟨A0, c0, hb, hg, hr0⟩ := h
  exact Kd.S_ne ho hb ht
theorem IsS133.lt {w0 W : World} {g : Nat} {f0 : List Int} {f1 : Int} {f2 : Int} (h : IsS133 w0 W g f0 f1 f2) : g < W.heap.size := by
  obtain ⟨A0, c0, hb, hg, hr0⟩ := h
  exact blk_lt hb
theorem IsS133.ge {w0 W : World} {g : Nat} {f0 : List Int} {f1 : Int} {f2 : Int} (h : IsS133 w0 W g f0 f1 f2) : w0.heap.size ≤ g := by
  obtain ⟨A0, c0, hb, hg, hr0⟩ := h
  exact hg
theorem IsS133.ne_blk {w0 W : World} {g : Nat} {f0 : List Int} {f1 : Int} {f2 : Int} {a : Nat} {cs : Array Value} {t : TypeId} {fr : Nat × Nat} (h : IsS133 w0 W g f0 f1 f2) (hb2 : W.heap[a]? = some (.cells cs t fr)) (ht : t ≠ 133) : g ≠ a := by
  obtain ⟨A0, c0, hb, hg, hr0⟩ := h
  rintro rfl
  rw [hb] at hb2
  injection hb2 with hb2
  injection hb2 with _ ht2
  exact ht ht2.symm
theorem IsS133.far {w0 W : World} {g : Nat} {f0 : List Int} {f1 : Int} {f2 : Int} {p : Addr} (h : IsS133 w0 W g f0 f1 f2) (hne : g ≠ p.block) (u : Value) : IsS133 w0 (W.setCell p u) g f0 f1 f2 := by
  obtain ⟨A0, c0, hb, hg, hr0⟩ := h
  exact ⟨A0, c0, blk_far hb hne u, hg, hr0⟩
theorem cellS133_0 {W : World} {g : Nat} {A0 : Option Addr} {c0 : Nat} {f0 : List Int} {f1 : Int} {f2 : Int} (h : W.heap[g]? = some (.cells #[.slice A0 f0.length c0, .int .i64 f1, .int .u64 f2] 133 (0, 0))) : W.cell? ⟨g, 0, none⟩ = some (.slice A0 f0.length c0) := (blk_cell h 0).trans rfl
theorem cellS133_1 {W : World} {g : Nat} {A0 : Option Addr} {c0 : Nat} {f0 : List Int} {f1 : Int} {f2 : Int} (h : W.heap[g]? = some (.cells #[.slice A0 f0.length c0, .int .i64 f1, .int .u64 f2] 133 (0, 0))) : W.cell? ⟨g, 1, none⟩ = some (.int .i64 f1) := (blk_cell h 1).trans rfl
theorem IsS133.set_1 {w0 W : World} {g : Nat} {f0 : List Int} {f1 : Int} {f2 : Int} (h : IsS133 w0 W g f0 f1 f2) (x : Int) : IsS133 w0 (W.setCell ⟨g, 1, none⟩ (.int .i64 x)) g f0 x f2 := by
  obtain ⟨A0, c0, hb, hg, hr0⟩ := h
  exact ⟨A0, c0, by simpa using blk_set hb 1 (.int .i64 x), hg, hr0⟩
theorem cellS133_2 {W : World} {g : Nat} {A0 : Option Addr} {c0 : Nat} {f0 : List Int} {f1 : Int} {f2 : Int} (h : W.heap[g]? = some (.cells #[.slice A0 f0.length c0, .int .i64 f1, .int .u64 f2] 133 (0, 0))) : W.cell? ⟨g, 2, none⟩ = some (.int .u64 f2) := (blk_cell h 2).trans rfl
theorem IsS133.set_2 {w0 W : World} {g : Nat} {f0 : List Int} {f1 : Int} {f2 : Int} (h : IsS133 w0 W g f0 f1 f2) (x : Int) : IsS133 w0 (W.setCell ⟨g, 2, none⟩ (.int .u64 x)) g f0 f1 x := by
  obtain ⟨A0, c0, hb, hg, hr0⟩ := h
  exact ⟨A0, c0, by simpa using blk_set hb 2 (.int .u64 x), hg, hr0⟩
theorem IsS133.new (w0 W : World) (A0 : Option Addr) (c0 : Nat) (f0 : List Int) (f1 : Int) (f2 : Int) (hB : Below w0.heap.size w0 W) (hr0 : Kd.C (Kd.int .u8) w0 A0 f0.length f0) : IsS133 w0 (W.alloc (.cells #[.slice A0 f0.length c0, .int .i64 f1, .int .u64 f2] 133)) W.heap.size f0 f1 f2 := ⟨A0, c0, by simpa using heap_alloc_new W _, hB.size, hr0⟩

/-! ### spec_l00From: function 74 -/
def spec_l00From.f (l0 : List Int) : Option (List Int × Int × Int) := some (l0, 0, 0)
set_option maxHeartbeats 8000000 in
set_option maxRecDepth 100000 in
theorem spec_l00From.calls (A0 : Option Addr) (c0 : Nat) (l0 : List Int) (r1 : List Int) (r2 : Int) (r3 : Int) (w0 w : World) (hB : Below w0.heap.size w0 w) (hr0 : Kd.C (Kd.int .u8) w0 A0 l0.length l0) (hc0 : l0.length ≤ c0) (h : spec_l00From.f l0 = some (r1, r2, r3)) :
    Calls Try.prog 74 #[.slice A0 l0.length c0] w fun e w' => ∃ g_ : Nat, e = .returned (.pointer (some ⟨g_, 0, none⟩)) ∧ IsS133 w0 w' g_ r1 r2 r3 ∧ Below w0.heap.size w0 w' ∧ Below w.heap.size w w' := by
  have hu133 := Try.underlying133
  have HR0 := Aside0.mk hr0
  have HC0 := Aside0.mk hc0
  clear hr0 hc0
  have HBW := Aside0.mk (Below.refl w.heap.size w)
  have HW0 := Aside0.mk hB.size
  have HB := Aside0.mk hB
  clear hB
  have H : (some (l0, 0, 0)) = some (r1, r2, r3) := h
  clear h
  simp only [Option.some.injEq, Prod.mk.injEq] at H
  obtain ⟨rfl, rfl, rfl⟩ := H
  go_enter Try.func74, Try.ntmps74
  go_wp2_with (first | ((with_reducible refine gate_dst (N := 5) rfl ?_); refine box_event ?hg (N := 5) ?hd (cs := #[.slice A0 l0.length c0, .int .i64 0, .int .u64 0]) (t := 133) ?hr ?_; (case hd => rfl); (case hg => rfl); (case hr => first | (go_simp; done) | (go_simp; rfl)); intro gb171 hg w2 hbox hb; have n0_ := Aside0.mk (below_step HBW.out hb); have n1_ := Aside0.mk (below_step (by repeat (first | (with_reducible first | exact HB.out | apply below_alloc | apply pw_below_drewN | apply below_drew1) | exact HB.out)) hb); have n2_ := Aside0.mk (hbox); have n3_ := Aside0.mk ((by rw [hg]; exact (below_size (by repeat (first | (with_reducible first | exact HBW.out | apply below_alloc | apply pw_below_drewN | apply below_drew1) | exact HBW.out))) : w.heap.size ≤ gb171)); have n4_ := Aside0.mk ((Nat.le_trans HW0.out (by rw [hg]; exact (below_size (by repeat (first | (with_reducible first | exact HBW.out | apply below_alloc | apply pw_below_drewN | apply below_drew1) | exact HBW.out))) : w.heap.size ≤ gb171) : w0.heap.size ≤ gb171)); clear HBW; clear HB; have HBW := n0_; have HB := n1_; have BK171 := n2_; have GW171 := n3_; have GE171 := n4_; clear n0_ n1_ n2_ n3_ n4_; clear hb hbox hg))
  go_ret
  exact ⟨_, rfl, (show IsS133 w0 _ gb171 l0 0 0 from ⟨_, _, by (with_reducible repeat (first | refine blk_drewN ?_ _ | refine blk_drew ?_ | refine blk_alloc ?_ _)); exact BK171.out, GE171.out, HR0.out⟩), by repeat (first | (with_reducible first | exact HB.out | apply below_alloc | apply pw_below_drewN | apply below_drew1 | refine below_set ?_ GE171.out) | exact HB.out), by repeat (first | (with_reducible first | exact HBW.out | apply below_alloc | apply pw_below_drewN | apply below_drew1 | refine below_set ?_ GW171.out) | exact HBW.out)⟩

/-! ### spec_l00Src_next: function 115 -/
def spec_l00Src_next.f (s0_0 : List Int) (s0_1 : Int) (s0_2 : Int) : Option (Int × Int × Int) := if s0_1 < (s0_0.length : Int) then (if 0 ≤ s0_1 then (if (wrap64 (s0_1 + 1)) ≤ (s0_0.length : Int) then (some (wrap64 (rd s0_0 s0_1), wrap64 (s0_1 + 1), IntKind.u64.wrap ((IntKind.u64.wrap ((IntKind.u64.wrap (s0_2 * 6364136223846793005)) + (IntKind.u64.wrap (wrap64 (rd s0_0 s0_1))))) + 1442695040888963407))) else (some (wrap64 (Go.bits .and .u64 ((IntKind.u64.wrap ((IntKind.u64.wrap ((IntKind.u64.wrap (s0_2 * 6364136223846793005)) + (IntKind.u64.wrap (wrap64 (rd s0_0 s0_1))))) + 1442695040888963407)) / 1099511627776) 255), wrap64 (s0_1 + 1), IntKind.u64.wrap ((IntKind.u64.wrap ((IntKind.u64.wrap (s0_2 * 6364136223846793005)) + (IntKind.u64.wrap (wrap64 (rd s0_0 s0_1))))) + 1442695040888963407)))) else (none)) else (if (wrap64 (s0_1 + 1)) ≤ (s0_0.length : Int) then (some (0, wrap64 (s0_1 + 1), IntKind.u64.wrap ((IntKind.u64.wrap ((IntKind.u64.wrap (s0_2 * 6364136223846793005)) + 0)) + 1442695040888963407))) else (some (wrap64 (Go.bits .and .u64 ((IntKind.u64.wrap ((IntKind.u64.wrap ((IntKind.u64.wrap (s0_2 * 6364136223846793005)) + 0)) + 1442695040888963407)) / 1099511627776) 255), wrap64 (s0_1 + 1), IntKind.u64.wrap ((IntKind.u64.wrap ((IntKind.u64.wrap (s0_2 * 6364136223846793005)) + 0)) + 1442695040888963407))))
set_option maxHeartbeats 8000000 in
set_option maxRecDepth 100000 in
theorem spec_l00Src_next.calls (g : Nat) (s0_0 : List Int) (s0_1 : Int) (s0_2 : Int) (r1 : Int) (r2 : Int) (r3 : Int) (w0 w : World) (hI : IsS133 w0 w g s0_0 s0_1 s0_2) (hB : Below w0.heap.size w0 w) (h : spec_l00Src_next.f s0_0 s0_1 s0_2 = some (r1, r2, r3)) :
    Calls Try.prog 115 #[.pointer (some ⟨g, 0, none⟩)] w fun e w' => e = .returned (.int .i64 r1) ∧ IsS133 w0 w' g s0_0 r2 r3 ∧ Below w0.heap.size w0 w' ∧ KeepBut w w' g none := by
  have HI0 := Aside0.mk hI
  have HK := Aside0.mk (KeepBut.refl w g none)
  have HL := Aside0.mk hB.size
  clear hI
  have HW0 := Aside0.mk hB.size
  have HB := Aside0.mk hB
  clear hB
  have H : (if s0_1 < (s0_0.length : Int) then (if 0 ≤ s0_1 then (if (wrap64 (s0_1 + 1)) ≤ (s0_0.length : Int) then (some (wrap64 (rd s0_0 s0_1), wrap64 (s0_1 + 1), IntKind.u64.wrap ((IntKind.u64.wrap ((IntKind.u64.wrap (s0_2 * 6364136223846793005)) + (IntKind.u64.wrap (wrap64 (rd s0_0 s0_1))))) + 1442695040888963407))) else (some (wrap64 (Go.bits .and .u64 ((IntKind.u64.wrap ((IntKind.u64.wrap ((IntKind.u64.wrap (s0_2 * 6364136223846793005)) + (IntKind.u64.wrap (wrap64 (rd s0_0 s0_1))))) + 1442695040888963407)) / 1099511627776) 255), wrap64 (s0_1 + 1), IntKind.u64.wrap ((IntKind.u64.wrap ((IntKind.u64.wrap (s0_2 * 6364136223846793005)) + (IntKind.u64.wrap (wrap64 (rd s0_0 s0_1))))) + 1442695040888963407)))) else (none)) else (if (wrap64 (s0_1 + 1)) ≤ (s0_0.length : Int) then (some (0, wrap64 (s0_1 + 1), IntKind.u64.wrap ((IntKind.u64.wrap ((IntKind.u64.wrap (s0_2 * 6364136223846793005)) + 0)) + 1442695040888963407))) else (some (wrap64 (Go.bits .and .u64 ((IntKind.u64.wrap ((IntKind.u64.wrap ((IntKind.u64.wrap (s0_2 * 6364136223846793005)) + 0)) + 1442695040888963407)) / 1099511627776) 255), wrap64 (s0_1 + 1), IntKind.u64.wrap ((IntKind.u64.wrap ((IntKind.u64.wrap (s0_2 * 6364136223846793005)) + 0)) + 1442695040888963407))))) = some (r1, r2, r3) := h
  clear h
  by_cases c2 : s0_1 < (s0_0.length : Int)
  · rw [if_pos c2] at H
    have c2b0 : decide (s0_1 < (s0_0.length : Int)) = true := decide_eq_true c2
    clear c2
    by_cases c3 : 0 ≤ s0_1
    · rw [if_pos c3] at H
      have c3b0 : decide (0 ≤ s0_1) = true := decide_eq_true c3
      clear c3
      by_cases c4 : (wrap64 (s0_1 + 1)) ≤ (s0_0.length : Int)
      · rw [if_pos c4] at H
        have c4b0 : decide ((wrap64 (s0_1 + 1)) ≤ (s0_0.length : Int)) = true := decide_eq_true c4
        clear c4
        simp only [Option.some.injEq, Prod.mk.injEq] at H
        obtain ⟨rfl, rfl, rfl⟩ := H
        obtain ⟨ASz5_0, cSz5_0, HGz5, hgz5, HSz5_0⟩ := HI0.out
        have hcz5_0 := cellS133_0 HGz5
        have hcz5_1 := cellS133_1 HGz5
        have hcz5_2 := cellS133_2 HGz5
        have hfz5_1 := blk_frozen HGz5 1
        have hfz5_2 := blk_frozen HGz5 2
        clear HGz5 hgz5
        have p172 : 0 ≤ (s0_1 : Int) := of_decide_eq_true (by first | (with_reducible assumption) | assumption)
        have q172 : s0_1 < (s0_0.length : Int) := of_decide_eq_true (by first | (with_reducible assumption) | assumption)
        obtain ⟨ad172, e172, hx172_0⟩ := Kd.at_int HSz5_0 s0_1 p172 q172
        cases e172
        replace hx172_0 := pw_cell_below HB.out hx172_0
        replace p172 := eq_true p172
        replace q172 := eq_true q172
        go_enter Try.func115, Try.ntmps115
        go_wp2
        repeat (go_quiet (fail); try go_wp2)
        go_ret
        exact ⟨by first | rfl | (simp [errW_none, errW_some] <;> rfl) | (simp [*, errW_none, errW_some] <;> rfl) | (simp [Int.tdiv_eq_ediv_of_nonneg, *]; done), by (try simp only [Int.add_zero]); repeat (first | (with_reducible first | exact HI0.out | apply IsS133.alloc | apply IsS133.drewN | apply IsS133.drew | apply IsS133.set_1 | apply IsS133.set_2) | exact HI0.out), by repeat (first | (with_reducible first | exact HB.out | apply below_alloc | apply pw_below_drewN | apply below_drew1 | refine below_set ?_ (IsS133.ge HI0.out)) | exact HB.out), by repeat (first | (with_reducible first | exact HK.out | apply KeepBut.set_ | apply keep_drewN | apply keep_drew | apply keep_alloc) | exact HK.out)⟩
      · rw [if_neg c4] at H
        have c4b0 : decide ((wrap64 (s0_1 + 1)) ≤ (s0_0.length : Int)) = false := decide_eq_false c4
        clear c4
        simp only [Option.some.injEq, Prod.mk.injEq] at H
        obtain ⟨rfl, rfl, rfl⟩ := H
        obtain ⟨ASz6_0, cSz6_0, HGz6, hgz6, HSz6_0⟩ := HI0.out
        have hcz6_0 := cellS133_0 HGz6
        have hcz6_1 := cellS133_1 HGz6
        have hcz6_2 := cellS133_2 HGz6
        have hfz6_1 := blk_frozen HGz6 1
        have hfz6_2 := blk_frozen HGz6 2
        clear HGz6 hgz6
        have p172 : 0 ≤ (s0_1 : Int) := of_decide_eq_true (by first | (with_reducible assumption) | assumption)
        have q172 : s0_1 < (s0_0.length : Int) := of_decide_eq_true (by first | (with_reducible assumption) | assumption)
        obtain ⟨ad172, e172, hx172_0⟩ := Kd.at_int HSz6_0 s0_1 p172 q172
        cases e172
        replace hx172_0 := pw_cell_below HB.out hx172_0
        replace p172 := eq_true p172
        replace q172 := eq_true q172
        go_enter Try.func115, Try.ntmps115
        go_wp2
        repeat (go_quiet (fail); try go_wp2)
        go_ret
        exact ⟨by first | rfl | (simp [errW_none, errW_some] <;> rfl) | (simp [*, errW_none, errW_some] <;> rfl) | (simp [Int.tdiv_eq_ediv_of_nonneg, *]; done), by (try simp only [Int.add_zero]); repeat (first | (with_reducible first | exact HI0.out | apply IsS133.alloc | apply IsS133.drewN | apply IsS133.drew | apply IsS133.set_1 | apply IsS133.set_2) | exact HI0.out), by repeat (first | (with_reducible first | exact HB.out | apply below_alloc | apply pw_below_drewN | apply below_drew1 | refine below_set ?_ (IsS133.ge HI0.out)) | exact HB.out), by repeat (first | (with_reducible first | exact HK.out | apply KeepBut.set_ | apply keep_drewN | apply keep_drew | apply keep_alloc) | exact HK.out)⟩
    · rw [if_neg c3] at H
      exact absurd H (by simp)
  · rw [if_neg c2] at H
    have c2b0 : decide (s0_1 < (s0_0.length : Int)) = false := decide_eq_false c2
    clear c2
    by_cases c7 : (wrap64 (s0_1 + 1)) ≤ (s0_0.length : Int)
    · rw [if_pos c7] at H
      have c7b0 : decide ((wrap64 (s0_1 + 1)) ≤ (s0_0.length : Int)) = true := decide_eq_true c7
      clear c7
      simp only [Option.some.injEq, Prod.mk.injEq] at H
      obtain ⟨rfl, rfl, rfl⟩ := H
      obtain ⟨ASz8_0, cSz8_0, HGz8, hgz8, HSz8_0⟩ := HI0.out
      have hcz8_0 := cellS133_0 HGz8
      have hcz8_1 := cellS133_1 HGz8
      have hcz8_2 := cellS133_2 HGz8
      have hfz8_1 := blk_frozen HGz8 1
      have hfz8_2 := blk_frozen HGz8 2
      clear HGz8 hgz8
      go_enter Try.func115, Try.ntmps115
      go_wp2
      repeat (go_quiet (fail); try go_wp2)
      go_ret
      exact ⟨by first | rfl | (simp [errW_none, errW_some] <;> rfl) | (simp [*, errW_none, errW_some] <;> rfl) | (simp [Int.tdiv_eq_ediv_of_nonneg, *]; done), by (try simp only [Int.add_zero]); repeat (first | (with_reducible first | exact HI0.out | apply IsS133.alloc | apply IsS133.drewN | apply IsS133.drew | apply IsS133.set_1 | apply IsS133.set_2) | exact HI0.out), by repeat (first | (with_reducible first | exact HB.out | apply below_alloc | apply pw_below_drewN | apply below_drew1 | refine below_set ?_ (IsS133.ge HI0.out)) | exact HB.out), by repeat (first | (with_reducible first | exact HK.out | apply KeepBut.set_ | apply keep_drewN | apply keep_drew | apply keep_alloc) | exact HK.out)⟩
    · rw [if_neg c7] at H
      have c7b0 : decide ((wrap64 (s0_1 + 1)) ≤ (s0_0.length : Int)) = false := decide_eq_false c7
      clear c7
      simp only [Option.some.injEq, Prod.mk.injEq] at H
      obtain ⟨rfl, rfl, rfl⟩ := H
      obtain ⟨ASz9_0, cSz9_0, HGz9, hgz9, HSz9_0⟩ := HI0.out
      have hcz9_0 := cellS133_0 HGz9
      have hcz9_1 := cellS133_1 HGz9
      have hcz9_2 := cellS133_2 HGz9
      have hfz9_1 := blk_frozen HGz9 1
      have hfz9_2 := blk_frozen HGz9 2
      clear HGz9 hgz9
      go_enter Try.func115, Try.ntmps115
      go_wp2
      repeat (go_quiet (fail); try go_wp2)
      go_ret
      exact ⟨by first | rfl | (simp [errW_none, errW_some] <;> rfl) | (simp [*, errW_none, errW_some] <;> rfl) | (simp [Int.tdiv_eq_ediv_of_nonneg, *]; done), by (try simp only [Int.add_zero]); repeat (first | (with_reducible first | exact HI0.out | apply IsS133.alloc | apply IsS133.drewN | apply IsS133.drew | apply IsS133.set_1 | apply IsS133.set_2) | exact HI0.out), by repeat (first | (with_reducible first | exact HB.out | apply below_alloc | apply pw_below_drewN | apply below_drew1 | refine below_set ?_ (IsS133.ge HI0.out)) | exact HB.out), by repeat (first | (with_reducible first | exact HK.out | apply KeepBut.set_ | apply keep_drewN | apply keep_drew | apply keep_alloc) | exact HK.out)⟩

/-! ### spec_l00Src_pick: function 75 -/
def spec_l00Src_pick.f (s0_0 : List Int) (s0_1 : Int) (s0_2 : Int) (a1 : Int) : Option (Int × Int × Int) := if a1 ≤ 1 then (some (0, s0_1, s0_2)) else ((spec_l00Src_next.f s0_0 s0_1 s0_2).bind fun bt173 => (if a1 > 200 then ((spec_l00Src_next.f s0_0 bt173.2.1 bt173.2.2).bind fun bt176 => (if a1 = 0 then (none) else (some (Int.tmod (wrap64 ((wrap64 (bt173.1 * 256)) + bt176.1)) a1, bt176.2.1, bt176.2.2)))) else (if a1 = 0 then (none) else (some (Int.tmod bt173.1 a1, bt173.2.1, bt173.2.2)))))
set_option maxHeartbeats 8000000 in
set_option maxRecDepth 100000 in
theorem spec_l00Src_pick.calls (g : Nat) (s0_0 : List Int) (s0_1 : Int) (s0_2 : Int) (a1 : Int) (r1 : Int) (r2 : Int) (r3 : Int) (w0 w : World) (hI : IsS133 w0 w g s0_0 s0_1 s0_2) (hB : Below w0.heap.size w0 w) (h : spec_l00Src_pick.f s0_0 s0_1 s0_2 a1 = some (r1, r2, r3)) :
    Calls Try.prog 75 #[.pointer (some ⟨g, 0, none⟩), .int .i64 a1] w fun e w' => e = .returned (.int .i64 r1) ∧ IsS133 w0 w' g s0_0 r2 r3 ∧ Below w0.heap.size w0 w' ∧ KeepBut w w' g none := by
  have HI0 := Aside0.mk hI
  have HK := Aside0.mk (KeepBut.refl w g none)
  have HL := Aside0.mk hB.size
  clear hI
  have HW0 := Aside0.mk hB.size
  have HB := Aside0.mk hB
  clear hB
  have H : (if a1 ≤ 1 then (some (0, s0_1, s0_2)) else ((spec_l00Src_next.f s0_0 s0_1 s0_2).bind fun bt173 => (if a1 > 200 then ((spec_l00Src_next.f s0_0 bt173.2.1 bt173.2.2).bind fun bt176 => (if a1 = 0 then (none) else (some (Int.tmod (wrap64 ((wrap64 (bt173.1 * 256)) + bt176.1)) a1, bt176.2.1, bt176.2.2)))) else (if a1 = 0 then (none) else (some (Int.tmod bt173.1 a1, bt173.2.1, bt173.2.2)))))) = some (r1, r2, r3) := h
  clear h
  by_cases c3 : a1 ≤ 1
  · rw [if_pos c3] at H
    have c3b0 : decide (a1 ≤ 1) = true := decide_eq_true c3
    clear c3
    simp only [Option.some.injEq, Prod.mk.injEq] at H
    obtain ⟨rfl, rfl, rfl⟩ := H
    go_enter Try.func75, Try.ntmps75
    go_wp2
    go_ret
    exact ⟨by first | rfl | (simp [errW_none, errW_some] <;> rfl) | (simp [*, errW_none, errW_some] <;> rfl) | (simp [Int.tdiv_eq_ediv_of_nonneg, *]; done), by (try simp only [Int.add_zero]); repeat (first | (with_reducible first | exact HI0.out | apply IsS133.alloc | apply IsS133.drewN | apply IsS133.drew | apply IsS133.set_1 | apply IsS133.set_2) | exact HI0.out), by repeat (first | (with_reducible first | exact HB.out | apply below_alloc | apply pw_below_drewN | apply below_drew1 | refine below_set ?_ (IsS133.ge HI0.out)) | exact HB.out), by repeat (first | (with_reducible first | exact HK.out | apply KeepBut.set_ | apply keep_drewN | apply keep_drew | apply keep_alloc) | exact HK.out)⟩
  · rw [if_neg c3] at H
    have c3b0 : decide (a1 ≤ 1) = false := decide_eq_false c3
    clear c3
    replace H := Option.bind_eq_some_iff.mp H
    obtain ⟨⟨t173, t174, t175⟩, A40, H⟩ := H
    replace H : (if a1 > 200 then ((spec_l00Src_next.f s0_0 t174 t175).bind fun bt176 => (if a1 = 0 then (none) else (some (Int.tmod (wrap64 ((wrap64 (t173 * 256)) + bt176.1)) a1, bt176.2.1, bt176.2.2)))) else (if a1 = 0 then (none) else (some (Int.tmod t173 a1, t174, t175)))) = some (r1, r2, r3) := H
    have A4 := Aside0.mk A40
    clear A40
    by_cases c5 : a1 > 200
    · rw [if_pos c5] at H
      have c5b0 : decide (200 < a1) = true := decide_eq_true c5
      clear c5
      replace H := Option.bind_eq_some_iff.mp H
      obtain ⟨⟨t176, t177, t178⟩, A60, H⟩ := H
      replace H : (if a1 = 0 then (none) else (some (Int.tmod (wrap64 ((wrap64 (t173 * 256)) + t176)) a1, t177, t178))) = some (r1, r2, r3) := H
      have A6 := Aside0.mk A60
      clear A60
      by_cases c7 : a1 = 0
      · rw [if_pos c7] at H
        exact absurd H (by simp)
      · rw [if_neg c7] at H
        have c7b0 : (a1 == 0) = false := beq_eq_false_iff_ne.mpr c7
        have c7b1 : (a1 != 0) = true := bne_iff_ne.mpr c7
        simp only [Option.some.injEq, Prod.mk.injEq] at H
        obtain ⟨rfl, rfl, rfl⟩ := H
        go_enter Try.func75, Try.ntmps75
        go_wp2_with (first | ((with_reducible refine gate_callee (f := 115) rfl ?_); refine goesL_ (some 9) rfl rfl Try.func115 (by kernel_rfl) rfl #[.pointer (some ⟨g, 0, none⟩)] rfl (by (try simp only [List.map_toArray, List.map_cons, List.map_nil]); first | done | rfl | (simp only [List.length_drop, List.length_take]; rfl)) ?_; (with_reducible refine (spec_l00Src_next.calls g s0_0 s0_1 s0_2 t173 t174 t175 w0 _ ?side1 ?side2 A4.out).mono ?_); (case side1 => repeat (first | (with_reducible first | exact HI0.out | apply IsS133.alloc | apply IsS133.drewN | apply IsS133.drew | apply IsS133.set_1 | apply IsS133.set_2) | exact HI0.out)); (case side2 => repeat (first | (with_reducible first | exact HB.out | apply below_alloc | apply pw_below_drewN | apply below_drew1 | refine below_set ?_ (IsS133.ge HI0.out)) | exact HB.out)); rintro e w8 ⟨rfl, hi, hb, hk⟩; refine ⟨_, rfl, ?_⟩; have n0_ := Aside0.mk (KeepBut.trans (by repeat (first | (with_reducible first | exact HK.out | apply KeepBut.set_ | apply keep_drewN | apply keep_drew | apply keep_alloc) | exact HK.out)) hk (.inl rfl)); have n1_ := Aside0.mk (hb); have n2_ := Aside0.mk (hi); clear HK; clear HB; clear HI0; have HK := n0_; have HB := n1_; have HI0 := n2_; clear n0_ n1_ n2_; (try clear hb); (try clear hb2); (try clear hk); (try clear hi)) | ((with_reducible refine gate_callee (f := 115) rfl ?_); refine goesL_ (some 15) rfl rfl Try.func115 (by kernel_rfl) rfl #[.pointer (some ⟨g, 0, none⟩)] rfl (by (try simp only [List.map_toArray, List.map_cons, List.map_nil]); first | done | rfl | (simp only [List.length_drop, List.length_take]; rfl)) ?_; (with_reducible refine (spec_l00Src_next.calls g s0_0 t174 t175 t176 t177 t178 w0 _ ?side1 ?side2 A6.out).mono ?_); (case side1 => repeat (first | (with_reducible first | exact HI0.out | apply IsS133.alloc | apply IsS133.drewN | apply IsS133.drew | apply IsS133.set_1 | apply IsS133.set_2) | exact HI0.out)); (case side2 => repeat (first | (with_reducible first | exact HB.out | apply below_alloc | apply pw_below_drewN | apply below_drew1 | refine below_set ?_ (IsS133.ge HI0.out)) | exact HB.out)); rintro e w9 ⟨rfl, hi, hb, hk⟩; refine ⟨_, rfl, ?_⟩; have n0_ := Aside0.mk (KeepBut.trans (by repeat (first | (with_reducible first | exact HK.out | apply KeepBut.set_ | apply keep_drewN | apply keep_drew | apply keep_alloc) | exact HK.out)) hk (.inl rfl)); have n1_ := Aside0.mk (hb); have n2_ := Aside0.mk (hi); clear HK; clear HB; clear HI0; have HK := n0_; have HB := n1_; have HI0 := n2_; clear n0_ n1_ n2_; (try clear hb); (try clear hb2); (try clear hk); (try clear hi)))
        go_ret
        exact ⟨by first | rfl | (simp [errW_none, errW_some] <;> rfl) | (simp [*, errW_none, errW_some] <;> rfl) | (simp [Int.tdiv_eq_ediv_of_nonneg, *]; done), by (try simp only [Int.add_zero]); repeat (first | (with_reducible first | exact HI0.out | apply IsS133.alloc | apply IsS133.drewN | apply IsS133.drew | apply IsS133.set_1 | apply IsS133.set_2) | exact HI0.out), by repeat (first | (with_reducible first | exact HB.out | apply below_alloc | apply pw_below_drewN | apply below_drew1 | refine below_set ?_ (IsS133.ge HI0.out)) | exact HB.out), by repeat (first | (with_reducible first | exact HK.out | apply KeepBut.set_ | apply keep_drewN | apply keep_drew | apply keep_alloc) | exact HK.out)⟩
    · rw [if_neg c5] at H
      have c5b0 : decide (200 < a1) = false := decide_eq_false c5
      clear c5
      by_cases c10 : a1 = 0
      · rw [if_pos c10] at H
        exact absurd H (by simp)
      · rw [if_neg c10] at H
        have c10b0 : (a1 == 0) = false := beq_eq_false_iff_ne.mpr c10
        have c10b1 : (a1 != 0) = true := bne_iff_ne.mpr c10
        simp only [Option.some.injEq, Prod.mk.injEq] at H
        obtain ⟨rfl, rfl, rfl⟩ := H
        go_enter Try.func75, Try.ntmps75
        go_wp2_with (first | ((with_reducible refine gate_callee (f := 115) rfl ?_); refine goesL_ (some 9) rfl rfl Try.func115 (by kernel_rfl) rfl #[.pointer (some ⟨g, 0, none⟩)] rfl (by (try simp only [List.map_toArray, List.map_cons, List.map_nil]); first | done | rfl | (simp only [List.length_drop, List.length_take]; rfl)) ?_; (with_reducible refine (spec_l00Src_next.calls g s0_0 s0_1 s0_2 t173 t174 t175 w0 _ ?side1 ?side2 A4.out).mono ?_); (case side1 => repeat (first | (with_reducible first | exact HI0.out | apply IsS133.alloc | apply IsS133.drewN | apply IsS133.drew | apply IsS133.set_1 | apply IsS133.set_2) | exact HI0.out)); (case side2 => repeat (first | (with_reducible first | exact HB.out | apply below_alloc | apply pw_below_drewN | apply below_drew1 | refine below_set ?_ (IsS133.ge HI0.out)) | exact HB.out)); rintro e w11 ⟨rfl, hi, hb, hk⟩; refine ⟨_, rfl, ?_⟩; have n0_ := Aside0.mk (KeepBut.trans (by repeat (first | (with_reducible first | exact HK.out | apply KeepBut.set_ | apply keep_drewN | apply keep_drew | apply keep_alloc) | exact HK.out)) hk (.inl rfl)); have n1_ := Aside0.mk (hb); have n2_ := Aside0.mk (hi); clear HK; clear HB; clear HI0; have HK := n0_; have HB := n1_; have HI0 := n2_; clear n0_ n1_ n2_; (try clear hb); (try clear hb2); (try clear hk); (try clear hi)))
        go_ret
        exact ⟨by first | rfl | (simp [errW_none, errW_some] <;> rfl) | (simp [*, errW_none, errW_some] <;> rfl) | (simp [Int.tdiv_eq_ediv_of_nonneg, *]; done), by (try simp only [Int.add_zero]); repeat (first | (with_reducible first | exact HI0.out | apply IsS133.alloc | apply IsS133.drewN | apply IsS133.drew | apply IsS133.set_1 | apply IsS133.set_2) | exact HI0.out), by repeat (first | (with_reducible first | exact HB.out | apply below_alloc | apply pw_below_drewN | apply below_drew1 | refine below_set ?_ (IsS133.ge HI0.out)) | exact HB.out), by repeat (first | (with_reducible first | exact HK.out | apply KeepBut.set_ | apply keep_drewN | apply keep_drew | apply keep_alloc) | exact HK.out)⟩

end Go.Proofs.Ytajndapolblhmaa.P
-- Walks of this claim's functions, laid by a program of this session.
namespace Go.Proofs.Ytajndapolblhmaa.P
open Go.RowKit Go.Proofs.YtajndapolblhmaaW.PrintWords Go.Proofs.YtajndapolblhmaaW.PrintLast Go.Proofs.YtajndapolblhmaaW.PrintMore
attribute [local go_sem] max2_int min2_int max_two min_two max_three min_three max_four min_four   -- for this text's walks alone
set_option linter.unusedVariables false
set_option linter.unusedSimpArgs false

/-! ### spec_B10Orders: function 61 -/
def spec_B10Orders.l0 : Nat → List (S119) → Int → Int → List Int → Int → Int → Option ((List (S119)) × Int × Int)
  | 0, _, _, _, _, _, _ => none
  | k + 1, x6, x7, x8, x955000, x955001, x955002 => if x8 > 0 then ((spec_l00Src_pick.f x955000 x955001 x955002 12).bind fun bt964 => (if x6.length < 8796093022208 then ((spec_l00Src_pick.f x955000 bt964.2.1 bt964.2.2 12).bind fun bt970 => (spec_B10Orders.l0 k (x6 ++ [(⟨x7, wrap64 (1 + bt964.1)⟩ : S119)]) (wrap64 (x7 + (wrap64 (1 + bt970.1)))) (wrap64 (x8 - 1)) x955000 bt970.2.1 bt970.2.2)) else (none))) else ((spec_l00Src_pick.f x955000 x955001 x955002 4).bind fun bt973 => ((spec_l00Src_pick.f x955000 bt973.2.1 bt973.2.2 9).bind fun bt976 => (some (x6, wrap64 (1 + bt973.1), bt976.1))))
def spec_B10Orders.f (k : Nat) (l0 : List Int) : Option ((List (S119)) × Int × Int) := (spec_l00From.f l0).bind fun bt951 => ((spec_l00Src_pick.f bt951.1 bt951.2.1 bt951.2.2 20).bind fun bt958 => ((spec_l00Src_pick.f bt951.1 bt958.2.1 bt958.2.2 5).bind fun bt961 => (spec_B10Orders.l0 k (([] : List (S119))) (wrap64 (14 + bt958.1)) (wrap64 (1 + bt961.1)) bt951.1 bt961.2.1 bt961.2.2)))
theorem spec_B10Orders.mono_l : ∀ k, (∀ y0 y1 y2 y3 y4 y5, LeO (spec_B10Orders.l0 k y0 y1 y2 y3 y4 y5) (spec_B10Orders.l0 (k + 1) y0 y1 y2 y3 y4 y5))
  | 0 => fun _ _ _ _ _ _ r h => by simp [spec_B10Orders.l0] at h
  | k + 1 => by
    have ih0 := spec_B10Orders.mono_l k
    · intro y0 y1 y2 y3 y4 y5
      unfold spec_B10Orders.l0
      repeat' first
      | (with_reducible exact ih0 _ _ _ _ _ _)
      | (with_reducible exact LeO.refl _)
      | (with_reducible exact LeO.none _)
      | (with_reducible refine LeO.ite ?_ ?_)
      | (with_reducible refine LeO.bind ?_ (fun _ => ?_))
      | exact ih0 _ _ _ _ _ _
      | exact LeO.none _
      | refine LeO.ite ?_ ?_
      | refine LeO.bind ?_ (fun _ => ?_)
theorem spec_B10Orders.mono : ∀ a0 k, LeO (spec_B10Orders.f k a0) (spec_B10Orders.f (k + 1) a0) := by
  intro a0 k
  have ih0 := spec_B10Orders.mono_l k
  unfold spec_B10Orders.f
  repeat' first
      | (with_reducible exact ih0 _ _ _ _ _ _)
      | (with_reducible exact LeO.refl _)
      | (with_reducible exact LeO.none _)
      | (with_reducible refine LeO.ite ?_ ?_)
      | (with_reducible refine LeO.bind ?_ (fun _ => ?_))
      | exact ih0 _ _ _ _ _ _
      | exact LeO.none _
      | refine LeO.ite ?_ ?_
      | refine LeO.bind ?_ (fun _ => ?_)
set_option maxHeartbeats 8000000 in
set_option maxRecDepth 100000 in
theorem spec_B10Orders.calls (k : Nat) (A0 : Option Addr) (c0 : Nat) (l0 : List Int) (r1 : List (S119)) (r2 : Int) (r3 : Int) (w : World) (hr0 : Kd.C (Kd.int .u8) w A0 l0.length l0) (hc0 : l0.length ≤ c0) (h : spec_B10Orders.f k l0 = some (r1, r2, r3)) :
    Calls Try.prog 61 #[.slice A0 l0.length c0] w fun e w' => ∃ v0_ : Value, e = .returned (.tuple #[v0_, .int .i64 r2, .int .i64 r3]) ∧ Kd.R k119 119 w' w.heap.size (fun _ => True) v0_ r1 ∧ Below w.heap.size w w' := by
  have hu119 := Try.underlying119
  have HR0 := Aside0.mk hr0
  have HC0 := Aside0.mk hc0
  clear hr0 hc0
  have HB := Aside0.mk (Below.refl w.heap.size w)
  have H : ((spec_l00From.f l0).bind fun bt951 => ((spec_l00Src_pick.f bt951.1 bt951.2.1 bt951.2.2 20).bind fun bt958 => ((spec_l00Src_pick.f bt951.1 bt958.2.1 bt958.2.2 5).bind fun bt961 => (spec_B10Orders.l0 k (([] : List (S119))) (wrap64 (14 + bt958.1)) (wrap64 (1 + bt961.1)) bt951.1 bt961.2.1 bt961.2.2)))) = some (r1, r2, r3) := h
  clear h
  replace H := Option.bind_eq_some_iff.mp H
  obtain ⟨⟨t951, t952, t953⟩, A20, H⟩ := H
  replace H : ((spec_l00Src_pick.f t951 t952 t953 20).bind fun bt958 => ((spec_l00Src_pick.f t951 bt958.2.1 bt958.2.2 5).bind fun bt961 => (spec_B10Orders.l0 k (([] : List (S119))) (wrap64 (14 + bt958.1)) (wrap64 (1 + bt961.1)) t951 bt961.2.1 bt961.2.2))) = some (r1, r2, r3) := H
  have A2 := Aside0.mk A20
  clear A20
  obtain ⟨y955, hy955⟩ : ∃ y_ : List (S119), y_ = (([] : List (S119))) := ⟨_, rfl⟩
  replace H : ((spec_l00Src_pick.f t951 t952 t953 20).bind fun bt958 => ((spec_l00Src_pick.f t951 bt958.2.1 bt958.2.2 5).bind fun bt961 => (spec_B10Orders.l0 k y955 (wrap64 (14 + bt958.1)) (wrap64 (1 + bt961.1)) t951 bt961.2.1 bt961.2.2))) = some (r1, r2, r3) := by first | (rw [hy955]; with_reducible exact H) | (have H2_ := (Option.bind_some _ _).symm.trans H; rw [hy955]; with_reducible exact H2_) | (have H2_ := (Option.bind_some _ _).symm.trans H; with_reducible exact H2_) | with_reducible exact H | (rw [hy955]; exact H) | exact H
  have Ny955 := Aside0.mk hy955
  clear hy955
  replace H := Option.bind_eq_some_iff.mp H
  obtain ⟨⟨t958, t959, t960⟩, A30, H⟩ := H
  replace H : ((spec_l00Src_pick.f t951 t959 t960 5).bind fun bt961 => (spec_B10Orders.l0 k y955 (wrap64 (14 + t958)) (wrap64 (1 + bt961.1)) t951 bt961.2.1 bt961.2.2)) = some (r1, r2, r3) := H
  have A3 := Aside0.mk A30
  clear A30
  replace H := Option.bind_eq_some_iff.mp H
  obtain ⟨⟨t961, t962, t963⟩, A40, H⟩ := H
  replace H : (spec_B10Orders.l0 k y955 (wrap64 (14 + t958)) (wrap64 (1 + t961)) t951 t962 t963) = some (r1, r2, r3) := H
  have A4 := Aside0.mk A40
  clear A40
  have H' := Aside0.mk H
  clear H
  go_enter Try.func61, Try.ntmps61
  go_wp2_with (first | ((with_reducible refine gate_callee (f := 74) rfl ?_); refine goesL_ (some 10) rfl rfl Try.func74 (by kernel_rfl) rfl #[.slice A0 l0.length c0] rfl (by (try simp only [List.map_toArray, List.map_cons, List.map_nil]); first | done | rfl | (simp only [List.length_drop, List.length_take]; rfl)) ?_; (with_reducible refine (spec_l00From.calls _ _ l0 t951 t952 t953 w _ ?side1 ?side2 ?side3 A2.out).mono ?_); (case side1 => repeat (first | (with_reducible first | exact HB.out | apply below_alloc | apply pw_below_drewN | apply below_drew1) | exact HB.out)); (case side2 => exact HR0.out); (case side3 => exact HC0.out); rintro e w5 ⟨g954, rfl, hi, hb, hb2⟩; refine ⟨_, rfl, ?_⟩; have n0_ := Aside0.mk (hb); have n1_ := Aside0.mk (hi); clear HB; have HB := n0_; have HI954 := n1_; clear n0_ n1_; (try clear hb); (try clear hb2); (try clear hk); (try clear hi)) | ((with_reducible refine gate_dst (N := 11) rfl ?_); refine Kd.R_lit k119 _ 119 ?hg (N := 11) ?hd (xs := ([] : List (S119))) (inner := []) (ok := fun _ => True) (okp := fun _ => True) ?hr ?hp (fun _ hk => hk) trivial (Below.refl _ _) (Nat.le_refl _) (by simp) ?_; (case hd => rfl); (case hg => rfl); (case hr => first | (go_simp; done) | (go_simp; rfl)); (case hp => exact (Reps.none _ _)); intro v956 w6 ho7 hb hg_ hnew_; clear hg_ hnew_; (first | rw [← Ny955.out] at ho7 | (simp only [Int.reduceToNat] at ho7; rw [← Ny955.out] at ho7)); have n0_ := Aside0.mk (Kd.R_lower ho7 (below_size (by repeat (first | (with_reducible first | exact HB.out | apply below_alloc | apply pw_below_drewN | apply below_drew1 | refine below_set ?_ (IsS133.ge HI954.out)) | exact HB.out)))); have n1_ := Aside0.mk (IsS133.below (by repeat (first | (with_reducible first | exact HI954.out | apply IsS133.alloc | apply IsS133.drewN | apply IsS133.drew | apply IsS133.set_1 | apply IsS133.set_2) | exact HI954.out)) hb); have n2_ := Aside0.mk (below_step (by repeat (first | (with_reducible first | exact HB.out | apply below_alloc | apply pw_below_drewN | apply below_drew1 | refine below_set ?_ (IsS133.ge HI954.out)) | exact HB.out)) hb); clear HI954; clear HB; have HO957 := n0_; have HI954 := n1_; have HB := n2_; clear n0_ n1_ n2_; clear hb ho7) | ((with_reducible refine gate_callee (f := 75) rfl ?_); refine goesL_ (some 13) rfl rfl Try.func75 (by kernel_rfl) rfl #[.pointer (some ⟨g954, 0, none⟩), .int .i64 20] rfl (by (try simp only [List.map_toArray, List.map_cons, List.map_nil]); first | done | rfl | (simp only [List.length_drop, List.length_take]; rfl)) ?_; (with_reducible refine (spec_l00Src_pick.calls g954 t951 t952 t953 20 t958 t959 t960 w _ ?side1 ?side2 A3.out).mono ?_); (case side1 => repeat (first | (with_reducible first | exact HI954.out | apply IsS133.alloc | apply IsS133.drewN | apply IsS133.drew | apply IsS133.set_1 | apply IsS133.set_2) | exact HI954.out)); (case side2 => repeat (first | (with_reducible first | exact HB.out | apply below_alloc | apply pw_below_drewN | apply below_drew1 | refine below_set ?_ (IsS133.ge HI954.out)) | exact HB.out)); rintro e w8 ⟨rfl, hi, hb, hk⟩; refine ⟨_, rfl, ?_⟩; have n0_ := Aside0.mk (Kd.R_mono (Kd.R_keep (IsS133.apart (show IsS133 w _ g954 t951 t952 t953 from by repeat (first | (with_reducible first | exact HI954.out | apply IsS133.alloc | apply IsS133.drewN | apply IsS133.drew | apply IsS133.set_1 | apply IsS133.set_2) | exact HI954.out)) (by (with_reducible repeat (first | apply Kd.R_alloc | apply Kd.R_drewN | apply Kd.R_drew)); exact HO957.out) (by decide)) hk (fun _ h => h.2)) (fun _ h => h.1)); have n1_ := Aside0.mk (hb); have n2_ := Aside0.mk (hi); clear HO957; clear HB; clear HI954; have HO957 := n0_; have HB := n1_; have HI954 := n2_; clear n0_ n1_ n2_; (try clear hb); (try clear hb2); (try clear hk); (try clear hi)) | ((with_reducible refine gate_callee (f := 75) rfl ?_); refine goesL_ (some 16) rfl rfl Try.func75 (by kernel_rfl) rfl #[.pointer (some ⟨g954, 0, none⟩), .int .i64 5] rfl (by (try simp only [List.map_toArray, List.map_cons, List.map_nil]); first | done | rfl | (simp only [List.length_drop, List.length_take]; rfl)) ?_; (with_reducible refine (spec_l00Src_pick.calls g954 t951 t959 t960 5 t961 t962 t963 w _ ?side1 ?side2 A4.out).mono ?_); (case side1 => repeat (first | (with_reducible first | exact HI954.out | apply IsS133.alloc | apply IsS133.drewN | apply IsS133.drew | apply IsS133.set_1 | apply IsS133.set_2) | exact HI954.out)); (case side2 => repeat (first | (with_reducible first | exact HB.out | apply below_alloc | apply pw_below_drewN | apply below_drew1 | refine below_set ?_ (IsS133.ge HI954.out)) | exact HB.out)); rintro e w9 ⟨rfl, hi, hb, hk⟩; refine ⟨_, rfl, ?_⟩; have n0_ := Aside0.mk (Kd.R_mono (Kd.R_keep (IsS133.apart (show IsS133 w _ g954 t951 t959 t960 from by repeat (first | (with_reducible first | exact HI954.out | apply IsS133.alloc | apply IsS133.drewN | apply IsS133.drew | apply IsS133.set_1 | apply IsS133.set_2) | exact HI954.out)) (by (with_reducible repeat (first | apply Kd.R_alloc | apply Kd.R_drewN | apply Kd.R_drew)); exact HO957.out) (by decide)) hk (fun _ h => h.2)) (fun _ h => h.1)); have n1_ := Aside0.mk (hb); have n2_ := Aside0.mk (hi); clear HO957; clear HB; clear HI954; have HO957 := n0_; have HB := n1_; have HI954 := n2_; clear n0_ n1_ n2_; (try clear hb); (try clear hb2); (try clear hk); (try clear hi)))
  go_loopg [6, 7, 8] k (fun kq v6 v7 v8 w' => ∃ (x6_1 : List (S119)) (x7_1 : Int) (x8_1 : Int) (x955001_1 : Int) (x955002_1 : Int), v7 = .int .i64 x7_1 ∧ v8 = .int .i64 x8_1 ∧ Aside0 (spec_B10Orders.l0 kq x6_1 x7_1 x8_1 t951 x955001_1 x955002_1 = some (r1, r2, r3)) ∧ Aside0 (kq ≤ k) ∧ Aside0 (Kd.R k119 119 w' w.heap.size (fun _ => True) v6 x6_1) ∧ Aside0 (IsS133 w w' g954 t951 x955001_1 x955002_1) ∧ Aside0 (Below w.heap.size w w'))
  case atStart => exact ⟨(y955), (wrap64 (14 + t958)), (wrap64 (1 + t961)), (t962), (t963), (by first | rfl | (simp; done) | (simp [*]; done) | (simp [Int.tdiv_eq_ediv_of_nonneg, *]; done)), (by first | rfl | (simp; done) | (simp [*]; done) | (simp [Int.tdiv_eq_ediv_of_nonneg, *]; done)), H', ⟨Nat.le_refl _⟩, ⟨by (with_reducible repeat (first | apply Kd.R_alloc | apply Kd.R_drewN | apply Kd.R_drew)); exact HO957.out⟩, ⟨by repeat (first | (with_reducible first | exact HI954.out | apply IsS133.alloc | apply IsS133.drewN | apply IsS133.drew | apply IsS133.set_1 | apply IsS133.set_2) | exact HI954.out)⟩, ⟨by repeat (first | (with_reducible first | exact HB.out | apply below_alloc | apply pw_below_drewN | apply below_drew1 | refine below_set ?_ (IsS133.ge HI954.out)) | exact HB.out)⟩⟩
  case round =>
    clear H'
    try clear p2
    try clear c6
    try clear p6
    try clear c7
    obtain ⟨x6_1, x7_1, x8_1, x955001_1, x955002_1, rfl, rfl, HA, HK1, HO_6, HI954, HB⟩ := hrel
    cases gk with
    | zero => exact absurd HA.out (by simp [spec_B10Orders.l0])
    | succ k1 =>
      have H := HA.out
      clear HA
      simp only [spec_B10Orders.l0] at H
      by_cases c10 : x8_1 > 0
      · rw [if_pos c10] at H
        have c10b0 : decide (0 < x8_1) = true := decide_eq_true c10
        clear c10
        replace H := Option.bind_eq_some_iff.mp H
        obtain ⟨⟨t964, t965, t966⟩, A110, H⟩ := H
        replace H : (if x6_1.length < 8796093022208 then ((spec_l00Src_pick.f t951 t965 t966 12).bind fun bt970 => (spec_B10Orders.l0 k1 (x6_1 ++ [(⟨x7_1, wrap64 (1 + t964)⟩ : S119)]) (wrap64 (x7_1 + (wrap64 (1 + bt970.1)))) (wrap64 (x8_1 - 1)) t951 bt970.2.1 bt970.2.2)) else (none)) = some (r1, r2, r3) := H
        have A11 := Aside0.mk A110
        clear A110
        by_cases c12 : x6_1.length < 8796093022208
        · rw [if_pos c12] at H
          have LMc12 := Aside0.mk c12
          clear c12
          obtain ⟨y967, hy967⟩ : ∃ y_ : List (S119), y_ = (x6_1 ++ [(⟨x7_1, wrap64 (1 + t964)⟩ : S119)]) := ⟨_, rfl⟩
          replace H : ((spec_l00Src_pick.f t951 t965 t966 12).bind fun bt970 => (spec_B10Orders.l0 k1 y967 (wrap64 (x7_1 + (wrap64 (1 + bt970.1)))) (wrap64 (x8_1 - 1)) t951 bt970.2.1 bt970.2.2)) = some (r1, r2, r3) := by first | (rw [hy967]; with_reducible exact H) | (have H2_ := (Option.bind_some _ _).symm.trans H; rw [hy967]; with_reducible exact H2_) | (have H2_ := (Option.bind_some _ _).symm.trans H; with_reducible exact H2_) | with_reducible exact H | (rw [hy967]; exact H) | exact H
          have Ny967 := Aside0.mk hy967
          clear hy967
          replace H := Option.bind_eq_some_iff.mp H
          obtain ⟨⟨t970, t971, t972⟩, A130, H⟩ := H
          replace H : (spec_B10Orders.l0 k1 y967 (wrap64 (x7_1 + (wrap64 (1 + t970)))) (wrap64 (x8_1 - 1)) t951 t971 t972) = some (r1, r2, r3) := H
          have A13 := Aside0.mk A130
          clear A130
          have H' := Aside0.mk H
          clear H
          go_wp2_with (first | ((with_reducible refine gate_callee (f := 75) rfl ?_); refine goesL_ (some 25) rfl rfl Try.func75 (by kernel_rfl) rfl #[.pointer (some ⟨g954, 0, none⟩), .int .i64 12] rfl (by (try simp only [List.map_toArray, List.map_cons, List.map_nil]); first | done | rfl | (simp only [List.length_drop, List.length_take]; rfl)) ?_; (with_reducible refine (spec_l00Src_pick.calls g954 t951 x955001_1 x955002_1 12 t964 t965 t966 w _ ?side1 ?side2 A11.out).mono ?_); (case side1 => repeat (first | (with_reducible first | exact HI954.out | apply IsS133.alloc | apply IsS133.drewN | apply IsS133.drew | apply IsS133.set_1 | apply IsS133.set_2) | exact HI954.out)); (case side2 => repeat (first | (with_reducible first | exact HB.out | apply below_alloc | apply pw_below_drewN | apply below_drew1 | refine below_set ?_ (IsS133.ge HI954.out)) | exact HB.out)); rintro e w14 ⟨rfl, hi, hb, hk⟩; refine ⟨_, rfl, ?_⟩; have n0_ := Aside0.mk (Kd.R_mono (Kd.R_keep (IsS133.apart (show IsS133 w _ g954 t951 x955001_1 x955002_1 from by repeat (first | (with_reducible first | exact HI954.out | apply IsS133.alloc | apply IsS133.drewN | apply IsS133.drew | apply IsS133.set_1 | apply IsS133.set_2) | exact HI954.out)) (by (with_reducible repeat (first | apply Kd.R_alloc | apply Kd.R_drewN | apply Kd.R_drew)); exact HO_6.out) (by decide)) hk (fun _ h => h.2)) (fun _ h => h.1)); have n1_ := Aside0.mk (hb); have n2_ := Aside0.mk (hi); clear HO_6; clear HB; clear HI954; have HO_6 := n0_; have HB := n1_; have HI954 := n2_; clear n0_ n1_ n2_; (try clear hb); (try clear hb2); (try clear hk); (try clear hi)) | ((with_reducible refine gate_builtin (b := .append) (xs := #[.tmp 22, .tmp 28]) rfl ?_); at_builtin; refine Kd.R_append k119 (w0 := w) w.heap.size rfl (.tmp 22) (.tmp 28) 71 119 (.agg #[(.int .i64 0), (.int .i64 0)]) 16 rfl Try.underlying71 info119 rfl (by decide) (by omega) u6 x6_1 (⟨x7_1, wrap64 (1 + t964)⟩ : S119) [.int .i64 x7_1, .int .i64 (wrap64 (1 + t964))] (fun _ => True) (fun _ => False) rfl rfl ?aP (fun _ hk => hk.elim) ?aF ?aO ?aB ?aS ?aL ?_; (case aP => exact k119_mkM _ _ _ (⟨x7_1, wrap64 (1 + t964)⟩ : S119)); (case aB => exact (by repeat (first | (with_reducible first | exact HB.out | apply below_alloc | apply pw_below_drewN | apply below_drew1 | refine below_set ?_ (IsS133.ge HI954.out)) | exact HB.out))); (case aF => exact (fun _ _ => trivial)); (case aO => exact (by (with_reducible repeat (first | apply Kd.R_alloc | apply Kd.R_drewN | apply Kd.R_drew)); exact HO_6.out)); (case aS => exact (below_size (by repeat (first | (with_reducible first | exact HB.out | apply below_alloc | apply pw_below_drewN | apply below_drew1 | refine below_set ?_ (IsS133.ge HI954.out)) | exact HB.out)))); (case aL => have := LMc12.out; omega); intro v968 w15 ho hb hg hat; rw [← Ny967.out] at ho; have n0_ := Aside0.mk (IsS133.grown (by repeat (first | (with_reducible first | exact HI954.out | apply IsS133.alloc | apply IsS133.drewN | apply IsS133.drew | apply IsS133.set_1 | apply IsS133.set_2) | exact HI954.out)) hg (IsS133.own_ne HI954.out HO_6.out (by decide))); have n1_ := Aside0.mk (hb); have n2_ := Aside0.mk (ho); clear HI954; clear HB; clear HO_6; have HI954 := n0_; have HB := n1_; have HO969 := n2_; clear n0_ n1_ n2_; clear ho hb hg hat) | ((with_reducible refine gate_callee (f := 75) rfl ?_); refine goesL_ (some 32) rfl rfl Try.func75 (by kernel_rfl) rfl #[.pointer (some ⟨g954, 0, none⟩), .int .i64 12] rfl (by (try simp only [List.map_toArray, List.map_cons, List.map_nil]); first | done | rfl | (simp only [List.length_drop, List.length_take]; rfl)) ?_; (with_reducible refine (spec_l00Src_pick.calls g954 t951 t965 t966 12 t970 t971 t972 w _ ?side1 ?side2 A13.out).mono ?_); (case side1 => repeat (first | (with_reducible first | exact HI954.out | apply IsS133.alloc | apply IsS133.drewN | apply IsS133.drew | apply IsS133.set_1 | apply IsS133.set_2) | exact HI954.out)); (case side2 => repeat (first | (with_reducible first | exact HB.out | apply below_alloc | apply pw_below_drewN | apply below_drew1 | refine below_set ?_ (IsS133.ge HI954.out)) | exact HB.out)); rintro e w16 ⟨rfl, hi, hb, hk⟩; refine ⟨_, rfl, ?_⟩; have n0_ := Aside0.mk (Kd.R_mono (Kd.R_keep (IsS133.apart (show IsS133 w _ g954 t951 t965 t966 from by repeat (first | (with_reducible first | exact HI954.out | apply IsS133.alloc | apply IsS133.drewN | apply IsS133.drew | apply IsS133.set_1 | apply IsS133.set_2) | exact HI954.out)) (by (with_reducible repeat (first | apply Kd.R_alloc | apply Kd.R_drewN | apply Kd.R_drew)); exact HO969.out) (by decide)) hk (fun _ h => h.2)) (fun _ h => h.1)); have n1_ := Aside0.mk (hb); have n2_ := Aside0.mk (hi); clear HO969; clear HB; clear HI954; have HO969 := n0_; have HB := n1_; have HI954 := n2_; clear n0_ n1_ n2_; (try clear hb); (try clear hb2); (try clear hk); (try clear hi)))
          go_roundg k1
          case measure => have := HK1.out; omega
          case rel => exact ⟨(y967), (wrap64 (x7_1 + (wrap64 (1 + t970)))), (wrap64 (x8_1 - 1)), (t971), (t972), (by first | rfl | (simp; done) | (simp [*]; done) | (simp [Int.tdiv_eq_ediv_of_nonneg, *]; done)), (by first | rfl | (simp; done) | (simp [*]; done) | (simp [Int.tdiv_eq_ediv_of_nonneg, *]; done)), H', ⟨by have := HK1.out; omega⟩, ⟨by (with_reducible repeat (first | apply Kd.R_alloc | apply Kd.R_drewN | apply Kd.R_drew)); exact HO969.out⟩, ⟨by repeat (first | (with_reducible first | exact HI954.out | apply IsS133.alloc | apply IsS133.drewN | apply IsS133.drew | apply IsS133.set_1 | apply IsS133.set_2) | exact HI954.out)⟩, ⟨by repeat (first | (with_reducible first | exact HB.out | apply below_alloc | apply pw_below_drewN | apply below_drew1 | refine below_set ?_ (IsS133.ge HI954.out)) | exact HB.out)⟩⟩
        · rw [if_neg c12] at H
          exact absurd H (by simp)
      · rw [if_neg c10] at H
        have c10b0 : decide (0 < x8_1) = false := decide_eq_false c10
        clear c10
        replace H := Option.bind_eq_some_iff.mp H
        obtain ⟨⟨t973, t974, t975⟩, A170, H⟩ := H
        replace H : ((spec_l00Src_pick.f t951 t974 t975 9).bind fun bt976 => (some (x6_1, wrap64 (1 + t973), bt976.1))) = some (r1, r2, r3) := H
        have A17 := Aside0.mk A170
        clear A170
        replace H := Option.bind_eq_some_iff.mp H
        obtain ⟨⟨t976, t977, t978⟩, A180, H⟩ := H
        replace H : (some (x6_1, wrap64 (1 + t973), t976)) = some (r1, r2, r3) := H
        have A18 := Aside0.mk A180
        clear A180
        simp only [Option.some.injEq, Prod.mk.injEq] at H
        obtain ⟨rfl, rfl, rfl⟩ := H
        go_wp2_with (first | ((with_reducible refine gate_callee (f := 75) rfl ?_); refine goesL_ (some 37) rfl rfl Try.func75 (by kernel_rfl) rfl #[.pointer (some ⟨g954, 0, none⟩), .int .i64 4] rfl (by (try simp only [List.map_toArray, List.map_cons, List.map_nil]); first | done | rfl | (simp only [List.length_drop, List.length_take]; rfl)) ?_; (with_reducible refine (spec_l00Src_pick.calls g954 t951 x955001_1 x955002_1 4 t973 t974 t975 w _ ?side1 ?side2 A17.out).mono ?_); (case side1 => repeat (first | (with_reducible first | exact HI954.out | apply IsS133.alloc | apply IsS133.drewN | apply IsS133.drew | apply IsS133.set_1 | apply IsS133.set_2) | exact HI954.out)); (case side2 => repeat (first | (with_reducible first | exact HB.out | apply below_alloc | apply pw_below_drewN | apply below_drew1 | refine below_set ?_ (IsS133.ge HI954.out)) | exact HB.out)); rintro e w19 ⟨rfl, hi, hb, hk⟩; refine ⟨_, rfl, ?_⟩; have n0_ := Aside0.mk (Kd.R_mono (Kd.R_keep (IsS133.apart (show IsS133 w _ g954 t951 x955001_1 x955002_1 from by repeat (first | (with_reducible first | exact HI954.out | apply IsS133.alloc | apply IsS133.drewN | apply IsS133.drew | apply IsS133.set_1 | apply IsS133.set_2) | exact HI954.out)) (by (with_reducible repeat (first | apply Kd.R_alloc | apply Kd.R_drewN | apply Kd.R_drew)); exact HO_6.out) (by decide)) hk (fun _ h => h.2)) (fun _ h => h.1)); have n1_ := Aside0.mk (hb); have n2_ := Aside0.mk (hi); clear HO_6; clear HB; clear HI954; have HO_6 := n0_; have HB := n1_; have HI954 := n2_; clear n0_ n1_ n2_; (try clear hb); (try clear hb2); (try clear hk); (try clear hi)) | ((with_reducible refine gate_callee (f := 75) rfl ?_); refine goesL_ (some 40) rfl rfl Try.func75 (by kernel_rfl) rfl #[.pointer (some ⟨g954, 0, none⟩), .int .i64 9] rfl (by (try simp only [List.map_toArray, List.map_cons, List.map_nil]); first | done | rfl | (simp only [List.length_drop, List.length_take]; rfl)) ?_; (with_reducible refine (spec_l00Src_pick.calls g954 t951 t974 t975 9 t976 t977 t978 w _ ?side1 ?side2 A18.out).mono ?_); (case side1 => repeat (first | (with_reducible first | exact HI954.out | apply IsS133.alloc | apply IsS133.drewN | apply IsS133.drew | apply IsS133.set_1 | apply IsS133.set_2) | exact HI954.out)); (case side2 => repeat (first | (with_reducible first | exact HB.out | apply below_alloc | apply pw_below_drewN | apply below_drew1 | refine below_set ?_ (IsS133.ge HI954.out)) | exact HB.out)); rintro e w20 ⟨rfl, hi, hb, hk⟩; refine ⟨_, rfl, ?_⟩; have n0_ := Aside0.mk (Kd.R_mono (Kd.R_keep (IsS133.apart (show IsS133 w _ g954 t951 t974 t975 from by repeat (first | (with_reducible first | exact HI954.out | apply IsS133.alloc | apply IsS133.drewN | apply IsS133.drew | apply IsS133.set_1 | apply IsS133.set_2) | exact HI954.out)) (by (with_reducible repeat (first | apply Kd.R_alloc | apply Kd.R_drewN | apply Kd.R_drew)); exact HO_6.out) (by decide)) hk (fun _ h => h.2)) (fun _ h => h.1)); have n1_ := Aside0.mk (hb); have n2_ := Aside0.mk (hi); clear HO_6; clear HB; clear HI954; have HO_6 := n0_; have HB := n1_; have HI954 := n2_; clear n0_ n1_ n2_; (try clear hb); (try clear hb2); (try clear hk); (try clear hi)))
        go_ret3
        exact ⟨_, by first | rfl | (simp [errW_none, errW_some] <;> rfl) | (simp [*, errW_none, errW_some] <;> rfl) | (simp [Int.tdiv_eq_ediv_of_nonneg, *]; done), by (with_reducible repeat (first | apply Kd.R_alloc | apply Kd.R_drewN | apply Kd.R_drew)); exact HO_6.out, by repeat (first | (with_reducible first | exact HB.out | apply below_alloc | apply pw_below_drewN | apply below_drew1 | refine below_set ?_ (IsS133.ge HI954.out)) | exact HB.out)⟩

/-! ### impl_ShortDays: function 64 -/
def impl_ShortDays.f (k : Nat) (a0_0 : Int) (a0_1 : Int) (a0_2 : Int) (l1 : List (S119)) : Option (List Int × Bool) := (impl_ValidWorks.f a0_0 a0_1 a0_2).bind fun t980 => (if t980 = true then ((impl_ValidOrders.f k l1).bind fun t981 => (if t981 = true then ((impl_Works_short.f k a0_0 a0_1 a0_2 l1 0).bind fun t982 => (some (t982, true))) else (some (([] : List Int), false)))) else (some (([] : List Int), false)))
theorem impl_ShortDays.mono : ∀ a0 a1 a2 a3 k, LeO (impl_ShortDays.f k a0 a1 a2 a3) (impl_ShortDays.f (k + 1) a0 a1 a2 a3) := by
  intro a0 a1 a2 a3 k
  unfold impl_ShortDays.f
  repeat' first
      | (with_reducible exact impl_ValidOrders.mono _ _)
      | (with_reducible exact impl_Works_short.mono _ _ _ _ _ _)
      | (with_reducible exact LeO.refl _)
      | (with_reducible exact LeO.none _)
      | (with_reducible refine LeO.ite ?_ ?_)
      | (with_reducible refine LeO.bind ?_ (fun _ => ?_))
      | exact impl_ValidOrders.mono _ _
      | exact impl_Works_short.mono _ _ _ _ _ _
      | exact LeO.none _
      | refine LeO.ite ?_ ?_
      | refine LeO.bind ?_ (fun _ => ?_)
set_option maxHeartbeats 8000000 in
set_option maxRecDepth 100000 in
theorem impl_ShortDays.calls (k : Nat) (a0_0 : Int) (a0_1 : Int) (a0_2 : Int) (A1 : Option Addr) (c1 : Nat) (l1 : List (S119)) (r1 : List Int) (r2 : Bool) (w : World) (hr1 : Kd.C k119 w A1 l1.length l1) (hc1 : l1.length ≤ c1) (h : impl_ShortDays.f k a0_0 a0_1 a0_2 l1 = some (r1, r2)) :
    Calls Try.prog 64 #[.agg #[.int .i64 a0_0, .int .i64 a0_1, .int .i64 a0_2], .slice A1 l1.length c1] w fun e w' => ∃ v0_ : Value, e = .returned (.tuple #[v0_, .bool r2]) ∧ Kd.R (Kd.int .i64) 2 w' w.heap.size (fun _ => True) v0_ r1 ∧ Below w.heap.size w w' := by
  have hu81 := Try.underlying81
  have HR1 := Aside0.mk hr1
  have HC1 := Aside0.mk hc1
  clear hr1 hc1
  have HB := Aside0.mk (Below.refl w.heap.size w)
  have H : ((impl_ValidWorks.f a0_0 a0_1 a0_2).bind fun t980 => (if t980 = true then ((impl_ValidOrders.f k l1).bind fun t981 => (if t981 = true then ((impl_Works_short.f k a0_0 a0_1 a0_2 l1 0).bind fun t982 => (some (t982, true))) else (some (([] : List Int), false)))) else (some (([] : List Int), false)))) = some (r1, r2) := h
  clear h
  replace H := Option.bind_eq_some_iff.mp H
  obtain ⟨t980, A30, H⟩ := H
  replace H : (if t980 = true then ((impl_ValidOrders.f k l1).bind fun t981 => (if t981 = true then ((impl_Works_short.f k a0_0 a0_1 a0_2 l1 0).bind fun t982 => (some (t982, true))) else (some (([] : List Int), false)))) else (some (([] : List Int), false))) = some (r1, r2) := H
  have A3 := Aside0.mk A30
  clear A30
  by_cases c4 : t980 = true
  · subst c4
    have H1 : ((impl_ValidOrders.f k l1).bind fun t981 => (if t981 = true then ((impl_Works_short.f k a0_0 a0_1 a0_2 l1 0).bind fun t982 => (some (t982, true))) else (some (([] : List Int), false)))) = some (r1, r2) := by rw [if_pos rfl] at H; exact H
    clear H
    have H := H1
    clear H1
    replace H := Option.bind_eq_some_iff.mp H
    obtain ⟨t981, A50, H⟩ := H
    replace H : (if t981 = true then ((impl_Works_short.f k a0_0 a0_1 a0_2 l1 0).bind fun t982 => (some (t982, true))) else (some (([] : List Int), false))) = some (r1, r2) := H
    have A5 := Aside0.mk A50
    clear A50
    by_cases c6 : t981 = true
    · subst c6
      have H1 : ((impl_Works_short.f k a0_0 a0_1 a0_2 l1 0).bind fun t982 => (some (t982, true))) = some (r1, r2) := by rw [if_pos rfl] at H; exact H
      clear H
      have H := H1
      clear H1
      replace H := Option.bind_eq_some_iff.mp H
      obtain ⟨t982, A70, H⟩ := H
      replace H : (some (t982, true)) = some (r1, r2) := H
      have A7 := Aside0.mk A70
      clear A70
      simp only [Option.some.injEq, Prod.mk.injEq] at H
      obtain ⟨rfl, rfl⟩ := H
      go_enter Try.func64, Try.ntmps64
      go_wp2_with (first | ((with_reducible refine gate_dst (N := 2) rfl ?_); refine box_event ?hg (N := 2) ?hd (cs := #[.int .i64 a0_0, .int .i64 a0_1, .int .i64 a0_2]) (t := 81) ?hr ?_; (case hd => rfl); (case hg => rfl); (case hr => first | (go_simp; done) | (go_simp; rfl)); intro gb979 hg w8 hbox hb; have n0_ := Aside0.mk (below_step (by repeat (first | (with_reducible first | exact HB.out | apply below_alloc | apply pw_below_drewN | apply below_drew1) | exact HB.out)) hb); have n1_ := Aside0.mk (hbox); have n2_ := Aside0.mk ((by rw [hg]; exact (below_size (by repeat (first | (with_reducible first | exact HB.out | apply below_alloc | apply pw_below_drewN | apply below_drew1) | exact HB.out))) : w.heap.size ≤ gb979)); have n3_ := Aside0.mk ((by rw [hg]; exact (below_size (by repeat (first | (with_reducible first | exact HB.out | apply below_alloc | apply pw_below_drewN | apply below_drew1) | exact HB.out))) : w.heap.size ≤ gb979)); clear HB; have HB := n0_; have BK979 := n1_; have GW979 := n2_; have GE979 := n3_; clear n0_ n1_ n2_ n3_; clear hb hbox hg; have hcz9_0 : w8.cell? ⟨gb979, 0, none⟩ = some (.int .i64 a0_0) := (blk_cell BK979.out 0).trans rfl; have hcz9_1 : w8.cell? ⟨gb979, 1, none⟩ = some (.int .i64 a0_1) := (blk_cell BK979.out 1).trans rfl; have hcz9_2 : w8.cell? ⟨gb979, 2, none⟩ = some (.int .i64 a0_2) := (blk_cell BK979.out 2).trans rfl; have hfz9_0 := blk_frozen BK979.out 0; have hfz9_1 := blk_frozen BK979.out 1; have hfz9_2 := blk_frozen BK979.out 2) | ((with_reducible refine gate_callee (f := 63) rfl ?_); refine goesL_ (some 7) rfl rfl Try.func63 (by kernel_rfl) rfl #[.agg #[.int .i64 a0_0, .int .i64 a0_1, .int .i64 a0_2]] rfl (by (try simp only [List.map_toArray, List.map_cons, List.map_nil]); first | done | rfl | (simp only [List.length_drop, List.length_take]; rfl)) ?_; (with_reducible refine (impl_ValidWorks.calls a0_0 a0_1 a0_2 true _ A3.out).mono ?_); rintro e w10 ⟨rfl, hb⟩; refine ⟨_, rfl, ?_⟩; have n0_ := Aside0.mk (blk_below (g := gb979) (o := .cells #[.int .i64 a0_0, .int .i64 a0_1, .int .i64 a0_2] 81 (0, 0)) (by (with_reducible repeat (first | refine blk_drewN ?_ _ | refine blk_drew ?_ | refine blk_alloc ?_ _)); exact BK979.out) hb); have n1_ := Aside0.mk (below_step (by repeat (first | (with_reducible first | exact HB.out | apply below_alloc | apply pw_below_drewN | apply below_drew1 | refine below_set ?_ GE979.out) | exact HB.out)) hb); clear BK979; clear HB; have BK979 := n0_; have HB := n1_; clear n0_ n1_; (try clear hb); (try clear hb2); (try clear hk); (try clear hi)) | (go_at_call 62; (with_reducible refine (impl_ValidOrders.calls k _ _ l1 true _ ?side1 ?side2 A5.out).mono ?_); (case side1 => repeat (first | exact (Kd.C_below HR1.out HB.out) | (with_reducible refine Kd.C_alloc ?_ _) | (with_reducible refine Kd.C_drewN ?_ _) | (with_reducible refine Kd.C_drew ?_))); (case side2 => exact HC1.out); rintro e w11 ⟨rfl, hb⟩; have n0_ := Aside0.mk (blk_below (g := gb979) (o := .cells #[.int .i64 a0_0, .int .i64 a0_1, .int .i64 a0_2] 81 (0, 0)) (by (with_reducible repeat (first | refine blk_drewN ?_ _ | refine blk_drew ?_ | refine blk_alloc ?_ _)); exact BK979.out) hb); have n1_ := Aside0.mk (below_step (by repeat (first | (with_reducible first | exact HB.out | apply below_alloc | apply pw_below_drewN | apply below_drew1 | refine below_set ?_ GE979.out) | exact HB.out)) hb); clear BK979; clear HB; have BK979 := n0_; have HB := n1_; clear n0_ n1_; (try clear hb); (try clear hb2); (try clear hk); (try clear hi); have hcz12_0 : w11.cell? ⟨gb979, 0, none⟩ = some (.int .i64 a0_0) := (blk_cell BK979.out 0).trans rfl; have hcz12_1 : w11.cell? ⟨gb979, 1, none⟩ = some (.int .i64 a0_1) := (blk_cell BK979.out 1).trans rfl; have hcz12_2 : w11.cell? ⟨gb979, 2, none⟩ = some (.int .i64 a0_2) := (blk_cell BK979.out 2).trans rfl; have hfz12_0 := blk_frozen BK979.out 0; have hfz12_1 := blk_frozen BK979.out 1; have hfz12_2 := blk_frozen BK979.out 2) | ((with_reducible refine gate_callee (f := 106) rfl ?_); refine goesL_ (some 16) rfl rfl Try.func106 (by kernel_rfl) rfl #[.agg #[.int .i64 a0_0, .int .i64 a0_1, .int .i64 a0_2], .slice A1 l1.length c1, .int .i64 0] rfl (by (try simp only [List.map_toArray, List.map_cons, List.map_nil]); first | done | rfl | (simp only [List.length_drop, List.length_take]; rfl)) ?_; (with_reducible refine (impl_Works_short.calls k a0_0 a0_1 a0_2 _ _ l1 0 t982 _ ?side1 ?side2 A7.out).mono ?_); (case side1 => repeat (first | exact (Kd.C_below HR1.out HB.out) | (with_reducible refine Kd.C_alloc ?_ _) | (with_reducible refine Kd.C_drewN ?_ _) | (with_reducible refine Kd.C_drew ?_))); (case side2 => exact HC1.out); rintro e w13 ⟨v983, rfl, ho0, hb⟩; refine ⟨_, rfl, ?_⟩; have n0_ := Aside0.mk (Kd.R_lower ho0 (below_size (by repeat (first | (with_reducible first | exact HB.out | apply below_alloc | apply pw_below_drewN | apply below_drew1 | refine below_set ?_ GE979.out) | exact HB.out)))); have n1_ := Aside0.mk (blk_below (g := gb979) (o := .cells #[.int .i64 a0_0, .int .i64 a0_1, .int .i64 a0_2] 81 (0, 0)) (by (with_reducible repeat (first | refine blk_drewN ?_ _ | refine blk_drew ?_ | refine blk_alloc ?_ _)); exact BK979.out) hb); have n2_ := Aside0.mk (below_step (by repeat (first | (with_reducible first | exact HB.out | apply below_alloc | apply pw_below_drewN | apply below_drew1 | refine below_set ?_ GE979.out) | exact HB.out)) hb); clear BK979; clear HB; have HO984 := n0_; have BK979 := n1_; have HB := n2_; clear n0_ n1_ n2_; (try clear hb); (try clear hb2); (try clear hk); (try clear hi); (try clear ho0)))
      go_ret2
      exact ⟨_, by first | rfl | (simp [errW_none, errW_some] <;> rfl) | (simp [*, errW_none, errW_some] <;> rfl) | (simp [Int.tdiv_eq_ediv_of_nonneg, *]; done), by (with_reducible repeat (first | apply Kd.R_alloc | apply Kd.R_drewN | apply Kd.R_drew)); exact HO984.out, by repeat (first | (with_reducible first | exact HB.out | apply below_alloc | apply pw_below_drewN | apply below_drew1 | refine below_set ?_ GE979.out) | exact HB.out)⟩
    · replace c6 := Bool.eq_false_iff.mpr c6
      subst c6
      have H1 : (some (([] : List Int), false)) = some (r1, r2) := by rw [if_neg (show ¬ (false = true) by decide)] at H; exact H
      clear H
      have H := H1
      clear H1
      simp only [Option.some.injEq, Prod.mk.injEq] at H
      obtain ⟨rfl, rfl⟩ := H
      go_enter Try.func64, Try.ntmps64
      go_wp2_with (first | ((with_reducible refine gate_dst (N := 2) rfl ?_); refine box_event ?hg (N := 2) ?hd (cs := #[.int .i64 a0_0, .int .i64 a0_1, .int .i64 a0_2]) (t := 81) ?hr ?_; (case hd => rfl); (case hg => rfl); (case hr => first | (go_simp; done) | (go_simp; rfl)); intro gb979 hg w14 hbox hb; have n0_ := Aside0.mk (below_step (by repeat (first | (with_reducible first | exact HB.out | apply below_alloc | apply pw_below_drewN | apply below_drew1) | exact HB.out)) hb); have n1_ := Aside0.mk (hbox); have n2_ := Aside0.mk ((by rw [hg]; exact (below_size (by repeat (first | (with_reducible first | exact HB.out | apply below_alloc | apply pw_below_drewN | apply below_drew1) | exact HB.out))) : w.heap.size ≤ gb979)); have n3_ := Aside0.mk ((by rw [hg]; exact (below_size (by repeat (first | (with_reducible first | exact HB.out | apply below_alloc | apply pw_below_drewN | apply below_drew1) | exact HB.out))) : w.heap.size ≤ gb979)); clear HB; have HB := n0_; have BK979 := n1_; have GW979 := n2_; have GE979 := n3_; clear n0_ n1_ n2_ n3_; clear hb hbox hg; have hcz15_0 : w14.cell? ⟨gb979, 0, none⟩ = some (.int .i64 a0_0) := (blk_cell BK979.out 0).trans rfl; have hcz15_1 : w14.cell? ⟨gb979, 1, none⟩ = some (.int .i64 a0_1) := (blk_cell BK979.out 1).trans rfl; have hcz15_2 : w14.cell? ⟨gb979, 2, none⟩ = some (.int .i64 a0_2) := (blk_cell BK979.out 2).trans rfl; have hfz15_0 := blk_frozen BK979.out 0; have hfz15_1 := blk_frozen BK979.out 1; have hfz15_2 := blk_frozen BK979.out 2) | ((with_reducible refine gate_callee (f := 63) rfl ?_); refine goesL_ (some 7) rfl rfl Try.func63 (by kernel_rfl) rfl #[.agg #[.int .i64 a0_0, .int .i64 a0_1, .int .i64 a0_2]] rfl (by (try simp only [List.map_toArray, List.map_cons, List.map_nil]); first | done | rfl | (simp only [List.length_drop, List.length_take]; rfl)) ?_; (with_reducible refine (impl_ValidWorks.calls a0_0 a0_1 a0_2 true _ A3.out).mono ?_); rintro e w16 ⟨rfl, hb⟩; refine ⟨_, rfl, ?_⟩; have n0_ := Aside0.mk (blk_below (g := gb979) (o := .cells #[.int .i64 a0_0, .int .i64 a0_1, .int .i64 a0_2] 81 (0, 0)) (by (with_reducible repeat (first | refine blk_drewN ?_ _ | refine blk_drew ?_ | refine blk_alloc ?_ _)); exact BK979.out) hb); have n1_ := Aside0.mk (below_step (by repeat (first | (with_reducible first | exact HB.out | apply below_alloc | apply pw_below_drewN | apply below_drew1 | refine below_set ?_ GE979.out) | exact HB.out)) hb); clear BK979; clear HB; have BK979 := n0_; have HB := n1_; clear n0_ n1_; (try clear hb); (try clear hb2); (try clear hk); (try clear hi)) | (go_at_call 62; (with_reducible refine (impl_ValidOrders.calls k _ _ l1 false _ ?side1 ?side2 A5.out).mono ?_); (case side1 => repeat (first | exact (Kd.C_below HR1.out HB.out) | (with_reducible refine Kd.C_alloc ?_ _) | (with_reducible refine Kd.C_drewN ?_ _) | (with_reducible refine Kd.C_drew ?_))); (case side2 => exact HC1.out); rintro e w17 ⟨rfl, hb⟩; have n0_ := Aside0.mk (blk_below (g := gb979) (o := .cells #[.int .i64 a0_0, .int .i64 a0_1, .int .i64 a0_2] 81 (0, 0)) (by (with_reducible repeat (first | refine blk_drewN ?_ _ | refine blk_drew ?_ | refine blk_alloc ?_ _)); exact BK979.out) hb); have n1_ := Aside0.mk (below_step (by repeat (first | (with_reducible first | exact HB.out | apply below_alloc | apply pw_below_drewN | apply below_drew1 | refine below_set ?_ GE979.out) | exact HB.out)) hb); clear BK979; clear HB; have BK979 := n0_; have HB := n1_; clear n0_ n1_; (try clear hb); (try clear hb2); (try clear hk); (try clear hi)))
      go_ret2
      exact ⟨_, by first | rfl | (simp [errW_none, errW_some] <;> rfl) | (simp [*, errW_none, errW_some] <;> rfl) | (simp [Int.tdiv_eq_ediv_of_nonneg, *]; done), by first | exact Kd.R_nil _ _ _ _ _ | exact Kd.N_nil _ _ _ _ _ | exact Kd.V_nil _ _ _ _ _ | exact Kd.Q_nil _ _ _ _ _ | exact Kd.S_nil _ _ _ _ _, by repeat (first | (with_reducible first | exact HB.out | apply below_alloc | apply pw_below_drewN | apply below_drew1 | refine below_set ?_ GE979.out) | exact HB.out)⟩
  · replace c4 := Bool.eq_false_iff.mpr c4
    subst c4
    have H1 : (some (([] : List Int), false)) = some (r1, r2) := by rw [if_neg (show ¬ (false = true) by decide)] at H; exact H
    clear H
    have H := H1
    clear H1
    simp only [Option.some.injEq, Prod.mk.injEq] at H
    obtain ⟨rfl, rfl⟩ := H
    go_enter Try.func64, Try.ntmps64
    go_wp2_with (first | ((with_reducible refine gate_dst (N := 2) rfl ?_); refine box_event ?hg (N := 2) ?hd (cs := #[.int .i64 a0_0, .int .i64 a0_1, .int .i64 a0_2]) (t := 81) ?hr ?_; (case hd => rfl); (case hg => rfl); (case hr => first | (go_simp; done) | (go_simp; rfl)); intro gb979 hg w18 hbox hb; have n0_ := Aside0.mk (below_step (by repeat (first | (with_reducible first | exact HB.out | apply below_alloc | apply pw_below_drewN | apply below_drew1) | exact HB.out)) hb); have n1_ := Aside0.mk (hbox); have n2_ := Aside0.mk ((by rw [hg]; exact (below_size (by repeat (first | (with_reducible first | exact HB.out | apply below_alloc | apply pw_below_drewN | apply below_drew1) | exact HB.out))) : w.heap.size ≤ gb979)); have n3_ := Aside0.mk ((by rw [hg]; exact (below_size (by repeat (first | (with_reducible first | exact HB.out | apply below_alloc | apply pw_below_drewN | apply below_drew1) | exact HB.out))) : w.heap.size ≤ gb979)); clear HB; have HB := n0_; have BK979 := n1_; have GW979 := n2_; have GE979 := n3_; clear n0_ n1_ n2_ n3_; clear hb hbox hg; have hcz19_0 : w18.cell? ⟨gb979, 0, none⟩ = some (.int .i64 a0_0) := (blk_cell BK979.out 0).trans rfl; have hcz19_1 : w18.cell? ⟨gb979, 1, none⟩ = some (.int .i64 a0_1) := (blk_cell BK979.out 1).trans rfl; have hcz19_2 : w18.cell? ⟨gb979, 2, none⟩ = some (.int .i64 a0_2) := (blk_cell BK979.out 2).trans rfl; have hfz19_0 := blk_frozen BK979.out 0; have hfz19_1 := blk_frozen BK979.out 1; have hfz19_2 := blk_frozen BK979.out 2) | ((with_reducible refine gate_callee (f := 63) rfl ?_); refine goesL_ (some 7) rfl rfl Try.func63 (by kernel_rfl) rfl #[.agg #[.int .i64 a0_0, .int .i64 a0_1, .int .i64 a0_2]] rfl (by (try simp only [List.map_toArray, List.map_cons, List.map_nil]); first | done | rfl | (simp only [List.length_drop, List.length_take]; rfl)) ?_; (with_reducible refine (impl_ValidWorks.calls a0_0 a0_1 a0_2 false _ A3.out).mono ?_); rintro e w20 ⟨rfl, hb⟩; refine ⟨_, rfl, ?_⟩; have n0_ := Aside0.mk (blk_below (g := gb979) (o := .cells #[.int .i64 a0_0, .int .i64 a0_1, .int .i64 a0_2] 81 (0, 0)) (by (with_reducible repeat (first | refine blk_drewN ?_ _ | refine blk_drew ?_ | refine blk_alloc ?_ _)); exact BK979.out) hb); have n1_ := Aside0.mk (below_step (by repeat (first | (with_reducible first | exact HB.out | apply below_alloc | apply pw_below_drewN | apply below_drew1 | refine below_set ?_ GE979.out) | exact HB.out)) hb); clear BK979; clear HB; have BK979 := n0_; have HB := n1_; clear n0_ n1_; (try clear hb); (try clear hb2); (try clear hk); (try clear hi)))
    go_ret2
    exact ⟨_, by first | rfl | (simp [errW_none, errW_some] <;> rfl) | (simp [*, errW_none, errW_some] <;> rfl) | (simp [Int.tdiv_eq_ediv_of_nonneg, *]; done), by first | exact Kd.R_nil _ _ _ _ _ | exact Kd.N_nil _ _ _ _ _ | exact Kd.V_nil _ _ _ _ _ | exact Kd.Q_nil _ _ _ _ _ | exact Kd.S_nil _ _ _ _ _, by repeat (first | (with_reducible first | exact HB.out | apply below_alloc | apply pw_below_drewN | apply below_drew1 | refine below_set ?_ GE979.out) | exact HB.out)⟩

/-! ### laws_b10At: function 66 -/
def laws_b10At.f (l0 : List Int) (a1 : Int) (a2 : Int) : Option (Int) := if a2 ≤ 1 then (some 0) else (if a1 < (l0.length : Int) then (if 0 ≤ a1 then (if a2 = 0 then (none) else (some (Int.tmod (wrap64 (rd l0 a1)) a2))) else (none)) else (if a2 = 0 then (none) else (some (Int.tmod (wrap64 ((wrap64 (a1 * 37)) + 11)) a2))))
set_option maxHeartbeats 8000000 in
set_option maxRecDepth 100000 in
theorem laws_b10At.calls (A0 : Option Addr) (c0 : Nat) (l0 : List Int) (a1 : Int) (a2 : Int) (r : Int) (w : World) (hr0 : Kd.C (Kd.int .u8) w A0 l0.length l0) (hc0 : l0.length ≤ c0) (h : laws_b10At.f l0 a1 a2 = some r) :
    Calls Try.prog 66 #[.slice A0 l0.length c0, .int .i64 a1, .int .i64 a2] w fun e w' => e = .returned (.int .i64 r) ∧ Drawn0 w w' := by
  have HR0 := Aside0.mk hr0
  have HC0 := Aside0.mk hc0
  clear hr0 hc0
  have H : (if a2 ≤ 1 then (some 0) else (if a1 < (l0.length : Int) then (if 0 ≤ a1 then (if a2 = 0 then (none) else (some (Int.tmod (wrap64 (rd l0 a1)) a2))) else (none)) else (if a2 = 0 then (none) else (some (Int.tmod (wrap64 ((wrap64 (a1 * 37)) + 11)) a2))))) = some r := h
  clear h
  by_cases c4 : a2 ≤ 1
  · rw [if_pos c4] at H
    have c4b0 : decide (a2 ≤ 1) = true := decide_eq_true c4
    clear c4
    obtain rfl := Option.some.inj H
    go_enter Try.func66, Try.ntmps66
    go_wp2
    go_ret
    exact ⟨by first | rfl | (simp; done) | (simp [*]; done) | (simp [Int.tdiv_eq_ediv_of_nonneg, *]; done), by repeat (first | exact Drawn0.refl _ | apply Drawn0.step)⟩
  · rw [if_neg c4] at H
    have c4b0 : decide (a2 ≤ 1) = false := decide_eq_false c4
    clear c4
    by_cases c5 : a1 < (l0.length : Int)
    · rw [if_pos c5] at H
      have c5b0 : decide (a1 < (l0.length : Int)) = true := decide_eq_true c5
      clear c5
      by_cases c6 : 0 ≤ a1
      · rw [if_pos c6] at H
        have c6b0 : decide (0 ≤ a1) = true := decide_eq_true c6
        clear c6
        by_cases c7 : a2 = 0
        · rw [if_pos c7] at H
          exact absurd H (by simp)
        · rw [if_neg c7] at H
          have c7b0 : (a2 == 0) = false := beq_eq_false_iff_ne.mpr c7
          have c7b1 : (a2 != 0) = true := bne_iff_ne.mpr c7
          obtain rfl := Option.some.inj H
          have p996 : 0 ≤ (a1 : Int) := of_decide_eq_true (by first | (with_reducible assumption) | assumption)
          have q996 : a1 < (l0.length : Int) := of_decide_eq_true (by first | (with_reducible assumption) | assumption)
          obtain ⟨ad996, e996, hx996_0⟩ := Kd.at_int HR0.out a1 p996 q996
          cases e996
          replace p996 := eq_true p996
          replace q996 := eq_true q996
          go_enter Try.func66, Try.ntmps66
          go_wp2
          go_ret
          exact ⟨by first | rfl | (simp; done) | (simp [*]; done) | (simp [Int.tdiv_eq_ediv_of_nonneg, *]; done), by repeat (first | exact Drawn0.refl _ | apply Drawn0.step)⟩
      · rw [if_neg c6] at H
        exact absurd H (by simp)
    · rw [if_neg c5] at H
      have c5b0 : decide (a1 < (l0.length : Int)) = false := decide_eq_false c5
      clear c5
      by_cases c8 : a2 = 0
      · rw [if_pos c8] at H
        exact absurd H (by simp)
      · rw [if_neg c8] at H
        have c8b0 : (a2 == 0) = false := beq_eq_false_iff_ne.mpr c8
        have c8b1 : (a2 != 0) = true := bne_iff_ne.mpr c8
        obtain rfl := Option.some.inj H
        go_enter Try.func66, Try.ntmps66
        go_wp2
        go_ret
        exact ⟨by first | rfl | (simp; done) | (simp [*]; done) | (simp [Int.tdiv_eq_ediv_of_nonneg, *]; done), by repeat (first | exact Drawn0.refl _ | apply Drawn0.step)⟩

/-! ### laws_b10Has: function 67 -/
def laws_b10Has.l0 : Nat → List Int → Int → Int → Option (Bool)
  | 0, _, _, _ => none
  | k + 1, x0, x1, x5 => if x5 < (x0.length : Int) then (if 0 ≤ x5 then (if (rd x0 x5) = x1 then (some true) else (laws_b10Has.l0 k x0 x1 (wrap64 (x5 + 1)))) else (none)) else (some false)
def laws_b10Has.f (k : Nat) (l0 : List Int) (a1 : Int) : Option (Bool) := laws_b10Has.l0 k l0 a1 0
theorem laws_b10Has.mono_l : ∀ k, (∀ y0 y1 y2, LeO (laws_b10Has.l0 k y0 y1 y2) (laws_b10Has.l0 (k + 1) y0 y1 y2))
  | 0 => fun _ _ _ r h => by simp [laws_b10Has.l0] at h
  | k + 1 => by
    have ih0 := laws_b10Has.mono_l k
    · intro y0 y1 y2
      unfold laws_b10Has.l0
      repeat' first
      | (with_reducible exact ih0 _ _ _)
      | (with_reducible exact LeO.refl _)
      | (with_reducible exact LeO.none _)
      | (with_reducible refine LeO.ite ?_ ?_)
      | (with_reducible refine LeO.bind ?_ (fun _ => ?_))
      | exact ih0 _ _ _
      | exact LeO.none _
      | refine LeO.ite ?_ ?_
      | refine LeO.bind ?_ (fun _ => ?_)
theorem laws_b10Has.mono : ∀ a0 a1 k, LeO (laws_b10Has.f k a0 a1) (laws_b10Has.f (k + 1) a0 a1) := by
  intro a0 a1 k
  have ih0 := laws_b10Has.mono_l k
  unfold laws_b10Has.f
  repeat' first
      | (with_reducible exact ih0 _ _ _)
      | (with_reducible exact LeO.refl _)
      | (with_reducible exact LeO.none _)
      | (with_reducible refine LeO.ite ?_ ?_)
      | (with_reducible refine LeO.bind ?_ (fun _ => ?_))
      | exact ih0 _ _ _
      | exact LeO.none _
      | refine LeO.ite ?_ ?_
      | refine LeO.bind ?_ (fun _ => ?_)
set_option maxHeartbeats 8000000 in
set_option maxRecDepth 100000 in
theorem laws_b10Has.calls (k : Nat) (A0 : Option Addr) (c0 : Nat) (l0 : List Int) (a1 : Int) (r : Bool) (w : World) (hr0 : Kd.C (Kd.int .i64) w A0 l0.length l0) (hc0 : l0.length ≤ c0) (h : laws_b10Has.f k l0 a1 = some r) :
    Calls Try.prog 67 #[.slice A0 l0.length c0, .int .i64 a1] w fun e w' => e = .returned (.bool r) ∧ Drawn0 w w' := by
  have HR0 := Aside0.mk hr0
  have HC0 := Aside0.mk hc0
  clear hr0 hc0
  have H : (laws_b10Has.l0 k l0 a1 0) = some r := h
  clear h
  have H' := Aside0.mk H
  clear H
  go_enter Try.func67, Try.ntmps67
  go_wp2
  go_loopg [5] k (fun kq v5 w' => ∃ (x5_1 : Int), v5 = .int .i64 x5_1 ∧ Aside0 (laws_b10Has.l0 kq l0 a1 x5_1 = some r) ∧ Aside0 (kq ≤ k) ∧ Drawn0 w w')
  case atStart => exact ⟨(0), (by first | rfl | (simp; done) | (simp [*]; done) | (simp [Int.tdiv_eq_ediv_of_nonneg, *]; done)), H', ⟨Nat.le_refl _⟩, by repeat (first | exact Drawn0.refl _ | apply Drawn0.step)⟩
  case round =>
    clear H'
    try clear p2
    obtain ⟨x5_1, rfl, HA, HK1, ⟨m1, rfl⟩⟩ := hrel
    cases gk with
    | zero => exact absurd HA.out (by simp [laws_b10Has.l0])
    | succ k1 =>
      have H := HA.out
      clear HA
      simp only [laws_b10Has.l0] at H
      by_cases c3 : x5_1 < (l0.length : Int)
      · rw [if_pos c3] at H
        have c3b0 : decide (x5_1 < (l0.length : Int)) = true := decide_eq_true c3
        clear c3
        by_cases c4 : 0 ≤ x5_1
        · rw [if_pos c4] at H
          have c4b0 : decide (0 ≤ x5_1) = true := decide_eq_true c4
          clear c4
          by_cases c5 : (rd l0 x5_1) = a1
          · rw [if_pos c5] at H
            have c5b0 : ((rd l0 x5_1) == a1) = true := beq_iff_eq.mpr c5
            have c5b1 : ((rd l0 x5_1) != a1) = false := bne_eq_false_iff_eq.mpr c5
            clear c5
            obtain rfl := Option.some.inj H
            have p997 : 0 ≤ (x5_1 : Int) := of_decide_eq_true (by first | (with_reducible assumption) | assumption)
            have q997 : x5_1 < (l0.length : Int) := of_decide_eq_true (by first | (with_reducible assumption) | assumption)
            obtain ⟨ad997, e997, hx997_0⟩ := Kd.at_int HR0.out x5_1 p997 q997
            cases e997
            replace p997 := eq_true p997
            replace q997 := eq_true q997
            go_wp2
            go_ret
            exact ⟨by first | rfl | (simp; done) | (simp [*]; done) | (simp [Int.tdiv_eq_ediv_of_nonneg, *]; done), by repeat (first | exact Drawn0.refl _ | apply Drawn0.step)⟩
          · rw [if_neg c5] at H
            have c5b0 : ((rd l0 x5_1) == a1) = false := beq_eq_false_iff_ne.mpr c5
            have c5b1 : ((rd l0 x5_1) != a1) = true := bne_iff_ne.mpr c5
            have H' := Aside0.mk H
            clear H
            have p997 : 0 ≤ (x5_1 : Int) := of_decide_eq_true (by first | (with_reducible assumption) | assumption)
            have q997 : x5_1 < (l0.length : Int) := of_decide_eq_true (by first | (with_reducible assumption) | assumption)
            obtain ⟨ad997, e997, hx997_0⟩ := Kd.at_int HR0.out x5_1 p997 q997
            cases e997
            replace p997 := eq_true p997
            replace q997 := eq_true q997
            go_wp2
            go_roundg k1
            case measure => have := HK1.out; omega
            case rel => exact ⟨(wrap64 (x5_1 + 1)), (by first | rfl | (simp; done) | (simp [*]; done) | (simp [Int.tdiv_eq_ediv_of_nonneg, *]; done)), H', ⟨by have := HK1.out; omega⟩, by repeat (first | exact Drawn0.refl _ | apply Drawn0.step)⟩
        · rw [if_neg c4] at H
          exact absurd H (by simp)
      · rw [if_neg c3] at H
        have c3b0 : decide (x5_1 < (l0.length : Int)) = false := decide_eq_false c3
        clear c3
        obtain rfl := Option.some.inj H
        go_wp2
        go_ret
        exact ⟨by first | rfl | (simp; done) | (simp [*]; done) | (simp [Int.tdiv_eq_ediv_of_nonneg, *]; done), by repeat (first | exact Drawn0.refl _ | apply Drawn0.step)⟩

end Go.Proofs.Ytajndapolblhmaa.P
-- Walks of this claim's functions, laid by a program of this session.
namespace Go.Proofs.Ytajndapolblhmaa.P
open Go.RowKit Go.Proofs.YtajndapolblhmaaW.PrintWords Go.Proofs.YtajndapolblhmaaW.PrintLast Go.Proofs.YtajndapolblhmaaW.PrintMore
attribute [local go_sem] max2_int min2_int max_two min_two max_three min_three max_four min_four   -- for this text's walks alone
set_option linter.unusedVariables false
set_option linter.unusedSimpArgs false

/-! ### laws_FnCast: function 13 -/
mutual
def laws_FnCast.j0 : Nat → List (S119) → Int → Int → Int → Int → Int → Bool → Option (Bool)
  | 0, _, _, _, _, _, _, _ => none
  | k + 1, x5, x6, x7, x8, x9, x14, x97 => if x97 = true then (some false) else (if x8 > 1 then ((impl_ShortDays.f k (wrap64 (x8 - 1)) x6 x7 x5).bind fun bt1019 => (if bt1019.2 = true then ((laws_b10Has.f k bt1019.1 x9).bind fun t1023 => (if t1023 = true then (laws_FnCast.j1 k x5 x6 x7 x8 x14) else (some false))) else (some false))) else (laws_FnCast.j1 k x5 x6 x7 x8 x14))
def laws_FnCast.j1 : Nat → List (S119) → Int → Int → Int → Int → Option (Bool)
  | 0, _, _, _, _, _ => none
  | k + 1, x5, x6, x7, x8, x14 => if (wrap64 (x7 + x14)) ≤ 40 then ((impl_ShortDays.f k x8 x6 (wrap64 (x7 + x14)) x5).bind fun bt1025 => (if bt1025.2 = true then (laws_FnCast.j2 k x5 x14 ((bt1025.1.length : Int) != 0) x8 x6 (wrap64 (x7 + x14))) else (laws_FnCast.j2 k x5 x14 true x8 x6 (wrap64 (x7 + x14))))) else (if (wrap64 ((wrap64 (x7 + x14)) + 1)) ≤ 40 then (if x14 < 200 then ((impl_ShortDays.f k x8 x6 (wrap64 ((wrap64 (x7 + x14)) + 1)) x5).bind fun bt1033 => (if bt1033.2 = true then (some (decide ((bt1033.1.length : Int) > 0))) else (some false))) else (some true)) else (some true))
def laws_FnCast.j2 : Nat → List (S119) → Int → Bool → Int → Int → Int → Option (Bool)
  | 0, _, _, _, _, _, _ => none
  | k + 1, x5, x14, x139, x1025000, x1025001, x1025002 => if x139 = true then (some false) else (if (wrap64 (x1025002 + 1)) ≤ 40 then (if x14 < 200 then ((impl_ShortDays.f k x1025000 x1025001 (wrap64 (x1025002 + 1)) x5).bind fun bt1029 => (if bt1029.2 = true then (some (decide ((bt1029.1.length : Int) > 0))) else (some false))) else (some true)) else (some true))
end
def laws_FnCast.f (k : Nat) (l0 : List Int) (l1 : List Int) : Option (Bool) := (laws_b10Long.f l0 l1).bind fun t998 => (if t998 = true then (some true) else ((spec_B10Orders.f k l0).bind fun bt999 => ((impl_FewestMoulds.f k bt999.2.1 bt999.2.2 bt999.1).bind fun bt1004 => (if bt1004.2.2 = true then ((impl_ShortDays.f k bt1004.1 bt999.2.1 bt999.2.2 bt999.1).bind fun bt1010 => ((impl_LatestStart.f k bt1004.1 bt999.2.1 bt999.2.2 bt999.1).bind fun bt1014 => ((laws_b10At.f l1 0 201).bind fun t1016 => ((impl_StockOn.f k bt1004.1 bt999.2.1 bt999.2.2 bt999.1 t1016).bind fun bt1017 => (if bt1010.2 = true then (if bt1014.2 = true then (if bt1017.2 = true then (if (bt1010.1.length : Int) = 0 then (if bt1014.1 < 0 then (laws_FnCast.j0 k bt999.1 bt999.2.1 bt999.2.2 bt1004.1 bt1004.2.1 bt1014.1 true) else (laws_FnCast.j0 k bt999.1 bt999.2.1 bt999.2.2 bt1004.1 bt1004.2.1 bt1014.1 (decide (bt1017.1 < 0)))) else (laws_FnCast.j0 k bt999.1 bt999.2.1 bt999.2.2 bt1004.1 bt1004.2.1 bt1014.1 true)) else (laws_FnCast.j0 k bt999.1 bt999.2.1 bt999.2.2 bt1004.1 bt1004.2.1 bt1014.1 true)) else (laws_FnCast.j0 k bt999.1 bt999.2.1 bt999.2.2 bt1004.1 bt1004.2.1 bt1014.1 true)) else (laws_FnCast.j0 k bt999.1 bt999.2.1 bt999.2.2 bt1004.1 bt1004.2.1 bt1014.1 true)))))) else ((impl_ValidOrders.f k bt999.1).bind fun t1007 => (if t1007 = true then ((impl_ValidWorks.f 0 0 0).bind fun t1008 => (some (!t1008))) else (some false)))))))
theorem laws_FnCast.mono_l : ∀ k, (∀ y0 y1 y2 y3 y4 y5 y6, LeO (laws_FnCast.j0 k y0 y1 y2 y3 y4 y5 y6) (laws_FnCast.j0 (k + 1) y0 y1 y2 y3 y4 y5 y6)) ∧ (∀ y0 y1 y2 y3 y4, LeO (laws_FnCast.j1 k y0 y1 y2 y3 y4) (laws_FnCast.j1 (k + 1) y0 y1 y2 y3 y4)) ∧ (∀ y0 y1 y2 y3 y4 y5, LeO (laws_FnCast.j2 k y0 y1 y2 y3 y4 y5) (laws_FnCast.j2 (k + 1) y0 y1 y2 y3 y4 y5))
  | 0 => ⟨fun _ _ _ _ _ _ _ r h => by simp [laws_FnCast.j0] at h, fun _ _ _ _ _ r h => by simp [laws_FnCast.j1] at h, fun _ _ _ _ _ _ r h => by simp [laws_FnCast.j2] at h⟩
  | k + 1 => by
    obtain ⟨ih0, ih1, ih2⟩ := laws_FnCast.mono_l k
    refine ⟨?_, ?_, ?_⟩
    · intro y0 y1 y2 y3 y4 y5 y6
      unfold laws_FnCast.j0
      repeat' first
      | (with_reducible exact ih0 _ _ _ _ _ _ _)
      | (with_reducible exact ih1 _ _ _ _ _)
      | (with_reducible exact ih2 _ _ _ _ _ _)
      | (with_reducible exact impl_FewestMoulds.mono _ _ _ _)
      | (with_reducible exact impl_LatestStart.mono _ _ _ _ _)
      | (with_reducible exact impl_ShortDays.mono _ _ _ _ _)
      | (with_reducible exact impl_StockOn.mono _ _ _ _ _ _)
      | (with_reducible exact impl_ValidOrders.mono _ _)
      | (with_reducible exact laws_b10Has.mono _ _ _)
      | (with_reducible exact spec_B10Orders.mono _ _)
      | (with_reducible exact LeO.refl _)
      | (with_reducible exact LeO.none _)
      | (with_reducible refine LeO.ite ?_ ?_)
      | (with_reducible refine LeO.bind ?_ (fun _ => ?_))
      | exact ih0 _ _ _ _ _ _ _
      | exact ih1 _ _ _ _ _
      | exact ih2 _ _ _ _ _ _
      | exact impl_FewestMoulds.mono _ _ _ _
      | exact impl_LatestStart.mono _ _ _ _ _
      | exact impl_ShortDays.mono _ _ _ _ _
      | exact impl_StockOn.mono _ _ _ _ _ _
      | exact impl_ValidOrders.mono _ _
      | exact laws_b10Has.mono _ _ _
      | exact spec_B10Orders.mono _ _
      | exact LeO.none _
      | refine LeO.ite ?_ ?_
      | refine LeO.bind ?_ (fun _ => ?_)
    · intro y0 y1 y2 y3 y4
      unfold laws_FnCast.j1
      repeat' first
      | (with_reducible exact ih0 _ _ _ _ _ _ _)
      | (with_reducible exact ih1 _ _ _ _ _)
      | (with_reducible exact ih2 _ _ _ _ _ _)
      | (with_reducible exact impl_FewestMoulds.mono _ _ _ _)
      | (with_reducible exact impl_LatestStart.mono _ _ _ _ _)
      | (with_reducible exact impl_ShortDays.mono _ _ _ _ _)
      | (with_reducible exact impl_StockOn.mono _ _ _ _ _ _)
      | (with_reducible exact impl_ValidOrders.mono _ _)
      | (with_reducible exact laws_b10Has.mono _ _ _)
      | (with_reducible exact spec_B10Orders.mono _ _)
      | (with_reducible exact LeO.refl _)
      | (with_reducible exact LeO.none _)
      | (with_reducible refine LeO.ite ?_ ?_)
      | (with_reducible refine LeO.bind ?_ (fun _ => ?_))
      | exact ih0 _ _ _ _ _ _ _
      | exact ih1 _ _ _ _ _
      | exact ih2 _ _ _ _ _ _
      | exact impl_FewestMoulds.mono _ _ _ _
      | exact impl_LatestStart.mono _ _ _ _ _
      | exact impl_ShortDays.mono _ _ _ _ _
      | exact impl_StockOn.mono _ _ _ _ _ _
      | exact impl_ValidOrders.mono _ _
      | exact laws_b10Has.mono _ _ _
      | exact spec_B10Orders.mono _ _
      | exact LeO.none _
      | refine LeO.ite ?_ ?_
      | refine LeO.bind ?_ (fun _ => ?_)
    · intro y0 y1 y2 y3 y4 y5
      unfold laws_FnCast.j2
      repeat' first
      | (with_reducible exact ih0 _ _ _ _ _ _ _)
      | (with_reducible exact ih1 _ _ _ _ _)
      | (with_reducible exact ih2 _ _ _ _ _ _)
      | (with_reducible exact impl_FewestMoulds.mono _ _ _ _)
      | (with_reducible exact impl_LatestStart.mono _ _ _ _ _)
      | (with_reducible exact impl_ShortDays.mono _ _ _ _ _)
      | (with_reducible exact impl_StockOn.mono _ _ _ _ _ _)
      | (with_reducible exact impl_ValidOrders.mono _ _)
      | (with_reducible exact laws_b10Has.mono _ _ _)
      | (with_reducible exact spec_B10Orders.mono _ _)
      | (with_reducible exact LeO.refl _)
      | (with_reducible exact LeO.none _)
      | (with_reducible refine LeO.ite ?_ ?_)
      | (with_reducible refine LeO.bind ?_ (fun _ => ?_))
      | exact ih0 _ _ _ _ _ _ _
      | exact ih1 _ _ _ _ _
      | exact ih2 _ _ _ _ _ _
      | exact impl_FewestMoulds.mono _ _ _ _
      | exact impl_LatestStart.mono _ _ _ _ _
      | exact impl_ShortDays.mono _ _ _ _ _
      | exact impl_StockOn.mono _ _ _ _ _ _
      | exact impl_ValidOrders.mono _ _
      | exact laws_b10Has.mono _ _ _
      | exact spec_B10Orders.mono _ _
      | exact LeO.none _
      | refine LeO.ite ?_ ?_
      | refine LeO.bind ?_ (fun _ => ?_)
theorem laws_FnCast.mono : ∀ a0 a1 k, LeO (laws_FnCast.f k a0 a1) (laws_FnCast.f (k + 1) a0 a1) := by
  intro a0 a1 k
  obtain ⟨ih0, ih1, ih2⟩ := laws_FnCast.mono_l k
  unfold laws_FnCast.f
  repeat' first
      | (with_reducible exact ih0 _ _ _ _ _ _ _)
      | (with_reducible exact ih1 _ _ _ _ _)
      | (with_reducible exact ih2 _ _ _ _ _ _)
      | (with_reducible exact impl_FewestMoulds.mono _ _ _ _)
      | (with_reducible exact impl_LatestStart.mono _ _ _ _ _)
      | (with_reducible exact impl_ShortDays.mono _ _ _ _ _)
      | (with_reducible exact impl_StockOn.mono _ _ _ _ _ _)
      | (with_reducible exact impl_ValidOrders.mono _ _)
      | (with_reducible exact laws_b10Has.mono _ _ _)
      | (with_reducible exact spec_B10Orders.mono _ _)
      | (with_reducible exact LeO.refl _)
      | (with_reducible exact LeO.none _)
      | (with_reducible refine LeO.ite ?_ ?_)
      | (with_reducible refine LeO.bind ?_ (fun _ => ?_))
      | exact ih0 _ _ _ _ _ _ _
      | exact ih1 _ _ _ _ _
      | exact ih2 _ _ _ _ _ _
      | exact impl_FewestMoulds.mono _ _ _ _
      | exact impl_LatestStart.mono _ _ _ _ _
      | exact impl_ShortDays.mono _ _ _ _ _
      | exact impl_StockOn.mono _ _ _ _ _ _
      | exact impl_ValidOrders.mono _ _
      | exact laws_b10Has.mono _ _ _
      | exact spec_B10Orders.mono _ _
      | exact LeO.none _
      | refine LeO.ite ?_ ?_
      | refine LeO.bind ?_ (fun _ => ?_)
def laws_FnCast.T10 : Bool × List (List Nat × List Nat) := (true, [([], []), ([], []), ([], []), ([2], [2]), ([0, 1, 3, 3], [0, 1, 3]), ([4], [4]), ([5], [5]), ([5], [5]), ([6, 4, 0, 1, 2, 3, 4, 5, 6], [6]), ([7, 8, 0, 1, 2, 3, 4, 5, 6, 7, 8], [7])])
def laws_FnCast.B10 : List Nat := [0, 0, 0, 4, 15, 31, 63, 63, 127, 511]
theorem laws_FnCast.tab10 : rtab .any (opsOf Try.f13 10) = laws_FnCast.T10 := by kernel_rfl
theorem laws_FnCast.bits10 : waitsOk laws_FnCast.T10.2 laws_FnCast.B10 = true := by kernel_rfl
set_option maxHeartbeats 8000000 in
set_option maxRecDepth 100000 in
theorem laws_FnCast.calls (k : Nat) (A0 : Option Addr) (c0 : Nat) (l0 : List Int) (A1 : Option Addr) (c1 : Nat) (l1 : List Int) (r : Bool) (w : World) (hr0 : Kd.C (Kd.int .u8) w A0 l0.length l0) (hc0 : l0.length ≤ c0) (hr1 : Kd.C (Kd.int .u8) w A1 l1.length l1) (hc1 : l1.length ≤ c1) (h : laws_FnCast.f k l0 l1 = some r) :
    Calls Try.prog 13 #[.slice A0 l0.length c0, .slice A1 l1.length c1] w fun e w' => e = .returned (.bool r) ∧ Below w.heap.size w w' := by
  have hu81 := Try.underlying81
  have HR0 := Aside0.mk hr0
  have HC0 := Aside0.mk hc0
  clear hr0 hc0
  have HR1 := Aside0.mk hr1
  have HC1 := Aside0.mk hc1
  clear hr1 hc1
  have HB := Aside0.mk (Below.refl w.heap.size w)
  have H : ((laws_b10Long.f l0 l1).bind fun t998 => (if t998 = true then (some true) else ((spec_B10Orders.f k l0).bind fun bt999 => ((impl_FewestMoulds.f k bt999.2.1 bt999.2.2 bt999.1).bind fun bt1004 => (if bt1004.2.2 = true then ((impl_ShortDays.f k bt1004.1 bt999.2.1 bt999.2.2 bt999.1).bind fun bt1010 => ((impl_LatestStart.f k bt1004.1 bt999.2.1 bt999.2.2 bt999.1).bind fun bt1014 => ((laws_b10At.f l1 0 201).bind fun t1016 => ((impl_StockOn.f k bt1004.1 bt999.2.1 bt999.2.2 bt999.1 t1016).bind fun bt1017 => (if bt1010.2 = true then (if bt1014.2 = true then (if bt1017.2 = true then (if (bt1010.1.length : Int) = 0 then (if bt1014.1 < 0 then (laws_FnCast.j0 k bt999.1 bt999.2.1 bt999.2.2 bt1004.1 bt1004.2.1 bt1014.1 true) else (laws_FnCast.j0 k bt999.1 bt999.2.1 bt999.2.2 bt1004.1 bt1004.2.1 bt1014.1 (decide (bt1017.1 < 0)))) else (laws_FnCast.j0 k bt999.1 bt999.2.1 bt999.2.2 bt1004.1 bt1004.2.1 bt1014.1 true)) else (laws_FnCast.j0 k bt999.1 bt999.2.1 bt999.2.2 bt1004.1 bt1004.2.1 bt1014.1 true)) else (laws_FnCast.j0 k bt999.1 bt999.2.1 bt999.2.2 bt1004.1 bt1004.2.1 bt1014.1 true)) else (laws_FnCast.j0 k bt999.1 bt999.2.1 bt999.2.2 bt1004.1 bt1004.2.1 bt1014.1 true)))))) else ((impl_ValidOrders.f k bt999.1).bind fun t1007 => (if t1007 = true then ((impl_ValidWorks.f 0 0 0).bind fun t1008 => (some (!t1008))) else (some false)))))))) = some r := h
  clear h
  replace H := Option.bind_eq_some_iff.mp H
  obtain ⟨t998, A30, H⟩ := H
  replace H : (if t998 = true then (some true) else ((spec_B10Orders.f k l0).bind fun bt999 => ((impl_FewestMoulds.f k bt999.2.1 bt999.2.2 bt999.1).bind fun bt1004 => (if bt1004.2.2 = true then ((impl_ShortDays.f k bt1004.1 bt999.2.1 bt999.2.2 bt999.1).bind fun bt1010 => ((impl_LatestStart.f k bt1004.1 bt999.2.1 bt999.2.2 bt999.1).bind fun bt1014 => ((laws_b10At.f l1 0 201).bind fun t1016 => ((impl_StockOn.f k bt1004.1 bt999.2.1 bt999.2.2 bt999.1 t1016).bind fun bt1017 => (if bt1010.2 = true then (if bt1014.2 = true then (if bt1017.2 = true then (if (bt1010.1.length : Int) = 0 then (if bt1014.1 < 0 then (laws_FnCast.j0 k bt999.1 bt999.2.1 bt999.2.2 bt1004.1 bt1004.2.1 bt1014.1 true) else (laws_FnCast.j0 k bt999.1 bt999.2.1 bt999.2.2 bt1004.1 bt1004.2.1 bt1014.1 (decide (bt1017.1 < 0)))) else (laws_FnCast.j0 k bt999.1 bt999.2.1 bt999.2.2 bt1004.1 bt1004.2.1 bt1014.1 true)) else (laws_FnCast.j0 k bt999.1 bt999.2.1 bt999.2.2 bt1004.1 bt1004.2.1 bt1014.1 true)) else (laws_FnCast.j0 k bt999.1 bt999.2.1 bt999.2.2 bt1004.1 bt1004.2.1 bt1014.1 true)) else (laws_FnCast.j0 k bt999.1 bt999.2.1 bt999.2.2 bt1004.1 bt1004.2.1 bt1014.1 true)))))) else ((impl_ValidOrders.f k bt999.1).bind fun t1007 => (if t1007 = true then ((impl_ValidWorks.f 0 0 0).bind fun t1008 => (some (!t1008))) else (some false))))))) = some r := H
  have A3 := Aside0.mk A30
  clear A30
  by_cases c4 : t998 = true
  · subst c4
    have H1 : (some true) = some r := by rw [if_pos rfl] at H; exact H
    clear H
    have H := H1
    clear H1
    obtain rfl := Option.some.inj H
    go_enter Try.func13, Try.ntmps13
    go_wp2_with (first | ((with_reducible refine gate_callee (f := 21) rfl ?_); refine goesL_ (some 27) rfl rfl Try.func21 (by kernel_rfl) rfl #[.slice A0 l0.length c0, .slice A1 l1.length c1] rfl (by (try simp only [List.map_toArray, List.map_cons, List.map_nil]); first | done | rfl | (simp only [List.length_drop, List.length_take]; rfl)) ?_; (with_reducible refine (laws_b10Long.calls _ _ l0 _ _ l1 true _ ?side1 ?side2 ?side3 ?side4 A3.out).mono ?_); (case side1 => repeat (first | exact HR0.out | (with_reducible refine Kd.C_alloc ?_ _) | (with_reducible refine Kd.C_drewN ?_ _) | (with_reducible refine Kd.C_drew ?_))); (case side2 => exact HC0.out); (case side3 => repeat (first | exact HR1.out | (with_reducible refine Kd.C_alloc ?_ _) | (with_reducible refine Kd.C_drewN ?_ _) | (with_reducible refine Kd.C_drew ?_))); (case side4 => exact HC1.out); rintro e w' ⟨rfl, ⟨nd, rfl⟩⟩; refine ⟨_, rfl, ?_⟩))
    go_ret
    exact ⟨by first | rfl | (simp [errW_none, errW_some] <;> rfl) | (simp [*, errW_none, errW_some] <;> rfl) | (simp [Int.tdiv_eq_ediv_of_nonneg, *]; done), by repeat (first | (with_reducible first | exact HB.out | apply below_alloc | apply pw_below_drewN | apply below_drew1) | exact HB.out)⟩
  · replace c4 := Bool.eq_false_iff.mpr c4
    subst c4
    have H1 : ((spec_B10Orders.f k l0).bind fun bt999 => ((impl_FewestMoulds.f k bt999.2.1 bt999.2.2 bt999.1).bind fun bt1004 => (if bt1004.2.2 = true then ((impl_ShortDays.f k bt1004.1 bt999.2.1 bt999.2.2 bt999.1).bind fun bt1010 => ((impl_LatestStart.f k bt1004.1 bt999.2.1 bt999.2.2 bt999.1).bind fun bt1014 => ((laws_b10At.f l1 0 201).bind fun t1016 => ((impl_StockOn.f k bt1004.1 bt999.2.1 bt999.2.2 bt999.1 t1016).bind fun bt1017 => (if bt1010.2 = true then (if bt1014.2 = true then (if bt1017.2 = true then (if (bt1010.1.length : Int) = 0 then (if bt1014.1 < 0 then (laws_FnCast.j0 k bt999.1 bt999.2.1 bt999.2.2 bt1004.1 bt1004.2.1 bt1014.1 true) else (laws_FnCast.j0 k bt999.1 bt999.2.1 bt999.2.2 bt1004.1 bt1004.2.1 bt1014.1 (decide (bt1017.1 < 0)))) else (laws_FnCast.j0 k bt999.1 bt999.2.1 bt999.2.2 bt1004.1 bt1004.2.1 bt1014.1 true)) else (laws_FnCast.j0 k bt999.1 bt999.2.1 bt999.2.2 bt1004.1 bt1004.2.1 bt1014.1 true)) else (laws_FnCast.j0 k bt999.1 bt999.2.1 bt999.2.2 bt1004.1 bt1004.2.1 bt1014.1 true)) else (laws_FnCast.j0 k bt999.1 bt999.2.1 bt999.2.2 bt1004.1 bt1004.2.1 bt1014.1 true)))))) else ((impl_ValidOrders.f k bt999.1).bind fun t1007 => (if t1007 = true then ((impl_ValidWorks.f 0 0 0).bind fun t1008 => (some (!t1008))) else (some false)))))) = some r := by rw [if_neg (show ¬ (false = true) by decide)] at H; exact H
    clear H
    have H := H1
    clear H1
    replace H := Option.bind_eq_some_iff.mp H
    obtain ⟨⟨t999, t1000, t1001⟩, A50, H⟩ := H
    replace H : ((impl_FewestMoulds.f k t1000 t1001 t999).bind fun bt1004 => (if bt1004.2.2 = true then ((impl_ShortDays.f k bt1004.1 t1000 t1001 t999).bind fun bt1010 => ((impl_LatestStart.f k bt1004.1 t1000 t1001 t999).bind fun bt1014 => ((laws_b10At.f l1 0 201).bind fun t1016 => ((impl_StockOn.f k bt1004.1 t1000 t1001 t999 t1016).bind fun bt1017 => (if bt1010.2 = true then (if bt1014.2 = true then (if bt1017.2 = true then (if (bt1010.1.length : Int) = 0 then (if bt1014.1 < 0 then (laws_FnCast.j0 k t999 t1000 t1001 bt1004.1 bt1004.2.1 bt1014.1 true) else (laws_FnCast.j0 k t999 t1000 t1001 bt1004.1 bt1004.2.1 bt1014.1 (decide (bt1017.1 < 0)))) else (laws_FnCast.j0 k t999 t1000 t1001 bt1004.1 bt1004.2.1 bt1014.1 true)) else (laws_FnCast.j0 k t999 t1000 t1001 bt1004.1 bt1004.2.1 bt1014.1 true)) else (laws_FnCast.j0 k t999 t1000 t1001 bt1004.1 bt1004.2.1 bt1014.1 true)) else (laws_FnCast.j0 k t999 t1000 t1001 bt1004.1 bt1004.2.1 bt1014.1 true)))))) else ((impl_ValidOrders.f k t999).bind fun t1007 => (if t1007 = true then ((impl_ValidWorks.f 0 0 0).bind fun t1008 => (some (!t1008))) else (some false))))) = some r := H
    have A5 := Aside0.mk A50
    clear A50
    replace H := Option.bind_eq_some_iff.mp H
    obtain ⟨⟨t1004, t1005, t1006⟩, A60, H⟩ := H
    replace H : (if t1006 = true then ((impl_ShortDays.f k t1004 t1000 t1001 t999).bind fun bt1010 => ((impl_LatestStart.f k t1004 t1000 t1001 t999).bind fun bt1014 => ((laws_b10At.f l1 0 201).bind fun t1016 => ((impl_StockOn.f k t1004 t1000 t1001 t999 t1016).bind fun bt1017 => (if bt1010.2 = true then (if bt1014.2 = true then (if bt1017.2 = true then (if (bt1010.1.length : Int) = 0 then (if bt1014.1 < 0 then (laws_FnCast.j0 k t999 t1000 t1001 t1004 t1005 bt1014.1 true) else (laws_FnCast.j0 k t999 t1000 t1001 t1004 t1005 bt1014.1 (decide (bt1017.1 < 0)))) else (laws_FnCast.j0 k t999 t1000 t1001 t1004 t1005 bt1014.1 true)) else (laws_FnCast.j0 k t999 t1000 t1001 t1004 t1005 bt1014.1 true)) else (laws_FnCast.j0 k t999 t1000 t1001 t1004 t1005 bt1014.1 true)) else (laws_FnCast.j0 k t999 t1000 t1001 t1004 t1005 bt1014.1 true)))))) else ((impl_ValidOrders.f k t999).bind fun t1007 => (if t1007 = true then ((impl_ValidWorks.f 0 0 0).bind fun t1008 => (some (!t1008))) else (some false)))) = some r := H
    have A6 := Aside0.mk A60
    clear A60
    by_cases c7 : t1006 = true
    · subst c7
      have H1 : ((impl_ShortDays.f k t1004 t1000 t1001 t999).bind fun bt1010 => ((impl_LatestStart.f k t1004 t1000 t1001 t999).bind fun bt1014 => ((laws_b10At.f l1 0 201).bind fun t1016 => ((impl_StockOn.f k t1004 t1000 t1001 t999 t1016).bind fun bt1017 => (if bt1010.2 = true then (if bt1014.2 = true then (if bt1017.2 = true then (if (bt1010.1.length : Int) = 0 then (if bt1014.1 < 0 then (laws_FnCast.j0 k t999 t1000 t1001 t1004 t1005 bt1014.1 true) else (laws_FnCast.j0 k t999 t1000 t1001 t1004 t1005 bt1014.1 (decide (bt1017.1 < 0)))) else (laws_FnCast.j0 k t999 t1000 t1001 t1004 t1005 bt1014.1 true)) else (laws_FnCast.j0 k t999 t1000 t1001 t1004 t1005 bt1014.1 true)) else (laws_FnCast.j0 k t999 t1000 t1001 t1004 t1005 bt1014.1 true)) else (laws_FnCast.j0 k t999 t1000 t1001 t1004 t1005 bt1014.1 true)))))) = some r := by rw [if_pos rfl] at H; exact H
      clear H
      have H := H1
      clear H1
      replace H := Option.bind_eq_some_iff.mp H
      obtain ⟨⟨t1010, t1013⟩, A80, H⟩ := H
      replace H : ((impl_LatestStart.f k t1004 t1000 t1001 t999).bind fun bt1014 => ((laws_b10At.f l1 0 201).bind fun t1016 => ((impl_StockOn.f k t1004 t1000 t1001 t999 t1016).bind fun bt1017 => (if t1013 = true then (if bt1014.2 = true then (if bt1017.2 = true then (if (t1010.length : Int) = 0 then (if bt1014.1 < 0 then (laws_FnCast.j0 k t999 t1000 t1001 t1004 t1005 bt1014.1 true) else (laws_FnCast.j0 k t999 t1000 t1001 t1004 t1005 bt1014.1 (decide (bt1017.1 < 0)))) else (laws_FnCast.j0 k t999 t1000 t1001 t1004 t1005 bt1014.1 true)) else (laws_FnCast.j0 k t999 t1000 t1001 t1004 t1005 bt1014.1 true)) else (laws_FnCast.j0 k t999 t1000 t1001 t1004 t1005 bt1014.1 true)) else (laws_FnCast.j0 k t999 t1000 t1001 t1004 t1005 bt1014.1 true))))) = some r := H
      have A8 := Aside0.mk A80
      clear A80
      replace H := Option.bind_eq_some_iff.mp H
      obtain ⟨⟨t1014, t1015⟩, A90, H⟩ := H
      replace H : ((laws_b10At.f l1 0 201).bind fun t1016 => ((impl_StockOn.f k t1004 t1000 t1001 t999 t1016).bind fun bt1017 => (if t1013 = true then (if t1015 = true then (if bt1017.2 = true then (if (t1010.length : Int) = 0 then (if t1014 < 0 then (laws_FnCast.j0 k t999 t1000 t1001 t1004 t1005 t1014 true) else (laws_FnCast.j0 k t999 t1000 t1001 t1004 t1005 t1014 (decide (bt1017.1 < 0)))) else (laws_FnCast.j0 k t999 t1000 t1001 t1004 t1005 t1014 true)) else (laws_FnCast.j0 k t999 t1000 t1001 t1004 t1005 t1014 true)) else (laws_FnCast.j0 k t999 t1000 t1001 t1004 t1005 t1014 true)) else (laws_FnCast.j0 k t999 t1000 t1001 t1004 t1005 t1014 true)))) = some r := H
      have A9 := Aside0.mk A90
      clear A90
      replace H := Option.bind_eq_some_iff.mp H
      obtain ⟨t1016, A100, H⟩ := H
      replace H : ((impl_StockOn.f k t1004 t1000 t1001 t999 t1016).bind fun bt1017 => (if t1013 = true then (if t1015 = true then (if bt1017.2 = true then (if (t1010.length : Int) = 0 then (if t1014 < 0 then (laws_FnCast.j0 k t999 t1000 t1001 t1004 t1005 t1014 true) else (laws_FnCast.j0 k t999 t1000 t1001 t1004 t1005 t1014 (decide (bt1017.1 < 0)))) else (laws_FnCast.j0 k t999 t1000 t1001 t1004 t1005 t1014 true)) else (laws_FnCast.j0 k t999 t1000 t1001 t1004 t1005 t1014 true)) else (laws_FnCast.j0 k t999 t1000 t1001 t1004 t1005 t1014 true)) else (laws_FnCast.j0 k t999 t1000 t1001 t1004 t1005 t1014 true))) = some r := H
      have A10 := Aside0.mk A100
      clear A100
      replace H := Option.bind_eq_some_iff.mp H
      obtain ⟨⟨t1017, t1018⟩, A110, H⟩ := H
      replace H : (if t1013 = true then (if t1015 = true then (if t1018 = true then (if (t1010.length : Int) = 0 then (if t1014 < 0 then (laws_FnCast.j0 k t999 t1000 t1001 t1004 t1005 t1014 true) else (laws_FnCast.j0 k t999 t1000 t1001 t1004 t1005 t1014 (decide (t1017 < 0)))) else (laws_FnCast.j0 k t999 t1000 t1001 t1004 t1005 t1014 true)) else (laws_FnCast.j0 k t999 t1000 t1001 t1004 t1005 t1014 true)) else (laws_FnCast.j0 k t999 t1000 t1001 t1004 t1005 t1014 true)) else (laws_FnCast.j0 k t999 t1000 t1001 t1004 t1005 t1014 true)) = some r := H
      have A11 := Aside0.mk A110
      clear A110
      have HC12 := Aside0.mk H
      clear H
      go_enter Try.func13, Try.ntmps13
      try go_wp2_with (first | ((with_reducible refine gate_callee (f := 21) rfl ?_); refine goesL_ (some 27) rfl rfl Try.func21 (by kernel_rfl) rfl #[.slice A0 l0.length c0, .slice A1 l1.length c1] rfl (by (try simp only [List.map_toArray, List.map_cons, List.map_nil]); first | done | rfl | (simp only [List.length_drop, List.length_take]; rfl)) ?_; (with_reducible refine (laws_b10Long.calls _ _ l0 _ _ l1 false _ ?side1 ?side2 ?side3 ?side4 A3.out).mono ?_); (case side1 => repeat (first | exact HR0.out | (with_reducible refine Kd.C_alloc ?_ _) | (with_reducible refine Kd.C_drewN ?_ _) | (with_reducible refine Kd.C_drew ?_))); (case side2 => exact HC0.out); (case side3 => repeat (first | exact HR1.out | (with_reducible refine Kd.C_alloc ?_ _) | (with_reducible refine Kd.C_drewN ?_ _) | (with_reducible refine Kd.C_drew ?_))); (case side4 => exact HC1.out); rintro e w' ⟨rfl, ⟨nd, rfl⟩⟩; refine ⟨_, rfl, ?_⟩) | ((with_reducible refine gate_callee (f := 61) rfl ?_); refine goesL_ (some 30) rfl rfl Try.func61 (by kernel_rfl) rfl #[.slice A0 l0.length c0] rfl (by (try simp only [List.map_toArray, List.map_cons, List.map_nil]); first | done | rfl | (simp only [List.length_drop, List.length_take]; rfl)) ?_; (with_reducible refine (spec_B10Orders.calls k _ _ l0 t999 t1000 t1001 _ ?side1 ?side2 A5.out).mono ?_); (case side1 => repeat (first | exact HR0.out | (with_reducible refine Kd.C_alloc ?_ _) | (with_reducible refine Kd.C_drewN ?_ _) | (with_reducible refine Kd.C_drew ?_))); (case side2 => exact HC0.out); rintro e w13 ⟨v1002, rfl, ho0, hb⟩; refine ⟨_, rfl, ?_⟩; have n0_ := Aside0.mk (Kd.R_lower ho0 (below_size (by repeat (first | (with_reducible first | exact HB.out | apply below_alloc | apply pw_below_drewN | apply below_drew1) | exact HB.out)))); have n1_ := Aside0.mk (below_step (by repeat (first | (with_reducible first | exact HB.out | apply below_alloc | apply pw_below_drewN | apply below_drew1) | exact HB.out)) hb); clear HB; have HO1003 := n0_; have HB := n1_; clear n0_ n1_; (try clear hb); (try clear hb2); (try clear hk); (try clear hi); (try clear ho0); obtain ⟨Ao14, co14, eo14⟩ := Kd.R_slice HO1003.out; subst eo14) | ((with_reducible refine gate_callee (f := 46) rfl ?_); refine goesL_ (some 38) rfl rfl Try.func46 (by kernel_rfl) rfl #[.int .i64 t1000, .int .i64 t1001, .slice Ao14 t999.length co14] rfl (by (try simp only [List.map_toArray, List.map_cons, List.map_nil]); first | done | rfl | (simp only [List.length_drop, List.length_take]; rfl)) ?_; (with_reducible refine (impl_FewestMoulds.calls k t1000 t1001 _ _ t999 t1004 t1005 true _ ?side1 ?side2 A6.out).mono ?_); (case side1 => repeat (first | exact (Kd.R_reads' HO1003.out).2.2 | (with_reducible refine Kd.C_alloc ?_ _) | (with_reducible refine Kd.C_drewN ?_ _) | (with_reducible refine Kd.C_drew ?_))); (case side2 => exact (Kd.R_reads' HO1003.out).2.1); rintro e w15 ⟨rfl, hb⟩; refine ⟨_, rfl, ?_⟩; have n0_ := Aside0.mk (Kd.R_below (by (with_reducible repeat (first | apply Kd.R_alloc | apply Kd.R_drewN | apply Kd.R_drew)); exact HO1003.out) hb); have n1_ := Aside0.mk (below_step (by repeat (first | (with_reducible first | exact HB.out | apply below_alloc | apply pw_below_drewN | apply below_drew1) | exact HB.out)) hb); clear HO1003; clear HB; have HO1003 := n0_; have HB := n1_; clear n0_ n1_; (try clear hb); (try clear hb2); (try clear hk); (try clear hi)) | ((with_reducible refine gate_dst (N := 11) rfl ?_); (try (refine gate_guard (by rfl) ?_; dsimp only)); refine box_event ?hg (N := 11) ?hd (cs := #[.int .i64 0, .int .i64 0, .int .i64 0]) (t := 81) ?hr ?_; (case hd => rfl); (case hg => rfl); (case hr => first | (go_simp; done) | (go_simp; rfl)); intro gb1009 hg w16 hbox hb; have n0_ := Aside0.mk (Kd.R_below (by (with_reducible repeat (first | apply Kd.R_alloc | apply Kd.R_drewN | apply Kd.R_drew)); exact HO1003.out) hb); have n1_ := Aside0.mk (below_step (by repeat (first | (with_reducible first | exact HB.out | apply below_alloc | apply pw_below_drewN | apply below_drew1) | exact HB.out)) hb); have n2_ := Aside0.mk (hbox); have n3_ := Aside0.mk ((by rw [hg]; exact (below_size (by repeat (first | (with_reducible first | exact HB.out | apply below_alloc | apply pw_below_drewN | apply below_drew1) | exact HB.out))) : w.heap.size ≤ gb1009)); have n4_ := Aside0.mk ((by rw [hg]; exact (below_size (by repeat (first | (with_reducible first | exact HB.out | apply below_alloc | apply pw_below_drewN | apply below_drew1) | exact HB.out))) : w.heap.size ≤ gb1009)); clear HO1003; clear HB; have HO1003 := n0_; have HB := n1_; have BK1009 := n2_; have GW1009 := n3_; have GE1009 := n4_; clear n0_ n1_ n2_ n3_ n4_; clear hb hbox hg; have hcz17_0 : w16.cell? ⟨gb1009, 0, none⟩ = some (.int .i64 0) := (blk_cell BK1009.out 0).trans rfl; have hcz17_1 : w16.cell? ⟨gb1009, 1, none⟩ = some (.int .i64 0) := (blk_cell BK1009.out 1).trans rfl; have hcz17_2 : w16.cell? ⟨gb1009, 2, none⟩ = some (.int .i64 0) := (blk_cell BK1009.out 2).trans rfl; have hfz17_0 := blk_frozen BK1009.out 0; have hfz17_1 := blk_frozen BK1009.out 1; have hfz17_2 := blk_frozen BK1009.out 2; have hxx17_ : ∀ a_ b_ c_ d_, ((((w16.setCell ⟨gb1009, 0, none⟩ a_).setCell ⟨gb1009, 1, none⟩ b_).setCell ⟨gb1009, 2, none⟩ c_).setCell ⟨gb1009, 2, none⟩ d_).cell? ⟨gb1009, 2, none⟩ = some d_ := (by intro a_ b_ c_ d_; obtain ⟨_, h1_⟩ := cell?_setCell_some (p := ⟨gb1009, 0, none⟩) (x := a_) hcz17_2; obtain ⟨_, h2_⟩ := cell?_setCell_some (p := ⟨gb1009, 1, none⟩) (x := b_) h1_; obtain ⟨_, h3_⟩ := cell?_setCell_some (p := ⟨gb1009, 2, none⟩) (x := c_) h2_; exact World.cell?_setCell_same _ _ _ h3_)) | ((with_reducible refine gate_callee (f := 64) rfl ?_); refine goesL_ (some 58) rfl rfl Try.func64 (by kernel_rfl) rfl #[.agg #[.int .i64 t1004, .int .i64 t1000, .int .i64 t1001], .slice Ao14 t999.length co14] rfl (by (try simp only [List.map_toArray, List.map_cons, List.map_nil]); first | done | rfl | (simp only [List.length_drop, List.length_take]; rfl)) ?_; (with_reducible refine (impl_ShortDays.calls k t1004 t1000 t1001 _ _ t999 t1010 t1013 _ ?side1 ?side2 A8.out).mono ?_); (case side1 => refine (Kd.R_reads' (e := 119) (base := w.heap.size) (ok := fun k_ => True) (n := t999.length) (c := co14) ?_).2.2; exact (by (with_reducible repeat (first | apply Kd.R_alloc | apply Kd.R_drewN | apply Kd.R_drew)); exact (Kd.R_mono (Kd.R_far (p := ⟨gb1009, 2, none⟩) (Kd.R_far (p := ⟨gb1009, 1, none⟩) (Kd.R_far (p := ⟨gb1009, 0, none⟩) (Kd.R_types HO1003.out BK1009.out (by decide)) (fun _ hk => hk.2) (.int .i64 t1004)) (fun _ hk => hk.2) (.int .i64 t1000)) (fun _ hk => hk.2) (.int .i64 t1001)) (fun _ h_ => h_.1)))); (case side2 => exact (Kd.R_reads' HO1003.out).2.1); rintro e w18 ⟨v1011, rfl, ho0, hb⟩; refine ⟨_, rfl, ?_⟩; have n0_ := Aside0.mk (Kd.R_below (by (with_reducible repeat (first | apply Kd.R_alloc | apply Kd.R_drewN | apply Kd.R_drew)); exact (Kd.R_mono (Kd.R_far (p := ⟨gb1009, 2, none⟩) (Kd.R_far (p := ⟨gb1009, 1, none⟩) (Kd.R_far (p := ⟨gb1009, 0, none⟩) (Kd.R_types HO1003.out BK1009.out (by decide)) (fun _ hk => hk.2) (.int .i64 t1004)) (fun _ hk => hk.2) (.int .i64 t1000)) (fun _ hk => hk.2) (.int .i64 t1001)) (fun _ h_ => h_.1))) hb); have n1_ := Aside0.mk (Kd.R_lower ho0 (below_size (by repeat (first | (with_reducible first | exact HB.out | apply below_alloc | apply pw_below_drewN | apply below_drew1 | refine below_set ?_ GE1009.out) | exact HB.out)))); have n2_ := Aside0.mk (blk_below (g := gb1009) (o := .cells #[.int .i64 t1004, .int .i64 t1000, .int .i64 t1001] 81 (0, 0)) (by (with_reducible repeat (first | refine blk_drewN ?_ _ | refine blk_drew ?_ | refine blk_alloc ?_ _)); refine blk_put (cs := #[.int .i64 t1004, .int .i64 t1000, .int .i64 0]) ?_ 2 _ rfl; (with_reducible repeat (first | refine blk_drewN ?_ _ | refine blk_drew ?_ | refine blk_alloc ?_ _)); refine blk_put (cs := #[.int .i64 t1004, .int .i64 0, .int .i64 0]) ?_ 1 _ rfl; (with_reducible repeat (first | refine blk_drewN ?_ _ | refine blk_drew ?_ | refine blk_alloc ?_ _)); refine blk_put (cs := #[.int .i64 0, .int .i64 0, .int .i64 0]) ?_ 0 _ rfl; (with_reducible repeat (first | refine blk_drewN ?_ _ | refine blk_drew ?_ | refine blk_alloc ?_ _)); exact BK1009.out) hb); have n3_ := Aside0.mk (below_step (by repeat (first | (with_reducible first | exact HB.out | apply below_alloc | apply pw_below_drewN | apply below_drew1 | refine below_set ?_ GE1009.out) | exact HB.out)) hb); clear HO1003; clear BK1009; clear HB; have HO1003 := n0_; have HO1012 := n1_; have BK1009 := n2_; have HB := n3_; clear n0_ n1_ n2_ n3_; (try clear hb); (try clear hb2); (try clear hk); (try clear hi); (try clear ho0); have hcz19_0 : w18.cell? ⟨gb1009, 0, none⟩ = some (.int .i64 t1004) := (blk_cell BK1009.out 0).trans rfl; have hcz19_1 : w18.cell? ⟨gb1009, 1, none⟩ = some (.int .i64 t1000) := (blk_cell BK1009.out 1).trans rfl; have hcz19_2 : w18.cell? ⟨gb1009, 2, none⟩ = some (.int .i64 t1001) := (blk_cell BK1009.out 2).trans rfl; have hfz19_0 := blk_frozen BK1009.out 0; have hfz19_1 := blk_frozen BK1009.out 1; have hfz19_2 := blk_frozen BK1009.out 2) | ((with_reducible refine gate_callee (f := 55) rfl ?_); refine goesL_ (some 64) rfl rfl Try.func55 (by kernel_rfl) rfl #[.agg #[.int .i64 t1004, .int .i64 t1000, .int .i64 t1001], .slice Ao14 t999.length co14] rfl (by (try simp only [List.map_toArray, List.map_cons, List.map_nil]); first | done | rfl | (simp only [List.length_drop, List.length_take]; rfl)) ?_; (with_reducible refine (impl_LatestStart.calls k t1004 t1000 t1001 _ _ t999 t1014 t1015 _ ?side1 ?side2 A9.out).mono ?_); (case side1 => repeat (first | exact (Kd.R_reads' HO1003.out).2.2 | (with_reducible refine Kd.C_alloc ?_ _) | (with_reducible refine Kd.C_drewN ?_ _) | (with_reducible refine Kd.C_drew ?_))); (case side2 => exact (Kd.R_reads' HO1003.out).2.1); rintro e w20 ⟨rfl, hb⟩; refine ⟨_, rfl, ?_⟩; have n0_ := Aside0.mk (Kd.R_below (by (with_reducible repeat (first | apply Kd.R_alloc | apply Kd.R_drewN | apply Kd.R_drew)); exact HO1003.out) hb); have n1_ := Aside0.mk (Kd.R_below (by (with_reducible repeat (first | apply Kd.R_alloc | apply Kd.R_drewN | apply Kd.R_drew)); exact HO1012.out) hb); have n2_ := Aside0.mk (blk_below (g := gb1009) (o := .cells #[.int .i64 t1004, .int .i64 t1000, .int .i64 t1001] 81 (0, 0)) (by (with_reducible repeat (first | refine blk_drewN ?_ _ | refine blk_drew ?_ | refine blk_alloc ?_ _)); exact BK1009.out) hb); have n3_ := Aside0.mk (below_step (by repeat (first | (with_reducible first | exact HB.out | apply below_alloc | apply pw_below_drewN | apply below_drew1 | refine below_set ?_ GE1009.out) | exact HB.out)) hb); clear HO1003; clear HO1012; clear BK1009; clear HB; have HO1003 := n0_; have HO1012 := n1_; have BK1009 := n2_; have HB := n3_; clear n0_ n1_ n2_ n3_; (try clear hb); (try clear hb2); (try clear hk); (try clear hi)))
      have n0_ := Aside0.mk (Kd.R_drew HO1003.out)
      have n1_ := Aside0.mk (Kd.R_drew HO1012.out)
      have n2_ := Aside0.mk (blk_drew BK1009.out)
      have n3_ := Aside0.mk (below_drew1 HB.out)
      clear HO1003
      clear HO1012
      clear BK1009
      clear HB
      have HO1003 := n0_
      have HO1012 := n1_
      have BK1009 := n2_
      have HB := n3_
      clear n0_ n1_ n2_ n3_
      refine start_ (n := 10) (S := fun w' => w'.cell? ⟨gb1009, 0, none⟩ = some (.int .i64 t1004) ∧ w'.cell? ⟨gb1009, 1, none⟩ = some (.int .i64 t1000) ∧ w'.cell? ⟨gb1009, 2, none⟩ = some (.int .i64 t1001)) (ds := []) #[false, false, false, false, false, false, false, false, false, false] (by kernel_rfl) rfl rfl ⟨(blk_cell BK1009.out 0).trans rfl, (blk_cell BK1009.out 1).trans rfl, (blk_cell BK1009.out 2).trans rfl⟩ (fun hHeld => ?_); refine with_tabW laws_FnCast.tab10 laws_FnCast.bits10 (fun HT_ HW_ => ?_)
      generalize w20.drew = w21 at HO1003 HO1012 BK1009 HB hHeld ⊢
      refine pure_ (i := 1) (N := some 69) (v := ?_) (a' := ?_) #[false, true, false, false, false, false, false, false, false, false] rfl rfl (any_of HT_.out (by kernel_rfl)) (fun _ _ _ h => h) (Or.inl ⟨by rfl, ?_⟩) ?_ ?_
      rotate_left
      · intro w'
        go_simp
        with_reducible rfl
      rotate_left
      · simp only [Act.put, List.setIfInBounds_toArray, List.set_cons_zero, List.set_cons_succ, i64_w, i32_w]
        rfl
      refine pure_ (i := 2) (N := some 70) (v := ?_) (a' := ?_) #[false, true, true, false, false, false, false, false, false, false] rfl rfl (any_of HT_.out (by kernel_rfl)) (fun _ _ _ h => h) (Or.inl ⟨by rfl, ?_⟩) ?_ ?_
      rotate_left
      · intro w'
        go_simp
        with_reducible rfl
      rotate_left
      · simp only [Act.put, List.setIfInBounds_toArray, List.set_cons_zero, List.set_cons_succ, i64_w, i32_w]
        rfl
      refine take_ (i := 0) (N := some 68) (v := ?_) (a' := ?_) #[true, true, true, false, false, false, false, false, false, false] rfl rfl (take_ofW HT_.out HW_.out (by kernel_rfl)) (fun _ _ _ h => h) (Or.inl ⟨by rfl, ?_⟩) hHeld ?_ ?_
      rotate_left
      · rintro w' ⟨s0, s1, s2⟩
        go_simp
        with_reducible rfl
      rotate_left
      · simp only [Act.put, List.setIfInBounds_toArray, List.set_cons_zero, List.set_cons_succ, i64_w, i32_w]
        rfl
      refine one_ (i := 3) (N := some 71) #[true, true, true, true, false, false, false, false, false, false] rfl rfl (one_of HT_.out (by kernel_rfl)) (by decide) (fun K hK => ?_)
      refine goes_ Try.func66 (by kernel_rfl) rfl #[.slice A1 l1.length c1, .int .i64 0, .int .i64 201] (by rfl) rfl rfl (by (try simp only [List.map_toArray, List.map_cons, List.map_nil]); first | done | rfl | (simp only [List.length_drop, List.length_take]; rfl)) ?_
      with_reducible refine (laws_b10At.calls _ _ l1 0 201 t1016 _ ?side1 ?side2 A10.out).mono ?_
      (case side1 => repeat (first | exact (Kd.C_below HR1.out HB.out) | (with_reducible refine Kd.C_alloc ?_ _) | (with_reducible refine Kd.C_drewN ?_ _) | (with_reducible refine Kd.C_drew ?_)))
      (case side2 => exact HC1.out)
      rintro e w' ⟨rfl, ⟨nd, rfl⟩⟩
      refine ⟨_, rfl, ?_⟩
      refine hK.out _ _ ⟨(blk_cell BK1009.out 0).trans rfl, (blk_cell BK1009.out 1).trans rfl, (blk_cell BK1009.out 2).trans rfl⟩ (fun hHeld => ?_)
      clear hK K
      refine norm_ (a' := ?_) ?_ ?_
      rotate_left
      · show Act.put _ (some 71) _ = _
        simp only [Act.put, List.setIfInBounds_toArray, List.set_cons_zero, List.set_cons_succ, i64_w, i32_w]
        rfl
      refine one_ (i := 4) (N := some 72) #[true, true, true, true, true, false, false, false, false, false] rfl rfl (one_of HT_.out (by kernel_rfl)) (by decide) (fun K hK => ?_)
      refine goes_ Try.func65 (by kernel_rfl) rfl #[.agg #[.int .i64 t1004, .int .i64 t1000, .int .i64 t1001], .slice Ao14 t999.length co14, .int .i64 t1016] (by rfl) rfl rfl (by (try simp only [List.map_toArray, List.map_cons, List.map_nil]); first | done | rfl | (simp only [List.length_drop, List.length_take]; rfl)) ?_
      with_reducible refine (impl_StockOn.calls k t1004 t1000 t1001 _ _ t999 t1016 t1017 t1018 _ ?side1 ?side2 A11.out).mono ?_
      (case side1 => repeat (first | exact (Kd.R_reads' HO1003.out).2.2 | (with_reducible refine Kd.C_alloc ?_ _) | (with_reducible refine Kd.C_drewN ?_ _) | (with_reducible refine Kd.C_drew ?_)))
      (case side2 => exact (Kd.R_reads' HO1003.out).2.1)
      rintro e w22 ⟨rfl, hb⟩
      refine ⟨_, rfl, ?_⟩
      have n0_ := Aside0.mk (Kd.R_below (by (with_reducible repeat (first | apply Kd.R_alloc | apply Kd.R_drewN | apply Kd.R_drew)); exact HO1003.out) hb)
      have n1_ := Aside0.mk (Kd.R_below (by (with_reducible repeat (first | apply Kd.R_alloc | apply Kd.R_drewN | apply Kd.R_drew)); exact HO1012.out) hb)
      have n2_ := Aside0.mk (blk_below (g := gb1009) (o := .cells #[.int .i64 t1004, .int .i64 t1000, .int .i64 t1001] 81 (0, 0)) (by (with_reducible repeat (first | refine blk_drewN ?_ _ | refine blk_drew ?_ | refine blk_alloc ?_ _)); exact BK1009.out) hb)
      have n3_ := Aside0.mk (below_step (by repeat (first | (with_reducible first | exact HB.out | apply below_alloc | apply pw_below_drewN | apply below_drew1 | refine below_set ?_ GE1009.out) | exact HB.out)) hb)
      clear HO1003
      clear HO1012
      clear BK1009
      clear HB
      have HO1003 := n0_
      have HO1012 := n1_
      have BK1009 := n2_
      have HB := n3_
      clear n0_ n1_ n2_ n3_
      (try clear hb)
      (try clear hb2)
      (try clear hk)
      (try clear hi)
      refine hK.out _ _ ⟨(blk_cell BK1009.out 0).trans rfl, (blk_cell BK1009.out 1).trans rfl, (blk_cell BK1009.out 2).trans rfl⟩ (fun hHeld => ?_)
      clear hK K
      refine norm_ (a' := ?_) ?_ ?_
      rotate_left
      · show Act.put _ (some 72) _ = _
        simp only [Act.put, List.setIfInBounds_toArray, List.set_cons_zero, List.set_cons_succ, i64_w, i32_w]
        rfl
      refine pure_ (i := 5) (N := some 67) (v := ?_) (a' := ?_) #[true, true, true, true, true, true, false, false, false, false] rfl rfl (any_of HT_.out (by kernel_rfl)) (fun _ _ _ h => h) (Or.inl ⟨by rfl, ?_⟩) ?_ ?_
      rotate_left
      · intro w'
        go_simp
        with_reducible rfl
      rotate_left
      · simp only [Act.put, List.setIfInBounds_toArray, List.set_cons_zero, List.set_cons_succ, i64_w, i32_w]
        rfl
      refine pure_ (i := 6) (N := some 73) (v := ?_) (a' := ?_) #[true, true, true, true, true, true, true, false, false, false] rfl rfl (any_of HT_.out (by kernel_rfl)) (fun _ _ _ h => h) (Or.inl ⟨by rfl, ?_⟩) ?_ ?_
      rotate_left
      · intro w'
        go_simp
        with_reducible rfl
      rotate_left
      · simp only [Act.put, List.setIfInBounds_toArray, List.set_cons_zero, List.set_cons_succ, i64_w, i32_w]
        rfl
      refine pure_ (i := 7) (N := some 74) (v := ?_) (a' := ?_) #[true, true, true, true, true, true, true, true, false, false] rfl rfl (any_of HT_.out (by kernel_rfl)) (fun _ _ _ h => h) (Or.inl ⟨by rfl, ?_⟩) ?_ ?_
      rotate_left
      · intro w'
        go_simp
        with_reducible rfl
      rotate_left
      · simp only [Act.put, List.setIfInBounds_toArray, List.set_cons_zero, List.set_cons_succ, i64_w, i32_w]
        rfl
      refine pure_ (i := 8) (N := some 16) (v := ?_) (a' := ?_) #[true, true, true, true, true, true, true, true, true, false] rfl rfl (any_of HT_.out (by kernel_rfl)) (fun _ _ _ h => h) (Or.inl ⟨by rfl, ?_⟩) ?_ ?_
      rotate_left
      · intro w'
        go_simp
        with_reducible rfl
      rotate_left
      · simp only [Act.put, List.setIfInBounds_toArray, List.set_cons_zero, List.set_cons_succ, i64_w, i32_w]
        rfl
      refine pure_ (i := 9) (N := some 17) (v := ?_) (a' := ?_) #[true, true, true, true, true, true, true, true, true, true] rfl rfl (any_of HT_.out (by kernel_rfl)) (fun _ _ _ h => h) (Or.inl ⟨by rfl, ?_⟩) ?_ ?_
      rotate_left
      · intro w'
        go_simp
        with_reducible rfl
      rotate_left
      · simp only [Act.put, List.setIfInBounds_toArray, List.set_cons_zero, List.set_cons_succ, i64_w, i32_w]
        rfl
      refine done_ (done_of HT_.out (by kernel_rfl)) ?_
      go_upto_region 11 with (fail)
      go_cut [97] (fun v97 wc => ∃ (kq : Nat) (x97_11 : Bool), v97 = .bool x97_11 ∧ Aside0 (laws_FnCast.j0 kq t999 t1000 t1001 t1004 t1005 t1014 x97_11 = some r) ∧ Aside0 (kq ≤ k) ∧ Aside0 (Kd.R k119 119 wc w.heap.size (fun _ => True) (.slice Ao14 t999.length co14) t999) ∧ Aside0 (wc.heap[gb1009]? = some (.cells #[.int .i64 t1004, .int .i64 t1000, .int .i64 t1001] 81 (0, 0))) ∧ Aside0 (Below w.heap.size w wc))
      case first =>
        have H := HC12.out
        clear HC12
        by_cases c23 : t1013 = true
        · subst c23
          have H1 : (if t1015 = true then (if t1018 = true then (if (t1010.length : Int) = 0 then (if t1014 < 0 then (laws_FnCast.j0 k t999 t1000 t1001 t1004 t1005 t1014 true) else (laws_FnCast.j0 k t999 t1000 t1001 t1004 t1005 t1014 (decide (t1017 < 0)))) else (laws_FnCast.j0 k t999 t1000 t1001 t1004 t1005 t1014 true)) else (laws_FnCast.j0 k t999 t1000 t1001 t1004 t1005 t1014 true)) else (laws_FnCast.j0 k t999 t1000 t1001 t1004 t1005 t1014 true)) = some r := by rw [if_pos rfl] at H; exact H
          clear H
          have H := H1
          clear H1
          by_cases c24 : t1015 = true
          · subst c24
            have H1 : (if t1018 = true then (if (t1010.length : Int) = 0 then (if t1014 < 0 then (laws_FnCast.j0 k t999 t1000 t1001 t1004 t1005 t1014 true) else (laws_FnCast.j0 k t999 t1000 t1001 t1004 t1005 t1014 (decide (t1017 < 0)))) else (laws_FnCast.j0 k t999 t1000 t1001 t1004 t1005 t1014 true)) else (laws_FnCast.j0 k t999 t1000 t1001 t1004 t1005 t1014 true)) = some r := by rw [if_pos rfl] at H; exact H
            clear H
            have H := H1
            clear H1
            by_cases c25 : t1018 = true
            · subst c25
              have H1 : (if (t1010.length : Int) = 0 then (if t1014 < 0 then (laws_FnCast.j0 k t999 t1000 t1001 t1004 t1005 t1014 true) else (laws_FnCast.j0 k t999 t1000 t1001 t1004 t1005 t1014 (decide (t1017 < 0)))) else (laws_FnCast.j0 k t999 t1000 t1001 t1004 t1005 t1014 true)) = some r := by rw [if_pos rfl] at H; exact H
              clear H
              have H := H1
              clear H1
              by_cases c26 : (t1010.length : Int) = 0
              · rw [if_pos c26] at H
                have c26b0 : ((t1010.length : Int) == 0) = true := beq_iff_eq.mpr c26
                have c26b1 : ((t1010.length : Int) != 0) = false := bne_eq_false_iff_eq.mpr c26
                clear c26
                (first | rw [c26b0] | (simp only [i64_w, i32_w]; rw [c26b0]) | skip)
                by_cases c27 : t1014 < 0
                · rw [if_pos c27] at H
                  have c27b0 : decide (t1014 < 0) = true := decide_eq_true c27
                  clear c27
                  have H' := Aside0.mk H
                  clear H
                  obtain ⟨Ao28, co28, eo28⟩ := Kd.R_slice HO1012.out
                  subst eo28
                  go_wp2
                  go_meet
                  case rel => exact ⟨_, (true), (by first | rfl | (simp; done) | (simp [*]; done) | (simp [Int.tdiv_eq_ediv_of_nonneg, *]; done)), H', ⟨by first | omega | exact Nat.le_refl _⟩, ⟨by (with_reducible repeat (first | apply Kd.R_alloc | apply Kd.R_drewN | apply Kd.R_drew)); exact HO1003.out⟩, ⟨by (with_reducible repeat (first | refine blk_drewN ?_ _ | refine blk_drew ?_ | refine blk_alloc ?_ _)); exact BK1009.out⟩, ⟨by repeat (first | (with_reducible first | exact HB.out | apply below_alloc | apply pw_below_drewN | apply below_drew1 | refine below_set ?_ GE1009.out) | exact HB.out)⟩⟩
                · rw [if_neg c27] at H
                  have c27b0 : decide (t1014 < 0) = false := decide_eq_false c27
                  clear c27
                  have H' := Aside0.mk H
                  clear H
                  obtain ⟨Ao29, co29, eo29⟩ := Kd.R_slice HO1012.out
                  subst eo29
                  go_wp2
                  go_meet
                  case rel => exact ⟨_, (decide (t1017 < 0)), (by first | rfl | (simp; done) | (simp [*]; done) | (simp [Int.tdiv_eq_ediv_of_nonneg, *]; done)), H', ⟨by first | omega | exact Nat.le_refl _⟩, ⟨by (with_reducible repeat (first | apply Kd.R_alloc | apply Kd.R_drewN | apply Kd.R_drew)); exact HO1003.out⟩, ⟨by (with_reducible repeat (first | refine blk_drewN ?_ _ | refine blk_drew ?_ | refine blk_alloc ?_ _)); exact BK1009.out⟩, ⟨by repeat (first | (with_reducible first | exact HB.out | apply below_alloc | apply pw_below_drewN | apply below_drew1 | refine below_set ?_ GE1009.out) | exact HB.out)⟩⟩
              · rw [if_neg c26] at H
                have c26b0 : ((t1010.length : Int) == 0) = false := beq_eq_false_iff_ne.mpr c26
                have c26b1 : ((t1010.length : Int) != 0) = true := bne_iff_ne.mpr c26
                have c26b2 : ¬ (t1010 = []) := fun h_ => c26 (by rw [h_]; rfl)
                (first | rw [c26b0] | (simp only [i64_w, i32_w]; rw [c26b0]) | skip)
                have H' := Aside0.mk H
                clear H
                obtain ⟨Ao30, co30, eo30⟩ := Kd.R_slice HO1012.out
                subst eo30
                go_wp2
                go_meet
                case rel => exact ⟨_, (true), (by first | rfl | (simp; done) | (simp [*]; done) | (simp [Int.tdiv_eq_ediv_of_nonneg, *]; done)), H', ⟨by first | omega | exact Nat.le_refl _⟩, ⟨by (with_reducible repeat (first | apply Kd.R_alloc | apply Kd.R_drewN | apply Kd.R_drew)); exact HO1003.out⟩, ⟨by (with_reducible repeat (first | refine blk_drewN ?_ _ | refine blk_drew ?_ | refine blk_alloc ?_ _)); exact BK1009.out⟩, ⟨by repeat (first | (with_reducible first | exact HB.out | apply below_alloc | apply pw_below_drewN | apply below_drew1 | refine below_set ?_ GE1009.out) | exact HB.out)⟩⟩
            · replace c25 := Bool.eq_false_iff.mpr c25
              subst c25
              have H1 : (laws_FnCast.j0 k t999 t1000 t1001 t1004 t1005 t1014 true) = some r := by rw [if_neg (show ¬ (false = true) by decide)] at H; exact H
              clear H
              have H := H1
              clear H1
              have H' := Aside0.mk H
              clear H
              go_wp2
              go_meet
              case rel => exact ⟨_, (true), (by first | rfl | (simp; done) | (simp [*]; done) | (simp [Int.tdiv_eq_ediv_of_nonneg, *]; done)), H', ⟨by first | omega | exact Nat.le_refl _⟩, ⟨by (with_reducible repeat (first | apply Kd.R_alloc | apply Kd.R_drewN | apply Kd.R_drew)); exact HO1003.out⟩, ⟨by (with_reducible repeat (first | refine blk_drewN ?_ _ | refine blk_drew ?_ | refine blk_alloc ?_ _)); exact BK1009.out⟩, ⟨by repeat (first | (with_reducible first | exact HB.out | apply below_alloc | apply pw_below_drewN | apply below_drew1 | refine below_set ?_ GE1009.out) | exact HB.out)⟩⟩
          · replace c24 := Bool.eq_false_iff.mpr c24
            subst c24
            have H1 : (laws_FnCast.j0 k t999 t1000 t1001 t1004 t1005 t1014 true) = some r := by rw [if_neg (show ¬ (false = true) by decide)] at H; exact H
            clear H
            have H := H1
            clear H1
            have H' := Aside0.mk H
            clear H
            go_wp2
            go_meet
            case rel => exact ⟨_, (true), (by first | rfl | (simp; done) | (simp [*]; done) | (simp [Int.tdiv_eq_ediv_of_nonneg, *]; done)), H', ⟨by first | omega | exact Nat.le_refl _⟩, ⟨by (with_reducible repeat (first | apply Kd.R_alloc | apply Kd.R_drewN | apply Kd.R_drew)); exact HO1003.out⟩, ⟨by (with_reducible repeat (first | refine blk_drewN ?_ _ | refine blk_drew ?_ | refine blk_alloc ?_ _)); exact BK1009.out⟩, ⟨by repeat (first | (with_reducible first | exact HB.out | apply below_alloc | apply pw_below_drewN | apply below_drew1 | refine below_set ?_ GE1009.out) | exact HB.out)⟩⟩
        · replace c23 := Bool.eq_false_iff.mpr c23
          subst c23
          have H1 : (laws_FnCast.j0 k t999 t1000 t1001 t1004 t1005 t1014 true) = some r := by rw [if_neg (show ¬ (false = true) by decide)] at H; exact H
          clear H
          have H := H1
          clear H1
          have H' := Aside0.mk H
          clear H
          go_wp2
          go_meet
          case rel => exact ⟨_, (true), (by first | rfl | (simp; done) | (simp [*]; done) | (simp [Int.tdiv_eq_ediv_of_nonneg, *]; done)), H', ⟨by first | omega | exact Nat.le_refl _⟩, ⟨by (with_reducible repeat (first | apply Kd.R_alloc | apply Kd.R_drewN | apply Kd.R_drew)); exact HO1003.out⟩, ⟨by (with_reducible repeat (first | refine blk_drewN ?_ _ | refine blk_drew ?_ | refine blk_alloc ?_ _)); exact BK1009.out⟩, ⟨by repeat (first | (with_reducible first | exact HB.out | apply below_alloc | apply pw_below_drewN | apply below_drew1 | refine below_set ?_ GE1009.out) | exact HB.out)⟩⟩
      case rest =>
        clear HC12
        try clear c1
        try clear c2
        try clear p2
        try clear c4
        try clear c5
        try clear c6
        try clear c7
        try clear c13
        try clear c21
        try clear c23
        try clear c24
        try clear c25
        try clear c26
        try clear c26b0
        try clear c26b1
        try clear c26b2
        try clear c27
        try clear c27b0
        try clear hcz17_0
        try clear hcz17_1
        try clear hcz17_2
        try clear hcz19_0
        try clear hcz19_1
        try clear hcz19_2
        try clear hfz17_0
        try clear hfz17_1
        try clear hfz17_2
        try clear hfz19_0
        try clear hfz19_1
        try clear hfz19_2
        obtain ⟨kq, x97_11, rfl, HA, HJ11, HO_5, BK1009, HB⟩ := hcut
        cases kq with
        | zero => exact absurd HA.out (by simp [laws_FnCast.j0])
        | succ kj11 =>
          have H := HA.out
          clear HA
          simp only [laws_FnCast.j0] at H
          by_cases c31 : x97_11 = true
          · subst c31
            have H1 : (some false) = some r := by rw [if_pos rfl] at H; exact H
            clear H
            have H := H1
            clear H1
            obtain rfl := Option.some.inj H
            go_wp2
            go_ret
            exact ⟨by first | rfl | (simp [errW_none, errW_some] <;> rfl) | (simp [*, errW_none, errW_some] <;> rfl) | (simp [Int.tdiv_eq_ediv_of_nonneg, *]; done), by repeat (first | (with_reducible first | exact HB.out | apply below_alloc | apply pw_below_drewN | apply below_drew1 | refine below_set ?_ GE1009.out) | exact HB.out)⟩
          · replace c31 := Bool.eq_false_iff.mpr c31
            subst c31
            have H1 : (if t1004 > 1 then ((impl_ShortDays.f kj11 (wrap64 (t1004 - 1)) t1000 t1001 t999).bind fun bt1019 => (if bt1019.2 = true then ((laws_b10Has.f kj11 bt1019.1 t1005).bind fun t1023 => (if t1023 = true then (laws_FnCast.j1 kj11 t999 t1000 t1001 t1004 t1014) else (some false))) else (some false))) else (laws_FnCast.j1 kj11 t999 t1000 t1001 t1004 t1014)) = some r := by rw [if_neg (show ¬ (false = true) by decide)] at H; exact H
            clear H
            have H := H1
            clear H1
            have HC32 := Aside0.mk H
            clear H
            go_upto_if 99 with (fail)
            go_cut [] (fun wc => ∃ (kq : Nat), Aside0 (laws_FnCast.j1 kq t999 t1000 t1001 t1004 t1014 = some r) ∧ Aside0 (kq ≤ kj11) ∧ Aside0 (Kd.R k119 119 wc w.heap.size (fun _ => True) (.slice Ao14 t999.length co14) t999) ∧ Aside0 (wc.heap[gb1009]? = some (.cells #[.int .i64 t1004, .int .i64 t1000, .int .i64 t1001] 81 (0, 0))) ∧ Aside0 (Below w.heap.size w wc))
            case first =>
              have H := HC32.out
              clear HC32
              by_cases c33 : t1004 > 1
              · rw [if_pos c33] at H
                have c33b0 : decide (1 < t1004) = true := decide_eq_true c33
                clear c33
                (first | rw [c33b0] | (simp only [i64_w, i32_w]; rw [c33b0]) | skip)
                replace H := Option.bind_eq_some_iff.mp H
                obtain ⟨⟨t1019, t1022⟩, A340, H⟩ := H
                replace H : (if t1022 = true then ((laws_b10Has.f kj11 t1019 t1005).bind fun t1023 => (if t1023 = true then (laws_FnCast.j1 kj11 t999 t1000 t1001 t1004 t1014) else (some false))) else (some false)) = some r := H
                have A34 := Aside0.mk A340
                clear A340
                by_cases c35 : t1022 = true
                · subst c35
                  have H1 : ((laws_b10Has.f kj11 t1019 t1005).bind fun t1023 => (if t1023 = true then (laws_FnCast.j1 kj11 t999 t1000 t1001 t1004 t1014) else (some false))) = some r := by rw [if_pos rfl] at H; exact H
                  clear H
                  have H := H1
                  clear H1
                  replace H := Option.bind_eq_some_iff.mp H
                  obtain ⟨t1023, A360, H⟩ := H
                  replace H : (if t1023 = true then (laws_FnCast.j1 kj11 t999 t1000 t1001 t1004 t1014) else (some false)) = some r := H
                  have A36 := Aside0.mk A360
                  clear A360
                  by_cases c37 : t1023 = true
                  · subst c37
                    have H1 : (laws_FnCast.j1 kj11 t999 t1000 t1001 t1004 t1014) = some r := by rw [if_pos rfl] at H; exact H
                    clear H
                    have H := H1
                    clear H1
                    have H' := Aside0.mk H
                    clear H
                    go_wp2_with (first | ((with_reducible refine gate_callee (f := 64) rfl ?_); refine goesL_ (some 107) rfl rfl Try.func64 (by kernel_rfl) rfl #[.agg #[.int .i64 (wrap64 (t1004 - 1)), .int .i64 t1000, .int .i64 t1001], .slice Ao14 t999.length co14] rfl (by (try simp only [List.map_toArray, List.map_cons, List.map_nil]); first | done | rfl | (simp only [List.length_drop, List.length_take]; rfl)) ?_; (with_reducible refine (impl_ShortDays.calls kj11 (wrap64 (t1004 - 1)) t1000 t1001 _ _ t999 t1019 true _ ?side1 ?side2 A34.out).mono ?_); (case side1 => repeat (first | exact (Kd.R_reads' HO_5.out).2.2 | (with_reducible refine Kd.C_alloc ?_ _) | (with_reducible refine Kd.C_drewN ?_ _) | (with_reducible refine Kd.C_drew ?_))); (case side2 => exact (Kd.R_reads' HO_5.out).2.1); rintro e w38 ⟨v1020, rfl, ho0, hb⟩; refine ⟨_, rfl, ?_⟩; have n0_ := Aside0.mk (Kd.R_below (by (with_reducible repeat (first | apply Kd.R_alloc | apply Kd.R_drewN | apply Kd.R_drew)); exact HO_5.out) hb); have n1_ := Aside0.mk (Kd.R_lower ho0 (below_size (by repeat (first | (with_reducible first | exact HB.out | apply below_alloc | apply pw_below_drewN | apply below_drew1 | refine below_set ?_ GE1009.out) | exact HB.out)))); have n2_ := Aside0.mk (blk_below (g := gb1009) (o := .cells #[.int .i64 t1004, .int .i64 t1000, .int .i64 t1001] 81 (0, 0)) (by (with_reducible repeat (first | refine blk_drewN ?_ _ | refine blk_drew ?_ | refine blk_alloc ?_ _)); exact BK1009.out) hb); have n3_ := Aside0.mk (below_step (by repeat (first | (with_reducible first | exact HB.out | apply below_alloc | apply pw_below_drewN | apply below_drew1 | refine below_set ?_ GE1009.out) | exact HB.out)) hb); clear HO_5; clear BK1009; clear HB; have HO_5 := n0_; have HO1021 := n1_; have BK1009 := n2_; have HB := n3_; clear n0_ n1_ n2_ n3_; (try clear hb); (try clear hb2); (try clear hk); (try clear hi); (try clear ho0); obtain ⟨Ao39, co39, eo39⟩ := Kd.R_slice HO1021.out; subst eo39) | (go_at_call 67; (with_reducible refine (laws_b10Has.calls kj11 _ _ t1019 t1005 true _ ?side1 ?side2 A36.out).mono ?_); (case side1 => repeat (first | exact (Kd.R_reads' HO1021.out).2.2 | (with_reducible refine Kd.C_alloc ?_ _) | (with_reducible refine Kd.C_drewN ?_ _) | (with_reducible refine Kd.C_drew ?_))); (case side2 => exact (Kd.R_reads' HO1021.out).2.1); rintro e w' ⟨rfl, ⟨nd, rfl⟩⟩))
                    go_meet
                    case rel => exact ⟨_, H', ⟨by have := HJ11.out; first | omega | exact Nat.le_refl _⟩, ⟨by (with_reducible repeat (first | apply Kd.R_alloc | apply Kd.R_drewN | apply Kd.R_drew)); exact HO_5.out⟩, ⟨by (with_reducible repeat (first | refine blk_drewN ?_ _ | refine blk_drew ?_ | refine blk_alloc ?_ _)); exact BK1009.out⟩, ⟨by repeat (first | (with_reducible first | exact HB.out | apply below_alloc | apply pw_below_drewN | apply below_drew1 | refine below_set ?_ GE1009.out) | exact HB.out)⟩⟩
                  · replace c37 := Bool.eq_false_iff.mpr c37
                    subst c37
                    have H1 : (some false) = some r := by rw [if_neg (show ¬ (false = true) by decide)] at H; exact H
                    clear H
                    have H := H1
                    clear H1
                    obtain rfl := Option.some.inj H
                    go_wp2_with (first | ((with_reducible refine gate_callee (f := 64) rfl ?_); refine goesL_ (some 107) rfl rfl Try.func64 (by kernel_rfl) rfl #[.agg #[.int .i64 (wrap64 (t1004 - 1)), .int .i64 t1000, .int .i64 t1001], .slice Ao14 t999.length co14] rfl (by (try simp only [List.map_toArray, List.map_cons, List.map_nil]); first | done | rfl | (simp only [List.length_drop, List.length_take]; rfl)) ?_; (with_reducible refine (impl_ShortDays.calls kj11 (wrap64 (t1004 - 1)) t1000 t1001 _ _ t999 t1019 true _ ?side1 ?side2 A34.out).mono ?_); (case side1 => repeat (first | exact (Kd.R_reads' HO_5.out).2.2 | (with_reducible refine Kd.C_alloc ?_ _) | (with_reducible refine Kd.C_drewN ?_ _) | (with_reducible refine Kd.C_drew ?_))); (case side2 => exact (Kd.R_reads' HO_5.out).2.1); rintro e w40 ⟨v1020, rfl, ho0, hb⟩; refine ⟨_, rfl, ?_⟩; have n0_ := Aside0.mk (Kd.R_below (by (with_reducible repeat (first | apply Kd.R_alloc | apply Kd.R_drewN | apply Kd.R_drew)); exact HO_5.out) hb); have n1_ := Aside0.mk (Kd.R_lower ho0 (below_size (by repeat (first | (with_reducible first | exact HB.out | apply below_alloc | apply pw_below_drewN | apply below_drew1 | refine below_set ?_ GE1009.out) | exact HB.out)))); have n2_ := Aside0.mk (blk_below (g := gb1009) (o := .cells #[.int .i64 t1004, .int .i64 t1000, .int .i64 t1001] 81 (0, 0)) (by (with_reducible repeat (first | refine blk_drewN ?_ _ | refine blk_drew ?_ | refine blk_alloc ?_ _)); exact BK1009.out) hb); have n3_ := Aside0.mk (below_step (by repeat (first | (with_reducible first | exact HB.out | apply below_alloc | apply pw_below_drewN | apply below_drew1 | refine below_set ?_ GE1009.out) | exact HB.out)) hb); clear HO_5; clear BK1009; clear HB; have HO_5 := n0_; have HO1021 := n1_; have BK1009 := n2_; have HB := n3_; clear n0_ n1_ n2_ n3_; (try clear hb); (try clear hb2); (try clear hk); (try clear hi); (try clear ho0); obtain ⟨Ao41, co41, eo41⟩ := Kd.R_slice HO1021.out; subst eo41) | (go_at_call 67; (with_reducible refine (laws_b10Has.calls kj11 _ _ t1019 t1005 false _ ?side1 ?side2 A36.out).mono ?_); (case side1 => repeat (first | exact (Kd.R_reads' HO1021.out).2.2 | (with_reducible refine Kd.C_alloc ?_ _) | (with_reducible refine Kd.C_drewN ?_ _) | (with_reducible refine Kd.C_drew ?_))); (case side2 => exact (Kd.R_reads' HO1021.out).2.1); rintro e w' ⟨rfl, ⟨nd, rfl⟩⟩))
                    go_ret
                    exact ⟨by first | rfl | (simp [errW_none, errW_some] <;> rfl) | (simp [*, errW_none, errW_some] <;> rfl) | (simp [Int.tdiv_eq_ediv_of_nonneg, *]; done), by repeat (first | (with_reducible first | exact HB.out | apply below_alloc | apply pw_below_drewN | apply below_drew1 | refine below_set ?_ GE1009.out) | exact HB.out)⟩
                · replace c35 := Bool.eq_false_iff.mpr c35
                  subst c35
                  have H1 : (some false) = some r := by rw [if_neg (show ¬ (false = true) by decide)] at H; exact H
                  clear H
                  have H := H1
                  clear H1
                  obtain rfl := Option.some.inj H
                  go_wp2_with (first | ((with_reducible refine gate_callee (f := 64) rfl ?_); refine goesL_ (some 107) rfl rfl Try.func64 (by kernel_rfl) rfl #[.agg #[.int .i64 (wrap64 (t1004 - 1)), .int .i64 t1000, .int .i64 t1001], .slice Ao14 t999.length co14] rfl (by (try simp only [List.map_toArray, List.map_cons, List.map_nil]); first | done | rfl | (simp only [List.length_drop, List.length_take]; rfl)) ?_; (with_reducible refine (impl_ShortDays.calls kj11 (wrap64 (t1004 - 1)) t1000 t1001 _ _ t999 t1019 false _ ?side1 ?side2 A34.out).mono ?_); (case side1 => repeat (first | exact (Kd.R_reads' HO_5.out).2.2 | (with_reducible refine Kd.C_alloc ?_ _) | (with_reducible refine Kd.C_drewN ?_ _) | (with_reducible refine Kd.C_drew ?_))); (case side2 => exact (Kd.R_reads' HO_5.out).2.1); rintro e w42 ⟨v1020, rfl, ho0, hb⟩; refine ⟨_, rfl, ?_⟩; have n0_ := Aside0.mk (Kd.R_below (by (with_reducible repeat (first | apply Kd.R_alloc | apply Kd.R_drewN | apply Kd.R_drew)); exact HO_5.out) hb); have n1_ := Aside0.mk (Kd.R_lower ho0 (below_size (by repeat (first | (with_reducible first | exact HB.out | apply below_alloc | apply pw_below_drewN | apply below_drew1 | refine below_set ?_ GE1009.out) | exact HB.out)))); have n2_ := Aside0.mk (blk_below (g := gb1009) (o := .cells #[.int .i64 t1004, .int .i64 t1000, .int .i64 t1001] 81 (0, 0)) (by (with_reducible repeat (first | refine blk_drewN ?_ _ | refine blk_drew ?_ | refine blk_alloc ?_ _)); exact BK1009.out) hb); have n3_ := Aside0.mk (below_step (by repeat (first | (with_reducible first | exact HB.out | apply below_alloc | apply pw_below_drewN | apply below_drew1 | refine below_set ?_ GE1009.out) | exact HB.out)) hb); clear HO_5; clear BK1009; clear HB; have HO_5 := n0_; have HO1021 := n1_; have BK1009 := n2_; have HB := n3_; clear n0_ n1_ n2_ n3_; (try clear hb); (try clear hb2); (try clear hk); (try clear hi); (try clear ho0)))
                  go_ret
                  exact ⟨by first | rfl | (simp [errW_none, errW_some] <;> rfl) | (simp [*, errW_none, errW_some] <;> rfl) | (simp [Int.tdiv_eq_ediv_of_nonneg, *]; done), by repeat (first | (with_reducible first | exact HB.out | apply below_alloc | apply pw_below_drewN | apply below_drew1 | refine below_set ?_ GE1009.out) | exact HB.out)⟩
              · rw [if_neg c33] at H
                have c33b0 : decide (1 < t1004) = false := decide_eq_false c33
                clear c33
                (first | rw [c33b0] | (simp only [i64_w, i32_w]; rw [c33b0]) | skip)
                have H' := Aside0.mk H
                clear H
                go_wp2
                go_meet
                case rel => exact ⟨_, H', ⟨by have := HJ11.out; first | omega | exact Nat.le_refl _⟩, ⟨by (with_reducible repeat (first | apply Kd.R_alloc | apply Kd.R_drewN | apply Kd.R_drew)); exact HO_5.out⟩, ⟨by (with_reducible repeat (first | refine blk_drewN ?_ _ | refine blk_drew ?_ | refine blk_alloc ?_ _)); exact BK1009.out⟩, ⟨by repeat (first | (with_reducible first | exact HB.out | apply below_alloc | apply pw_below_drewN | apply below_drew1 | refine below_set ?_ GE1009.out) | exact HB.out)⟩⟩
            case rest =>
              clear HC32
              try clear c1
              try clear c2
              try clear p2
              try clear c3
              try clear c4
              try clear c5
              try clear c6
              try clear p6
              try clear c7
              try clear c13
              try clear c21
              try clear c23
              try clear c24
              try clear c25
              try clear c26
              try clear c26b0
              try clear c26b1
              try clear c26b2
              try clear c27
              try clear c27b0
              try clear c31
              try clear c33
              try clear c33b0
              try clear c35
              try clear c37
              try clear hcz17_0
              try clear hcz17_1
              try clear hcz17_2
              try clear hcz19_0
              try clear hcz19_1
              try clear hcz19_2
              try clear hfz17_0
              try clear hfz17_1
              try clear hfz17_2
              try clear hfz19_0
              try clear hfz19_1
              try clear hfz19_2
              try clear p2
              obtain ⟨kq, HA, HJ31, HO_5, BK1009, HB⟩ := hcut
              cases kq with
              | zero => exact absurd HA.out (by simp [laws_FnCast.j1])
              | succ kj31 =>
                have H := HA.out
                clear HA
                simp only [laws_FnCast.j1] at H
                by_cases c43 : (wrap64 (t1001 + t1014)) ≤ 40
                · rw [if_pos c43] at H
                  have c43b0 : decide ((wrap64 (t1001 + t1014)) ≤ 40) = true := decide_eq_true c43
                  clear c43
                  replace H := Option.bind_eq_some_iff.mp H
                  obtain ⟨⟨t1025, t1028⟩, A440, H⟩ := H
                  replace H : (if t1028 = true then (laws_FnCast.j2 kj31 t999 t1014 ((t1025.length : Int) != 0) t1004 t1000 (wrap64 (t1001 + t1014))) else (laws_FnCast.j2 kj31 t999 t1014 true t1004 t1000 (wrap64 (t1001 + t1014)))) = some r := H
                  have A44 := Aside0.mk A440
                  clear A440
                  have HC45 := Aside0.mk H
                  clear H
                  go_upto_region 20 with (first | ((with_reducible refine gate_dst (N := 20) rfl ?_); (try (refine gate_guard (by rfl) ?_; dsimp only)); refine box_event ?hg (N := 20) ?hd (cs := #[.int .i64 0, .int .i64 0, .int .i64 0]) (t := 81) ?hr ?_; (case hd => rfl); (case hg => rfl); (case hr => first | (go_simp; done) | (go_simp; rfl)); intro gb1024 hg w46 hbox hb; have n0_ := Aside0.mk (Kd.R_below (by (with_reducible repeat (first | apply Kd.R_alloc | apply Kd.R_drewN | apply Kd.R_drew)); exact HO_5.out) hb); have n1_ := Aside0.mk (blk_below (g := gb1009) (o := .cells #[.int .i64 t1004, .int .i64 t1000, .int .i64 t1001] 81 (0, 0)) (by (with_reducible repeat (first | refine blk_drewN ?_ _ | refine blk_drew ?_ | refine blk_alloc ?_ _)); exact BK1009.out) hb); have n2_ := Aside0.mk (below_step (by repeat (first | (with_reducible first | exact HB.out | apply below_alloc | apply pw_below_drewN | apply below_drew1 | refine below_set ?_ GE1009.out) | exact HB.out)) hb); have n3_ := Aside0.mk (hbox); have n4_ := Aside0.mk ((by rw [hg]; exact (below_size (by repeat (first | (with_reducible first | exact HB.out | apply below_alloc | apply pw_below_drewN | apply below_drew1 | refine below_set ?_ GE1009.out) | exact HB.out))) : w.heap.size ≤ gb1024)); have n5_ := Aside0.mk ((by rw [hg]; exact (below_size (by repeat (first | (with_reducible first | exact HB.out | apply below_alloc | apply pw_below_drewN | apply below_drew1 | refine below_set ?_ GE1009.out) | exact HB.out))) : w.heap.size ≤ gb1024)); have n6_ := Aside0.mk ((by rw [hg]; exact Nat.ne_of_lt (blk_lt (g := gb1009) (o := .cells #[.int .i64 t1004, .int .i64 t1000, .int .i64 t1001] 81 (0, 0)) (by (with_reducible repeat (first | refine blk_drewN ?_ _ | refine blk_drew ?_ | refine blk_alloc ?_ _)); exact BK1009.out)) : gb1009 ≠ gb1024)); have n7_ := Aside0.mk ((by rw [hg]; exact Nat.ne_of_gt (blk_lt (g := gb1009) (o := .cells #[.int .i64 t1004, .int .i64 t1000, .int .i64 t1001] 81 (0, 0)) (by (with_reducible repeat (first | refine blk_drewN ?_ _ | refine blk_drew ?_ | refine blk_alloc ?_ _)); exact BK1009.out)) : gb1024 ≠ gb1009)); clear HO_5; clear BK1009; clear HB; have HO_5 := n0_; have BK1009 := n1_; have HB := n2_; have BK1024 := n3_; have GW1024 := n4_; have GE1024 := n5_; have NB1009_1024 := n6_; have NB1024_1009 := n7_; clear n0_ n1_ n2_ n3_ n4_ n5_ n6_ n7_; clear hb hbox hg; have hnb47 := NB1024_1009.out; have hnc47 := NB1009_1024.out; have hcz48_0 : w46.cell? ⟨gb1024, 0, none⟩ = some (.int .i64 0) := (blk_cell BK1024.out 0).trans rfl; have hcz48_1 : w46.cell? ⟨gb1024, 1, none⟩ = some (.int .i64 0) := (blk_cell BK1024.out 1).trans rfl; have hcz48_2 : w46.cell? ⟨gb1024, 2, none⟩ = some (.int .i64 0) := (blk_cell BK1024.out 2).trans rfl; have hfz48_0 := blk_frozen BK1024.out 0; have hfz48_1 := blk_frozen BK1024.out 1; have hfz48_2 := blk_frozen BK1024.out 2; have hxx48_ : ∀ a_ b_ c_ d_, ((((w46.setCell ⟨gb1024, 0, none⟩ a_).setCell ⟨gb1024, 1, none⟩ b_).setCell ⟨gb1024, 2, none⟩ c_).setCell ⟨gb1024, 2, none⟩ d_).cell? ⟨gb1024, 2, none⟩ = some d_ := (by intro a_ b_ c_ d_; obtain ⟨_, h1_⟩ := cell?_setCell_some (p := ⟨gb1024, 0, none⟩) (x := a_) hcz48_2; obtain ⟨_, h2_⟩ := cell?_setCell_some (p := ⟨gb1024, 1, none⟩) (x := b_) h1_; obtain ⟨_, h3_⟩ := cell?_setCell_some (p := ⟨gb1024, 2, none⟩) (x := c_) h2_; exact World.cell?_setCell_same _ _ _ h3_)) | ((with_reducible refine gate_callee (f := 64) rfl ?_); refine goesL_ (some 130) rfl rfl Try.func64 (by kernel_rfl) rfl #[.agg #[.int .i64 t1004, .int .i64 t1000, .int .i64 (wrap64 (t1001 + t1014))], .slice Ao14 t999.length co14] rfl (by (try simp only [List.map_toArray, List.map_cons, List.map_nil]); first | done | rfl | (simp only [List.length_drop, List.length_take]; rfl)) ?_; (with_reducible refine (impl_ShortDays.calls kj31 t1004 t1000 (wrap64 (t1001 + t1014)) _ _ t999 t1025 t1028 _ ?side1 ?side2 A44.out).mono ?_); (case side1 => refine (Kd.R_reads' (e := 119) (base := w.heap.size) (ok := fun k_ => True) (n := t999.length) (c := co14) ?_).2.2; exact (by (with_reducible repeat (first | apply Kd.R_alloc | apply Kd.R_drewN | apply Kd.R_drew)); exact (Kd.R_mono (Kd.R_far (p := ⟨gb1024, 2, none⟩) (Kd.R_far (p := ⟨gb1024, 1, none⟩) (Kd.R_far (p := ⟨gb1024, 0, none⟩) (Kd.R_types HO_5.out BK1024.out (by decide)) (fun _ hk => hk.2) (.int .i64 t1004)) (fun _ hk => hk.2) (.int .i64 t1000)) (fun _ hk => hk.2) (.int .i64 (wrap64 (t1001 + t1014)))) (fun _ h_ => h_.1)))); (case side2 => exact (Kd.R_reads' HO_5.out).2.1); rintro e w49 ⟨v1026, rfl, ho0, hb⟩; refine ⟨_, rfl, ?_⟩; have n0_ := Aside0.mk (Kd.R_below (by (with_reducible repeat (first | apply Kd.R_alloc | apply Kd.R_drewN | apply Kd.R_drew)); exact (Kd.R_mono (Kd.R_far (p := ⟨gb1024, 2, none⟩) (Kd.R_far (p := ⟨gb1024, 1, none⟩) (Kd.R_far (p := ⟨gb1024, 0, none⟩) (Kd.R_types HO_5.out BK1024.out (by decide)) (fun _ hk => hk.2) (.int .i64 t1004)) (fun _ hk => hk.2) (.int .i64 t1000)) (fun _ hk => hk.2) (.int .i64 (wrap64 (t1001 + t1014)))) (fun _ h_ => h_.1))) hb); have n1_ := Aside0.mk (Kd.R_lower ho0 (below_size (by repeat (first | (with_reducible first | exact HB.out | apply below_alloc | apply pw_below_drewN | apply below_drew1 | refine below_set ?_ GE1009.out | refine below_set ?_ GE1024.out) | exact HB.out)))); have n2_ := Aside0.mk (blk_below (g := gb1009) (o := .cells #[.int .i64 t1004, .int .i64 t1000, .int .i64 t1001] 81 (0, 0)) (by (with_reducible repeat (first | refine blk_drewN ?_ _ | refine blk_drew ?_ | refine blk_alloc ?_ _)); refine blk_far ?_ NB1009_1024.out _; (with_reducible repeat (first | refine blk_drewN ?_ _ | refine blk_drew ?_ | refine blk_alloc ?_ _)); refine blk_far ?_ NB1009_1024.out _; (with_reducible repeat (first | refine blk_drewN ?_ _ | refine blk_drew ?_ | refine blk_alloc ?_ _)); refine blk_far ?_ NB1009_1024.out _; (with_reducible repeat (first | refine blk_drewN ?_ _ | refine blk_drew ?_ | refine blk_alloc ?_ _)); exact BK1009.out) hb); have n3_ := Aside0.mk (blk_below (g := gb1024) (o := .cells #[.int .i64 t1004, .int .i64 t1000, .int .i64 (wrap64 (t1001 + t1014))] 81 (0, 0)) (by (with_reducible repeat (first | refine blk_drewN ?_ _ | refine blk_drew ?_ | refine blk_alloc ?_ _)); refine blk_put (cs := #[.int .i64 t1004, .int .i64 t1000, .int .i64 0]) ?_ 2 _ rfl; (with_reducible repeat (first | refine blk_drewN ?_ _ | refine blk_drew ?_ | refine blk_alloc ?_ _)); refine blk_put (cs := #[.int .i64 t1004, .int .i64 0, .int .i64 0]) ?_ 1 _ rfl; (with_reducible repeat (first | refine blk_drewN ?_ _ | refine blk_drew ?_ | refine blk_alloc ?_ _)); refine blk_put (cs := #[.int .i64 0, .int .i64 0, .int .i64 0]) ?_ 0 _ rfl; (with_reducible repeat (first | refine blk_drewN ?_ _ | refine blk_drew ?_ | refine blk_alloc ?_ _)); exact BK1024.out) hb); have n4_ := Aside0.mk (below_step (by repeat (first | (with_reducible first | exact HB.out | apply below_alloc | apply pw_below_drewN | apply below_drew1 | refine below_set ?_ GE1009.out | refine below_set ?_ GE1024.out) | exact HB.out)) hb); clear HO_5; clear BK1009; clear BK1024; clear HB; have HO_5 := n0_; have HO1027 := n1_; have BK1009 := n2_; have BK1024 := n3_; have HB := n4_; clear n0_ n1_ n2_ n3_ n4_; (try clear hb); (try clear hb2); (try clear hk); (try clear hi); (try clear ho0)))
                  (try simp only [Act.put, List.setIfInBounds_toArray, List.set_cons_zero, List.set_cons_succ])
                  go_cut [139] (fun v139 wc => ∃ (kq : Nat) (x139_44 : Bool), v139 = .bool x139_44 ∧ Aside0 (laws_FnCast.j2 kq t999 t1014 x139_44 t1004 t1000 (wrap64 (t1001 + t1014)) = some r) ∧ Aside0 (kq ≤ kj31) ∧ Aside0 (Kd.R k119 119 wc w.heap.size (fun _ => True) (.slice Ao14 t999.length co14) t999) ∧ Aside0 (wc.heap[gb1009]? = some (.cells #[.int .i64 t1004, .int .i64 t1000, .int .i64 t1001] 81 (0, 0))) ∧ Aside0 (wc.heap[gb1024]? = some (.cells #[.int .i64 t1004, .int .i64 t1000, .int .i64 (wrap64 (t1001 + t1014))] 81 (0, 0))) ∧ Aside0 (Below w.heap.size w wc))
                  case first =>
                    have H := HC45.out
                    clear HC45
                    by_cases c50 : t1028 = true
                    · subst c50
                      have H1 : (laws_FnCast.j2 kj31 t999 t1014 ((t1025.length : Int) != 0) t1004 t1000 (wrap64 (t1001 + t1014))) = some r := by rw [if_pos rfl] at H; exact H
                      clear H
                      have H := H1
                      clear H1
                      have H' := Aside0.mk H
                      clear H
                      obtain ⟨Ao51, co51, eo51⟩ := Kd.R_slice HO1027.out
                      subst eo51
                      go_wp2
                      go_meet
                      case rel => exact ⟨_, (((t1025.length : Int) != 0)), (by first | rfl | (simp; done) | (simp [*]; done) | (simp [Int.tdiv_eq_ediv_of_nonneg, *]; done)), H', ⟨by have := HJ11.out; have := HJ31.out; first | omega | exact Nat.le_refl _⟩, ⟨by (with_reducible repeat (first | apply Kd.R_alloc | apply Kd.R_drewN | apply Kd.R_drew)); exact HO_5.out⟩, ⟨by (with_reducible repeat (first | refine blk_drewN ?_ _ | refine blk_drew ?_ | refine blk_alloc ?_ _)); exact BK1009.out⟩, ⟨by (with_reducible repeat (first | refine blk_drewN ?_ _ | refine blk_drew ?_ | refine blk_alloc ?_ _)); exact BK1024.out⟩, ⟨by repeat (first | (with_reducible first | exact HB.out | apply below_alloc | apply pw_below_drewN | apply below_drew1 | refine below_set ?_ GE1009.out | refine below_set ?_ GE1024.out) | exact HB.out)⟩⟩
                    · replace c50 := Bool.eq_false_iff.mpr c50
                      subst c50
                      have H1 : (laws_FnCast.j2 kj31 t999 t1014 true t1004 t1000 (wrap64 (t1001 + t1014))) = some r := by rw [if_neg (show ¬ (false = true) by decide)] at H; exact H
                      clear H
                      have H := H1
                      clear H1
                      have H' := Aside0.mk H
                      clear H
                      go_wp2
                      go_meet
                      case rel => exact ⟨_, (true), (by first | rfl | (simp; done) | (simp [*]; done) | (simp [Int.tdiv_eq_ediv_of_nonneg, *]; done)), H', ⟨by have := HJ11.out; have := HJ31.out; first | omega | exact Nat.le_refl _⟩, ⟨by (with_reducible repeat (first | apply Kd.R_alloc | apply Kd.R_drewN | apply Kd.R_drew)); exact HO_5.out⟩, ⟨by (with_reducible repeat (first | refine blk_drewN ?_ _ | refine blk_drew ?_ | refine blk_alloc ?_ _)); exact BK1009.out⟩, ⟨by (with_reducible repeat (first | refine blk_drewN ?_ _ | refine blk_drew ?_ | refine blk_alloc ?_ _)); exact BK1024.out⟩, ⟨by repeat (first | (with_reducible first | exact HB.out | apply below_alloc | apply pw_below_drewN | apply below_drew1 | refine below_set ?_ GE1009.out | refine below_set ?_ GE1024.out) | exact HB.out)⟩⟩
                  case rest =>
                    clear HC45
                    try clear c1
                    try clear c2
                    try clear p2
                    try clear c3
                    try clear c4
                    try clear c5
                    try clear c6
                    try clear p6
                    try clear c7
                    try clear c13
                    try clear c21
                    try clear c23
                    try clear c24
                    try clear c25
                    try clear c26
                    try clear c26b0
                    try clear c26b1
                    try clear c26b2
                    try clear c27
                    try clear c27b0
                    try clear c31
                    try clear c33
                    try clear c33b0
                    try clear c35
                    try clear c37
                    try clear c43
                    try clear c43b0
                    try clear c46
                    try clear c47
                    try clear c50
                    try clear hcz17_0
                    try clear hcz17_1
                    try clear hcz17_2
                    try clear hcz19_0
                    try clear hcz19_1
                    try clear hcz19_2
                    try clear hcz48_0
                    try clear hcz48_1
                    try clear hcz48_2
                    try clear hfz17_0
                    try clear hfz17_1
                    try clear hfz17_2
                    try clear hfz19_0
                    try clear hfz19_1
                    try clear hfz19_2
                    try clear hfz48_0
                    try clear hfz48_1
                    try clear hfz48_2
                    try clear p2
                    try clear p6
                    obtain ⟨kq, x139_44, rfl, HA, HJ44, HO_5, BK1009, BK1024, HB⟩ := hcut
                    cases kq with
                    | zero => exact absurd HA.out (by simp [laws_FnCast.j2])
                    | succ kj44 =>
                      have H := HA.out
                      clear HA
                      simp only [laws_FnCast.j2] at H
                      by_cases c52 : x139_44 = true
                      · subst c52
                        have H1 : (some false) = some r := by rw [if_pos rfl] at H; exact H
                        clear H
                        have H := H1
                        clear H1
                        obtain rfl := Option.some.inj H
                        go_wp2
                        go_ret
                        exact ⟨by first | rfl | (simp [errW_none, errW_some] <;> rfl) | (simp [*, errW_none, errW_some] <;> rfl) | (simp [Int.tdiv_eq_ediv_of_nonneg, *]; done), by repeat (first | (with_reducible first | exact HB.out | apply below_alloc | apply pw_below_drewN | apply below_drew1 | refine below_set ?_ GE1009.out | refine below_set ?_ GE1024.out) | exact HB.out)⟩
                      · replace c52 := Bool.eq_false_iff.mpr c52
                        subst c52
                        have H1 : (if (wrap64 ((wrap64 (t1001 + t1014)) + 1)) ≤ 40 then (if t1014 < 200 then ((impl_ShortDays.f kj44 t1004 t1000 (wrap64 ((wrap64 (t1001 + t1014)) + 1)) t999).bind fun bt1029 => (if bt1029.2 = true then (some (decide ((bt1029.1.length : Int) > 0))) else (some false))) else (some true)) else (some true)) = some r := by rw [if_neg (show ¬ (false = true) by decide)] at H; exact H
                        clear H
                        have H := H1
                        clear H1
                        by_cases c53 : (wrap64 ((wrap64 (t1001 + t1014)) + 1)) ≤ 40
                        · rw [if_pos c53] at H
                          have c53b0 : decide ((wrap64 ((wrap64 (t1001 + t1014)) + 1)) ≤ 40) = true := decide_eq_true c53
                          clear c53
                          by_cases c54 : t1014 < 200
                          · rw [if_pos c54] at H
                            have c54b0 : decide (t1014 < 200) = true := decide_eq_true c54
                            clear c54
                            replace H := Option.bind_eq_some_iff.mp H
                            obtain ⟨⟨t1029, t1032⟩, A550, H⟩ := H
                            replace H : (if t1032 = true then (some (decide ((t1029.length : Int) > 0))) else (some false)) = some r := H
                            have A55 := Aside0.mk A550
                            clear A550
                            by_cases c56 : t1032 = true
                            · subst c56
                              have H1 : (some (decide ((t1029.length : Int) > 0))) = some r := by rw [if_pos rfl] at H; exact H
                              clear H
                              have H := H1
                              clear H1
                              obtain rfl := Option.some.inj H
                              have hnb57 := NB1024_1009.out
                              have hnc57 := NB1009_1024.out
                              have hcz58_0 : wc.cell? ⟨gb1024, 0, none⟩ = some (.int .i64 t1004) := (blk_cell BK1024.out 0).trans rfl
                              have hcz58_1 : wc.cell? ⟨gb1024, 1, none⟩ = some (.int .i64 t1000) := (blk_cell BK1024.out 1).trans rfl
                              have hcz58_2 : wc.cell? ⟨gb1024, 2, none⟩ = some (.int .i64 (wrap64 (t1001 + t1014))) := (blk_cell BK1024.out 2).trans rfl
                              have hfz58_0 := blk_frozen BK1024.out 0
                              have hfz58_1 := blk_frozen BK1024.out 1
                              have hfz58_2 := blk_frozen BK1024.out 2
                              go_wp2_with (first | ((with_reducible refine gate_callee (f := 64) rfl ?_); refine goesL_ (some 154) rfl rfl Try.func64 (by kernel_rfl) rfl #[.agg #[.int .i64 t1004, .int .i64 t1000, .int .i64 (wrap64 ((wrap64 (t1001 + t1014)) + 1))], .slice Ao14 t999.length co14] rfl (by (try simp only [List.map_toArray, List.map_cons, List.map_nil]); first | done | rfl | (simp only [List.length_drop, List.length_take]; rfl)) ?_; (with_reducible refine (impl_ShortDays.calls kj44 t1004 t1000 (wrap64 ((wrap64 (t1001 + t1014)) + 1)) _ _ t999 t1029 true _ ?side1 ?side2 A55.out).mono ?_); (case side1 => refine (Kd.R_reads' (e := 119) (base := w.heap.size) (ok := fun k_ => True) (n := t999.length) (c := co14) ?_).2.2; exact (by (with_reducible repeat (first | apply Kd.R_alloc | apply Kd.R_drewN | apply Kd.R_drew)); exact (Kd.R_mono (Kd.R_far (p := ⟨gb1024, 2, none⟩) (Kd.R_types HO_5.out BK1024.out (by decide)) (fun _ hk => hk.2) (.int .i64 (wrap64 ((wrap64 (t1001 + t1014)) + 1)))) (fun _ h_ => h_.1)))); (case side2 => exact (Kd.R_reads' HO_5.out).2.1); rintro e w59 ⟨v1030, rfl, ho0, hb⟩; refine ⟨_, rfl, ?_⟩; have n0_ := Aside0.mk (Kd.R_below (by (with_reducible repeat (first | apply Kd.R_alloc | apply Kd.R_drewN | apply Kd.R_drew)); exact (Kd.R_mono (Kd.R_far (p := ⟨gb1024, 2, none⟩) (Kd.R_types HO_5.out BK1024.out (by decide)) (fun _ hk => hk.2) (.int .i64 (wrap64 ((wrap64 (t1001 + t1014)) + 1)))) (fun _ h_ => h_.1))) hb); have n1_ := Aside0.mk (Kd.R_lower ho0 (below_size (by repeat (first | (with_reducible first | exact HB.out | apply below_alloc | apply pw_below_drewN | apply below_drew1 | refine below_set ?_ GE1009.out | refine below_set ?_ GE1024.out) | exact HB.out)))); have n2_ := Aside0.mk (blk_below (g := gb1009) (o := .cells #[.int .i64 t1004, .int .i64 t1000, .int .i64 t1001] 81 (0, 0)) (by (with_reducible repeat (first | refine blk_drewN ?_ _ | refine blk_drew ?_ | refine blk_alloc ?_ _)); refine blk_far ?_ NB1009_1024.out _; (with_reducible repeat (first | refine blk_drewN ?_ _ | refine blk_drew ?_ | refine blk_alloc ?_ _)); exact BK1009.out) hb); have n3_ := Aside0.mk (blk_below (g := gb1024) (o := .cells #[.int .i64 t1004, .int .i64 t1000, .int .i64 (wrap64 ((wrap64 (t1001 + t1014)) + 1))] 81 (0, 0)) (by (with_reducible repeat (first | refine blk_drewN ?_ _ | refine blk_drew ?_ | refine blk_alloc ?_ _)); refine blk_put (cs := #[.int .i64 t1004, .int .i64 t1000, .int .i64 (wrap64 (t1001 + t1014))]) ?_ 2 _ rfl; (with_reducible repeat (first | refine blk_drewN ?_ _ | refine blk_drew ?_ | refine blk_alloc ?_ _)); exact BK1024.out) hb); have n4_ := Aside0.mk (below_step (by repeat (first | (with_reducible first | exact HB.out | apply below_alloc | apply pw_below_drewN | apply below_drew1 | refine below_set ?_ GE1009.out | refine below_set ?_ GE1024.out) | exact HB.out)) hb); clear HO_5; clear BK1009; clear BK1024; clear HB; have HO_5 := n0_; have HO1031 := n1_; have BK1009 := n2_; have BK1024 := n3_; have HB := n4_; clear n0_ n1_ n2_ n3_ n4_; (try clear hb); (try clear hb2); (try clear hk); (try clear hi); (try clear ho0); obtain ⟨Ao60, co60, eo60⟩ := Kd.R_slice HO1031.out; subst eo60))
                              go_ret
                              exact ⟨by first | rfl | (simp [errW_none, errW_some] <;> rfl) | (simp [*, errW_none, errW_some] <;> rfl) | (simp [Int.tdiv_eq_ediv_of_nonneg, *]; done), by repeat (first | (with_reducible first | exact HB.out | apply below_alloc | apply pw_below_drewN | apply below_drew1 | refine below_set ?_ GE1009.out | refine below_set ?_ GE1024.out) | exact HB.out)⟩
                            · replace c56 := Bool.eq_false_iff.mpr c56
                              subst c56
                              have H1 : (some false) = some r := by rw [if_neg (show ¬ (false = true) by decide)] at H; exact H
                              clear H
                              have H := H1
                              clear H1
                              obtain rfl := Option.some.inj H
                              have hnb61 := NB1024_1009.out
                              have hnc61 := NB1009_1024.out
                              have hcz62_0 : wc.cell? ⟨gb1024, 0, none⟩ = some (.int .i64 t1004) := (blk_cell BK1024.out 0).trans rfl
                              have hcz62_1 : wc.cell? ⟨gb1024, 1, none⟩ = some (.int .i64 t1000) := (blk_cell BK1024.out 1).trans rfl
                              have hcz62_2 : wc.cell? ⟨gb1024, 2, none⟩ = some (.int .i64 (wrap64 (t1001 + t1014))) := (blk_cell BK1024.out 2).trans rfl
                              have hfz62_0 := blk_frozen BK1024.out 0
                              have hfz62_1 := blk_frozen BK1024.out 1
                              have hfz62_2 := blk_frozen BK1024.out 2
                              go_wp2_with (first | ((with_reducible refine gate_callee (f := 64) rfl ?_); refine goesL_ (some 154) rfl rfl Try.func64 (by kernel_rfl) rfl #[.agg #[.int .i64 t1004, .int .i64 t1000, .int .i64 (wrap64 ((wrap64 (t1001 + t1014)) + 1))], .slice Ao14 t999.length co14] rfl (by (try simp only [List.map_toArray, List.map_cons, List.map_nil]); first | done | rfl | (simp only [List.length_drop, List.length_take]; rfl)) ?_; (with_reducible refine (impl_ShortDays.calls kj44 t1004 t1000 (wrap64 ((wrap64 (t1001 + t1014)) + 1)) _ _ t999 t1029 false _ ?side1 ?side2 A55.out).mono ?_); (case side1 => refine (Kd.R_reads' (e := 119) (base := w.heap.size) (ok := fun k_ => True) (n := t999.length) (c := co14) ?_).2.2; exact (by (with_reducible repeat (first | apply Kd.R_alloc | apply Kd.R_drewN | apply Kd.R_drew)); exact (Kd.R_mono (Kd.R_far (p := ⟨gb1024, 2, none⟩) (Kd.R_types HO_5.out BK1024.out (by decide)) (fun _ hk => hk.2) (.int .i64 (wrap64 ((wrap64 (t1001 + t1014)) + 1)))) (fun _ h_ => h_.1)))); (case side2 => exact (Kd.R_reads' HO_5.out).2.1); rintro e w63 ⟨v1030, rfl, ho0, hb⟩; refine ⟨_, rfl, ?_⟩; have n0_ := Aside0.mk (Kd.R_below (by (with_reducible repeat (first | apply Kd.R_alloc | apply Kd.R_drewN | apply Kd.R_drew)); exact (Kd.R_mono (Kd.R_far (p := ⟨gb1024, 2, none⟩) (Kd.R_types HO_5.out BK1024.out (by decide)) (fun _ hk => hk.2) (.int .i64 (wrap64 ((wrap64 (t1001 + t1014)) + 1)))) (fun _ h_ => h_.1))) hb); have n1_ := Aside0.mk (Kd.R_lower ho0 (below_size (by repeat (first | (with_reducible first | exact HB.out | apply below_alloc | apply pw_below_drewN | apply below_drew1 | refine below_set ?_ GE1009.out | refine below_set ?_ GE1024.out) | exact HB.out)))); have n2_ := Aside0.mk (blk_below (g := gb1009) (o := .cells #[.int .i64 t1004, .int .i64 t1000, .int .i64 t1001] 81 (0, 0)) (by (with_reducible repeat (first | refine blk_drewN ?_ _ | refine blk_drew ?_ | refine blk_alloc ?_ _)); refine blk_far ?_ NB1009_1024.out _; (with_reducible repeat (first | refine blk_drewN ?_ _ | refine blk_drew ?_ | refine blk_alloc ?_ _)); exact BK1009.out) hb); have n3_ := Aside0.mk (blk_below (g := gb1024) (o := .cells #[.int .i64 t1004, .int .i64 t1000, .int .i64 (wrap64 ((wrap64 (t1001 + t1014)) + 1))] 81 (0, 0)) (by (with_reducible repeat (first | refine blk_drewN ?_ _ | refine blk_drew ?_ | refine blk_alloc ?_ _)); refine blk_put (cs := #[.int .i64 t1004, .int .i64 t1000, .int .i64 (wrap64 (t1001 + t1014))]) ?_ 2 _ rfl; (with_reducible repeat (first | refine blk_drewN ?_ _ | refine blk_drew ?_ | refine blk_alloc ?_ _)); exact BK1024.out) hb); have n4_ := Aside0.mk (below_step (by repeat (first | (with_reducible first | exact HB.out | apply below_alloc | apply pw_below_drewN | apply below_drew1 | refine below_set ?_ GE1009.out | refine below_set ?_ GE1024.out) | exact HB.out)) hb); clear HO_5; clear BK1009; clear BK1024; clear HB; have HO_5 := n0_; have HO1031 := n1_; have BK1009 := n2_; have BK1024 := n3_; have HB := n4_; clear n0_ n1_ n2_ n3_ n4_; (try clear hb); (try clear hb2); (try clear hk); (try clear hi); (try clear ho0)))
                              go_ret
                              exact ⟨by first | rfl | (simp [errW_none, errW_some] <;> rfl) | (simp [*, errW_none, errW_some] <;> rfl) | (simp [Int.tdiv_eq_ediv_of_nonneg, *]; done), by repeat (first | (with_reducible first | exact HB.out | apply below_alloc | apply pw_below_drewN | apply below_drew1 | refine below_set ?_ GE1009.out | refine below_set ?_ GE1024.out) | exact HB.out)⟩
                          · rw [if_neg c54] at H
                            have c54b0 : decide (t1014 < 200) = false := decide_eq_false c54
                            clear c54
                            obtain rfl := Option.some.inj H
                            have hnb64 := NB1024_1009.out
                            have hnc64 := NB1009_1024.out
                            have hcz65_0 : wc.cell? ⟨gb1024, 0, none⟩ = some (.int .i64 t1004) := (blk_cell BK1024.out 0).trans rfl
                            have hcz65_1 : wc.cell? ⟨gb1024, 1, none⟩ = some (.int .i64 t1000) := (blk_cell BK1024.out 1).trans rfl
                            have hcz65_2 : wc.cell? ⟨gb1024, 2, none⟩ = some (.int .i64 (wrap64 (t1001 + t1014))) := (blk_cell BK1024.out 2).trans rfl
                            have hfz65_0 := blk_frozen BK1024.out 0
                            have hfz65_1 := blk_frozen BK1024.out 1
                            have hfz65_2 := blk_frozen BK1024.out 2
                            go_wp2
                            go_ret
                            exact ⟨by first | rfl | (simp [errW_none, errW_some] <;> rfl) | (simp [*, errW_none, errW_some] <;> rfl) | (simp [Int.tdiv_eq_ediv_of_nonneg, *]; done), by repeat (first | (with_reducible first | exact HB.out | apply below_alloc | apply pw_below_drewN | apply below_drew1 | refine below_set ?_ GE1009.out | refine below_set ?_ GE1024.out) | exact HB.out)⟩
                        · rw [if_neg c53] at H
                          have c53b0 : decide ((wrap64 ((wrap64 (t1001 + t1014)) + 1)) ≤ 40) = false := decide_eq_false c53
                          clear c53
                          obtain rfl := Option.some.inj H
                          have hnb66 := NB1024_1009.out
                          have hnc66 := NB1009_1024.out
                          have hcz67_0 : wc.cell? ⟨gb1024, 0, none⟩ = some (.int .i64 t1004) := (blk_cell BK1024.out 0).trans rfl
                          have hcz67_1 : wc.cell? ⟨gb1024, 1, none⟩ = some (.int .i64 t1000) := (blk_cell BK1024.out 1).trans rfl
                          have hcz67_2 : wc.cell? ⟨gb1024, 2, none⟩ = some (.int .i64 (wrap64 (t1001 + t1014))) := (blk_cell BK1024.out 2).trans rfl
                          have hfz67_0 := blk_frozen BK1024.out 0
                          have hfz67_1 := blk_frozen BK1024.out 1
                          have hfz67_2 := blk_frozen BK1024.out 2
                          go_wp2
                          go_ret
                          exact ⟨by first | rfl | (simp [errW_none, errW_some] <;> rfl) | (simp [*, errW_none, errW_some] <;> rfl) | (simp [Int.tdiv_eq_ediv_of_nonneg, *]; done), by repeat (first | (with_reducible first | exact HB.out | apply below_alloc | apply pw_below_drewN | apply below_drew1 | refine below_set ?_ GE1009.out | refine below_set ?_ GE1024.out) | exact HB.out)⟩
                · rw [if_neg c43] at H
                  have c43b0 : decide ((wrap64 (t1001 + t1014)) ≤ 40) = false := decide_eq_false c43
                  clear c43
                  by_cases c68 : (wrap64 ((wrap64 (t1001 + t1014)) + 1)) ≤ 40
                  · rw [if_pos c68] at H
                    have c68b0 : decide ((wrap64 ((wrap64 (t1001 + t1014)) + 1)) ≤ 40) = true := decide_eq_true c68
                    clear c68
                    by_cases c69 : t1014 < 200
                    · rw [if_pos c69] at H
                      have c69b0 : decide (t1014 < 200) = true := decide_eq_true c69
                      clear c69
                      replace H := Option.bind_eq_some_iff.mp H
                      obtain ⟨⟨t1033, t1036⟩, A700, H⟩ := H
                      replace H : (if t1036 = true then (some (decide ((t1033.length : Int) > 0))) else (some false)) = some r := H
                      have A70 := Aside0.mk A700
                      clear A700
                      by_cases c71 : t1036 = true
                      · subst c71
                        have H1 : (some (decide ((t1033.length : Int) > 0))) = some r := by rw [if_pos rfl] at H; exact H
                        clear H
                        have H := H1
                        clear H1
                        obtain rfl := Option.some.inj H
                        go_wp2_with (first | ((with_reducible refine gate_dst (N := 20) rfl ?_); (try (refine gate_guard (by rfl) ?_; dsimp only)); refine box_event ?hg (N := 20) ?hd (cs := #[.int .i64 0, .int .i64 0, .int .i64 0]) (t := 81) ?hr ?_; (case hd => rfl); (case hg => rfl); (case hr => first | (go_simp; done) | (go_simp; rfl)); intro gb1024 hg w72 hbox hb; have n0_ := Aside0.mk (Kd.R_below (by (with_reducible repeat (first | apply Kd.R_alloc | apply Kd.R_drewN | apply Kd.R_drew)); exact HO_5.out) hb); have n1_ := Aside0.mk (blk_below (g := gb1009) (o := .cells #[.int .i64 t1004, .int .i64 t1000, .int .i64 t1001] 81 (0, 0)) (by (with_reducible repeat (first | refine blk_drewN ?_ _ | refine blk_drew ?_ | refine blk_alloc ?_ _)); exact BK1009.out) hb); have n2_ := Aside0.mk (below_step (by repeat (first | (with_reducible first | exact HB.out | apply below_alloc | apply pw_below_drewN | apply below_drew1 | refine below_set ?_ GE1009.out) | exact HB.out)) hb); have n3_ := Aside0.mk (hbox); have n4_ := Aside0.mk ((by rw [hg]; exact (below_size (by repeat (first | (with_reducible first | exact HB.out | apply below_alloc | apply pw_below_drewN | apply below_drew1 | refine below_set ?_ GE1009.out) | exact HB.out))) : w.heap.size ≤ gb1024)); have n5_ := Aside0.mk ((by rw [hg]; exact (below_size (by repeat (first | (with_reducible first | exact HB.out | apply below_alloc | apply pw_below_drewN | apply below_drew1 | refine below_set ?_ GE1009.out) | exact HB.out))) : w.heap.size ≤ gb1024)); have n6_ := Aside0.mk ((by rw [hg]; exact Nat.ne_of_lt (blk_lt (g := gb1009) (o := .cells #[.int .i64 t1004, .int .i64 t1000, .int .i64 t1001] 81 (0, 0)) (by (with_reducible repeat (first | refine blk_drewN ?_ _ | refine blk_drew ?_ | refine blk_alloc ?_ _)); exact BK1009.out)) : gb1009 ≠ gb1024)); have n7_ := Aside0.mk ((by rw [hg]; exact Nat.ne_of_gt (blk_lt (g := gb1009) (o := .cells #[.int .i64 t1004, .int .i64 t1000, .int .i64 t1001] 81 (0, 0)) (by (with_reducible repeat (first | refine blk_drewN ?_ _ | refine blk_drew ?_ | refine blk_alloc ?_ _)); exact BK1009.out)) : gb1024 ≠ gb1009)); clear HO_5; clear BK1009; clear HB; have HO_5 := n0_; have BK1009 := n1_; have HB := n2_; have BK1024 := n3_; have GW1024 := n4_; have GE1024 := n5_; have NB1009_1024 := n6_; have NB1024_1009 := n7_; clear n0_ n1_ n2_ n3_ n4_ n5_ n6_ n7_; clear hb hbox hg; have hnb73 := NB1024_1009.out; have hnc73 := NB1009_1024.out; have hcz74_0 : w72.cell? ⟨gb1024, 0, none⟩ = some (.int .i64 0) := (blk_cell BK1024.out 0).trans rfl; have hcz74_1 : w72.cell? ⟨gb1024, 1, none⟩ = some (.int .i64 0) := (blk_cell BK1024.out 1).trans rfl; have hcz74_2 : w72.cell? ⟨gb1024, 2, none⟩ = some (.int .i64 0) := (blk_cell BK1024.out 2).trans rfl; have hfz74_0 := blk_frozen BK1024.out 0; have hfz74_1 := blk_frozen BK1024.out 1; have hfz74_2 := blk_frozen BK1024.out 2; have hxx74_ : ∀ a_ b_ c_ d_, ((((w72.setCell ⟨gb1024, 0, none⟩ a_).setCell ⟨gb1024, 1, none⟩ b_).setCell ⟨gb1024, 2, none⟩ c_).setCell ⟨gb1024, 2, none⟩ d_).cell? ⟨gb1024, 2, none⟩ = some d_ := (by intro a_ b_ c_ d_; obtain ⟨_, h1_⟩ := cell?_setCell_some (p := ⟨gb1024, 0, none⟩) (x := a_) hcz74_2; obtain ⟨_, h2_⟩ := cell?_setCell_some (p := ⟨gb1024, 1, none⟩) (x := b_) h1_; obtain ⟨_, h3_⟩ := cell?_setCell_some (p := ⟨gb1024, 2, none⟩) (x := c_) h2_; exact World.cell?_setCell_same _ _ _ h3_)) | ((with_reducible refine gate_callee (f := 64) rfl ?_); refine goesL_ (some 154) rfl rfl Try.func64 (by kernel_rfl) rfl #[.agg #[.int .i64 t1004, .int .i64 t1000, .int .i64 (wrap64 ((wrap64 (t1001 + t1014)) + 1))], .slice Ao14 t999.length co14] rfl (by (try simp only [List.map_toArray, List.map_cons, List.map_nil]); first | done | rfl | (simp only [List.length_drop, List.length_take]; rfl)) ?_; (with_reducible refine (impl_ShortDays.calls kj31 t1004 t1000 (wrap64 ((wrap64 (t1001 + t1014)) + 1)) _ _ t999 t1033 true _ ?side1 ?side2 A70.out).mono ?_); (case side1 => refine (Kd.R_reads' (e := 119) (base := w.heap.size) (ok := fun k_ => True) (n := t999.length) (c := co14) ?_).2.2; exact (by (with_reducible repeat (first | apply Kd.R_alloc | apply Kd.R_drewN | apply Kd.R_drew)); exact (Kd.R_mono (Kd.R_far (p := ⟨gb1024, 2, none⟩) (Kd.R_far (p := ⟨gb1024, 2, none⟩) (Kd.R_far (p := ⟨gb1024, 1, none⟩) (Kd.R_far (p := ⟨gb1024, 0, none⟩) (Kd.R_types HO_5.out BK1024.out (by decide)) (fun _ hk => hk.2) (.int .i64 t1004)) (fun _ hk => hk.2) (.int .i64 t1000)) (fun _ hk => hk.2) (.int .i64 (wrap64 (t1001 + t1014)))) (fun _ hk => hk.2) (.int .i64 (wrap64 ((wrap64 (t1001 + t1014)) + 1)))) (fun _ h_ => h_.1)))); (case side2 => exact (Kd.R_reads' HO_5.out).2.1); rintro e w75 ⟨v1034, rfl, ho0, hb⟩; refine ⟨_, rfl, ?_⟩; have n0_ := Aside0.mk (Kd.R_below (by (with_reducible repeat (first | apply Kd.R_alloc | apply Kd.R_drewN | apply Kd.R_drew)); exact (Kd.R_mono (Kd.R_far (p := ⟨gb1024, 2, none⟩) (Kd.R_far (p := ⟨gb1024, 2, none⟩) (Kd.R_far (p := ⟨gb1024, 1, none⟩) (Kd.R_far (p := ⟨gb1024, 0, none⟩) (Kd.R_types HO_5.out BK1024.out (by decide)) (fun _ hk => hk.2) (.int .i64 t1004)) (fun _ hk => hk.2) (.int .i64 t1000)) (fun _ hk => hk.2) (.int .i64 (wrap64 (t1001 + t1014)))) (fun _ hk => hk.2) (.int .i64 (wrap64 ((wrap64 (t1001 + t1014)) + 1)))) (fun _ h_ => h_.1))) hb); have n1_ := Aside0.mk (Kd.R_lower ho0 (below_size (by repeat (first | (with_reducible first | exact HB.out | apply below_alloc | apply pw_below_drewN | apply below_drew1 | refine below_set ?_ GE1009.out | refine below_set ?_ GE1024.out) | exact HB.out)))); have n2_ := Aside0.mk (blk_below (g := gb1009) (o := .cells #[.int .i64 t1004, .int .i64 t1000, .int .i64 t1001] 81 (0, 0)) (by (with_reducible repeat (first | refine blk_drewN ?_ _ | refine blk_drew ?_ | refine blk_alloc ?_ _)); refine blk_far ?_ NB1009_1024.out _; (with_reducible repeat (first | refine blk_drewN ?_ _ | refine blk_drew ?_ | refine blk_alloc ?_ _)); refine blk_far ?_ NB1009_1024.out _; (with_reducible repeat (first | refine blk_drewN ?_ _ | refine blk_drew ?_ | refine blk_alloc ?_ _)); refine blk_far ?_ NB1009_1024.out _; (with_reducible repeat (first | refine blk_drewN ?_ _ | refine blk_drew ?_ | refine blk_alloc ?_ _)); refine blk_far ?_ NB1009_1024.out _; (with_reducible repeat (first | refine blk_drewN ?_ _ | refine blk_drew ?_ | refine blk_alloc ?_ _)); exact BK1009.out) hb); have n3_ := Aside0.mk (blk_below (g := gb1024) (o := .cells #[.int .i64 t1004, .int .i64 t1000, .int .i64 (wrap64 ((wrap64 (t1001 + t1014)) + 1))] 81 (0, 0)) (by (with_reducible repeat (first | refine blk_drewN ?_ _ | refine blk_drew ?_ | refine blk_alloc ?_ _)); refine blk_put (cs := #[.int .i64 t1004, .int .i64 t1000, .int .i64 (wrap64 (t1001 + t1014))]) ?_ 2 _ rfl; (with_reducible repeat (first | refine blk_drewN ?_ _ | refine blk_drew ?_ | refine blk_alloc ?_ _)); refine blk_put (cs := #[.int .i64 t1004, .int .i64 t1000, .int .i64 0]) ?_ 2 _ rfl; (with_reducible repeat (first | refine blk_drewN ?_ _ | refine blk_drew ?_ | refine blk_alloc ?_ _)); refine blk_put (cs := #[.int .i64 t1004, .int .i64 0, .int .i64 0]) ?_ 1 _ rfl; (with_reducible repeat (first | refine blk_drewN ?_ _ | refine blk_drew ?_ | refine blk_alloc ?_ _)); refine blk_put (cs := #[.int .i64 0, .int .i64 0, .int .i64 0]) ?_ 0 _ rfl; (with_reducible repeat (first | refine blk_drewN ?_ _ | refine blk_drew ?_ | refine blk_alloc ?_ _)); exact BK1024.out) hb); have n4_ := Aside0.mk (below_step (by repeat (first | (with_reducible first | exact HB.out | apply below_alloc | apply pw_below_drewN | apply below_drew1 | refine below_set ?_ GE1009.out | refine below_set ?_ GE1024.out) | exact HB.out)) hb); clear HO_5; clear BK1009; clear BK1024; clear HB; have HO_5 := n0_; have HO1035 := n1_; have BK1009 := n2_; have BK1024 := n3_; have HB := n4_; clear n0_ n1_ n2_ n3_ n4_; (try clear hb); (try clear hb2); (try clear hk); (try clear hi); (try clear ho0); obtain ⟨Ao76, co76, eo76⟩ := Kd.R_slice HO1035.out; subst eo76))
                        go_ret
                        exact ⟨by first | rfl | (simp [errW_none, errW_some] <;> rfl) | (simp [*, errW_none, errW_some] <;> rfl) | (simp [Int.tdiv_eq_ediv_of_nonneg, *]; done), by repeat (first | (with_reducible first | exact HB.out | apply below_alloc | apply pw_below_drewN | apply below_drew1 | refine below_set ?_ GE1009.out | refine below_set ?_ GE1024.out) | exact HB.out)⟩
                      · replace c71 := Bool.eq_false_iff.mpr c71
                        subst c71
                        have H1 : (some false) = some r := by rw [if_neg (show ¬ (false = true) by decide)] at H; exact H
                        clear H
                        have H := H1
                        clear H1
                        obtain rfl := Option.some.inj H
                        go_wp2_with (first | ((with_reducible refine gate_dst (N := 20) rfl ?_); (try (refine gate_guard (by rfl) ?_; dsimp only)); refine box_event ?hg (N := 20) ?hd (cs := #[.int .i64 0, .int .i64 0, .int .i64 0]) (t := 81) ?hr ?_; (case hd => rfl); (case hg => rfl); (case hr => first | (go_simp; done) | (go_simp; rfl)); intro gb1024 hg w77 hbox hb; have n0_ := Aside0.mk (Kd.R_below (by (with_reducible repeat (first | apply Kd.R_alloc | apply Kd.R_drewN | apply Kd.R_drew)); exact HO_5.out) hb); have n1_ := Aside0.mk (blk_below (g := gb1009) (o := .cells #[.int .i64 t1004, .int .i64 t1000, .int .i64 t1001] 81 (0, 0)) (by (with_reducible repeat (first | refine blk_drewN ?_ _ | refine blk_drew ?_ | refine blk_alloc ?_ _)); exact BK1009.out) hb); have n2_ := Aside0.mk (below_step (by repeat (first | (with_reducible first | exact HB.out | apply below_alloc | apply pw_below_drewN | apply below_drew1 | refine below_set ?_ GE1009.out) | exact HB.out)) hb); have n3_ := Aside0.mk (hbox); have n4_ := Aside0.mk ((by rw [hg]; exact (below_size (by repeat (first | (with_reducible first | exact HB.out | apply below_alloc | apply pw_below_drewN | apply below_drew1 | refine below_set ?_ GE1009.out) | exact HB.out))) : w.heap.size ≤ gb1024)); have n5_ := Aside0.mk ((by rw [hg]; exact (below_size (by repeat (first | (with_reducible first | exact HB.out | apply below_alloc | apply pw_below_drewN | apply below_drew1 | refine below_set ?_ GE1009.out) | exact HB.out))) : w.heap.size ≤ gb1024)); have n6_ := Aside0.mk ((by rw [hg]; exact Nat.ne_of_lt (blk_lt (g := gb1009) (o := .cells #[.int .i64 t1004, .int .i64 t1000, .int .i64 t1001] 81 (0, 0)) (by (with_reducible repeat (first | refine blk_drewN ?_ _ | refine blk_drew ?_ | refine blk_alloc ?_ _)); exact BK1009.out)) : gb1009 ≠ gb1024)); have n7_ := Aside0.mk ((by rw [hg]; exact Nat.ne_of_gt (blk_lt (g := gb1009) (o := .cells #[.int .i64 t1004, .int .i64 t1000, .int .i64 t1001] 81 (0, 0)) (by (with_reducible repeat (first | refine blk_drewN ?_ _ | refine blk_drew ?_ | refine blk_alloc ?_ _)); exact BK1009.out)) : gb1024 ≠ gb1009)); clear HO_5; clear BK1009; clear HB; have HO_5 := n0_; have BK1009 := n1_; have HB := n2_; have BK1024 := n3_; have GW1024 := n4_; have GE1024 := n5_; have NB1009_1024 := n6_; have NB1024_1009 := n7_; clear n0_ n1_ n2_ n3_ n4_ n5_ n6_ n7_; clear hb hbox hg; have hnb78 := NB1024_1009.out; have hnc78 := NB1009_1024.out; have hcz79_0 : w77.cell? ⟨gb1024, 0, none⟩ = some (.int .i64 0) := (blk_cell BK1024.out 0).trans rfl; have hcz79_1 : w77.cell? ⟨gb1024, 1, none⟩ = some (.int .i64 0) := (blk_cell BK1024.out 1).trans rfl; have hcz79_2 : w77.cell? ⟨gb1024, 2, none⟩ = some (.int .i64 0) := (blk_cell BK1024.out 2).trans rfl; have hfz79_0 := blk_frozen BK1024.out 0; have hfz79_1 := blk_frozen BK1024.out 1; have hfz79_2 := blk_frozen BK1024.out 2; have hxx79_ : ∀ a_ b_ c_ d_, ((((w77.setCell ⟨gb1024, 0, none⟩ a_).setCell ⟨gb1024, 1, none⟩ b_).setCell ⟨gb1024, 2, none⟩ c_).setCell ⟨gb1024, 2, none⟩ d_).cell? ⟨gb1024, 2, none⟩ = some d_ := (by intro a_ b_ c_ d_; obtain ⟨_, h1_⟩ := cell?_setCell_some (p := ⟨gb1024, 0, none⟩) (x := a_) hcz79_2; obtain ⟨_, h2_⟩ := cell?_setCell_some (p := ⟨gb1024, 1, none⟩) (x := b_) h1_; obtain ⟨_, h3_⟩ := cell?_setCell_some (p := ⟨gb1024, 2, none⟩) (x := c_) h2_; exact World.cell?_setCell_same _ _ _ h3_)) | ((with_reducible refine gate_callee (f := 64) rfl ?_); refine goesL_ (some 154) rfl rfl Try.func64 (by kernel_rfl) rfl #[.agg #[.int .i64 t1004, .int .i64 t1000, .int .i64 (wrap64 ((wrap64 (t1001 + t1014)) + 1))], .slice Ao14 t999.length co14] rfl (by (try simp only [List.map_toArray, List.map_cons, List.map_nil]); first | done | rfl | (simp only [List.length_drop, List.length_take]; rfl)) ?_; (with_reducible refine (impl_ShortDays.calls kj31 t1004 t1000 (wrap64 ((wrap64 (t1001 + t1014)) + 1)) _ _ t999 t1033 false _ ?side1 ?side2 A70.out).mono ?_); (case side1 => refine (Kd.R_reads' (e := 119) (base := w.heap.size) (ok := fun k_ => True) (n := t999.length) (c := co14) ?_).2.2; exact (by (with_reducible repeat (first | apply Kd.R_alloc | apply Kd.R_drewN | apply Kd.R_drew)); exact (Kd.R_mono (Kd.R_far (p := ⟨gb1024, 2, none⟩) (Kd.R_far (p := ⟨gb1024, 2, none⟩) (Kd.R_far (p := ⟨gb1024, 1, none⟩) (Kd.R_far (p := ⟨gb1024, 0, none⟩) (Kd.R_types HO_5.out BK1024.out (by decide)) (fun _ hk => hk.2) (.int .i64 t1004)) (fun _ hk => hk.2) (.int .i64 t1000)) (fun _ hk => hk.2) (.int .i64 (wrap64 (t1001 + t1014)))) (fun _ hk => hk.2) (.int .i64 (wrap64 ((wrap64 (t1001 + t1014)) + 1)))) (fun _ h_ => h_.1)))); (case side2 => exact (Kd.R_reads' HO_5.out).2.1); rintro e w80 ⟨v1034, rfl, ho0, hb⟩; refine ⟨_, rfl, ?_⟩; have n0_ := Aside0.mk (Kd.R_below (by (with_reducible repeat (first | apply Kd.R_alloc | apply Kd.R_drewN | apply Kd.R_drew)); exact (Kd.R_mono (Kd.R_far (p := ⟨gb1024, 2, none⟩) (Kd.R_far (p := ⟨gb1024, 2, none⟩) (Kd.R_far (p := ⟨gb1024, 1, none⟩) (Kd.R_far (p := ⟨gb1024, 0, none⟩) (Kd.R_types HO_5.out BK1024.out (by decide)) (fun _ hk => hk.2) (.int .i64 t1004)) (fun _ hk => hk.2) (.int .i64 t1000)) (fun _ hk => hk.2) (.int .i64 (wrap64 (t1001 + t1014)))) (fun _ hk => hk.2) (.int .i64 (wrap64 ((wrap64 (t1001 + t1014)) + 1)))) (fun _ h_ => h_.1))) hb); have n1_ := Aside0.mk (Kd.R_lower ho0 (below_size (by repeat (first | (with_reducible first | exact HB.out | apply below_alloc | apply pw_below_drewN | apply below_drew1 | refine below_set ?_ GE1009.out | refine below_set ?_ GE1024.out) | exact HB.out)))); have n2_ := Aside0.mk (blk_below (g := gb1009) (o := .cells #[.int .i64 t1004, .int .i64 t1000, .int .i64 t1001] 81 (0, 0)) (by (with_reducible repeat (first | refine blk_drewN ?_ _ | refine blk_drew ?_ | refine blk_alloc ?_ _)); refine blk_far ?_ NB1009_1024.out _; (with_reducible repeat (first | refine blk_drewN ?_ _ | refine blk_drew ?_ | refine blk_alloc ?_ _)); refine blk_far ?_ NB1009_1024.out _; (with_reducible repeat (first | refine blk_drewN ?_ _ | refine blk_drew ?_ | refine blk_alloc ?_ _)); refine blk_far ?_ NB1009_1024.out _; (with_reducible repeat (first | refine blk_drewN ?_ _ | refine blk_drew ?_ | refine blk_alloc ?_ _)); refine blk_far ?_ NB1009_1024.out _; (with_reducible repeat (first | refine blk_drewN ?_ _ | refine blk_drew ?_ | refine blk_alloc ?_ _)); exact BK1009.out) hb); have n3_ := Aside0.mk (blk_below (g := gb1024) (o := .cells #[.int .i64 t1004, .int .i64 t1000, .int .i64 (wrap64 ((wrap64 (t1001 + t1014)) + 1))] 81 (0, 0)) (by (with_reducible repeat (first | refine blk_drewN ?_ _ | refine blk_drew ?_ | refine blk_alloc ?_ _)); refine blk_put (cs := #[.int .i64 t1004, .int .i64 t1000, .int .i64 (wrap64 (t1001 + t1014))]) ?_ 2 _ rfl; (with_reducible repeat (first | refine blk_drewN ?_ _ | refine blk_drew ?_ | refine blk_alloc ?_ _)); refine blk_put (cs := #[.int .i64 t1004, .int .i64 t1000, .int .i64 0]) ?_ 2 _ rfl; (with_reducible repeat (first | refine blk_drewN ?_ _ | refine blk_drew ?_ | refine blk_alloc ?_ _)); refine blk_put (cs := #[.int .i64 t1004, .int .i64 0, .int .i64 0]) ?_ 1 _ rfl; (with_reducible repeat (first | refine blk_drewN ?_ _ | refine blk_drew ?_ | refine blk_alloc ?_ _)); refine blk_put (cs := #[.int .i64 0, .int .i64 0, .int .i64 0]) ?_ 0 _ rfl; (with_reducible repeat (first | refine blk_drewN ?_ _ | refine blk_drew ?_ | refine blk_alloc ?_ _)); exact BK1024.out) hb); have n4_ := Aside0.mk (below_step (by repeat (first | (with_reducible first | exact HB.out | apply below_alloc | apply pw_below_drewN | apply below_drew1 | refine below_set ?_ GE1009.out | refine below_set ?_ GE1024.out) | exact HB.out)) hb); clear HO_5; clear BK1009; clear BK1024; clear HB; have HO_5 := n0_; have HO1035 := n1_; have BK1009 := n2_; have BK1024 := n3_; have HB := n4_; clear n0_ n1_ n2_ n3_ n4_; (try clear hb); (try clear hb2); (try clear hk); (try clear hi); (try clear ho0)))
                        go_ret
                        exact ⟨by first | rfl | (simp [errW_none, errW_some] <;> rfl) | (simp [*, errW_none, errW_some] <;> rfl) | (simp [Int.tdiv_eq_ediv_of_nonneg, *]; done), by repeat (first | (with_reducible first | exact HB.out | apply below_alloc | apply pw_below_drewN | apply below_drew1 | refine below_set ?_ GE1009.out | refine below_set ?_ GE1024.out) | exact HB.out)⟩
                    · rw [if_neg c69] at H
                      have c69b0 : decide (t1014 < 200) = false := decide_eq_false c69
                      clear c69
                      obtain rfl := Option.some.inj H
                      go_wp2_with (first | ((with_reducible refine gate_dst (N := 20) rfl ?_); (try (refine gate_guard (by rfl) ?_; dsimp only)); refine box_event ?hg (N := 20) ?hd (cs := #[.int .i64 0, .int .i64 0, .int .i64 0]) (t := 81) ?hr ?_; (case hd => rfl); (case hg => rfl); (case hr => first | (go_simp; done) | (go_simp; rfl)); intro gb1024 hg w81 hbox hb; have n0_ := Aside0.mk (Kd.R_below (by (with_reducible repeat (first | apply Kd.R_alloc | apply Kd.R_drewN | apply Kd.R_drew)); exact HO_5.out) hb); have n1_ := Aside0.mk (blk_below (g := gb1009) (o := .cells #[.int .i64 t1004, .int .i64 t1000, .int .i64 t1001] 81 (0, 0)) (by (with_reducible repeat (first | refine blk_drewN ?_ _ | refine blk_drew ?_ | refine blk_alloc ?_ _)); exact BK1009.out) hb); have n2_ := Aside0.mk (below_step (by repeat (first | (with_reducible first | exact HB.out | apply below_alloc | apply pw_below_drewN | apply below_drew1 | refine below_set ?_ GE1009.out) | exact HB.out)) hb); have n3_ := Aside0.mk (hbox); have n4_ := Aside0.mk ((by rw [hg]; exact (below_size (by repeat (first | (with_reducible first | exact HB.out | apply below_alloc | apply pw_below_drewN | apply below_drew1 | refine below_set ?_ GE1009.out) | exact HB.out))) : w.heap.size ≤ gb1024)); have n5_ := Aside0.mk ((by rw [hg]; exact (below_size (by repeat (first | (with_reducible first | exact HB.out | apply below_alloc | apply pw_below_drewN | apply below_drew1 | refine below_set ?_ GE1009.out) | exact HB.out))) : w.heap.size ≤ gb1024)); have n6_ := Aside0.mk ((by rw [hg]; exact Nat.ne_of_lt (blk_lt (g := gb1009) (o := .cells #[.int .i64 t1004, .int .i64 t1000, .int .i64 t1001] 81 (0, 0)) (by (with_reducible repeat (first | refine blk_drewN ?_ _ | refine blk_drew ?_ | refine blk_alloc ?_ _)); exact BK1009.out)) : gb1009 ≠ gb1024)); have n7_ := Aside0.mk ((by rw [hg]; exact Nat.ne_of_gt (blk_lt (g := gb1009) (o := .cells #[.int .i64 t1004, .int .i64 t1000, .int .i64 t1001] 81 (0, 0)) (by (with_reducible repeat (first | refine blk_drewN ?_ _ | refine blk_drew ?_ | refine blk_alloc ?_ _)); exact BK1009.out)) : gb1024 ≠ gb1009)); clear HO_5; clear BK1009; clear HB; have HO_5 := n0_; have BK1009 := n1_; have HB := n2_; have BK1024 := n3_; have GW1024 := n4_; have GE1024 := n5_; have NB1009_1024 := n6_; have NB1024_1009 := n7_; clear n0_ n1_ n2_ n3_ n4_ n5_ n6_ n7_; clear hb hbox hg; have hnb82 := NB1024_1009.out; have hnc82 := NB1009_1024.out; have hcz83_0 : w81.cell? ⟨gb1024, 0, none⟩ = some (.int .i64 0) := (blk_cell BK1024.out 0).trans rfl; have hcz83_1 : w81.cell? ⟨gb1024, 1, none⟩ = some (.int .i64 0) := (blk_cell BK1024.out 1).trans rfl; have hcz83_2 : w81.cell? ⟨gb1024, 2, none⟩ = some (.int .i64 0) := (blk_cell BK1024.out 2).trans rfl; have hfz83_0 := blk_frozen BK1024.out 0; have hfz83_1 := blk_frozen BK1024.out 1; have hfz83_2 := blk_frozen BK1024.out 2; have hxx83_ : ∀ a_ b_ c_ d_, ((((w81.setCell ⟨gb1024, 0, none⟩ a_).setCell ⟨gb1024, 1, none⟩ b_).setCell ⟨gb1024, 2, none⟩ c_).setCell ⟨gb1024, 2, none⟩ d_).cell? ⟨gb1024, 2, none⟩ = some d_ := (by intro a_ b_ c_ d_; obtain ⟨_, h1_⟩ := cell?_setCell_some (p := ⟨gb1024, 0, none⟩) (x := a_) hcz83_2; obtain ⟨_, h2_⟩ := cell?_setCell_some (p := ⟨gb1024, 1, none⟩) (x := b_) h1_; obtain ⟨_, h3_⟩ := cell?_setCell_some (p := ⟨gb1024, 2, none⟩) (x := c_) h2_; exact World.cell?_setCell_same _ _ _ h3_)))
                      go_ret
                      exact ⟨by first | rfl | (simp [errW_none, errW_some] <;> rfl) | (simp [*, errW_none, errW_some] <;> rfl) | (simp [Int.tdiv_eq_ediv_of_nonneg, *]; done), by repeat (first | (with_reducible first | exact HB.out | apply below_alloc | apply pw_below_drewN | apply below_drew1 | refine below_set ?_ GE1009.out | refine below_set ?_ GE1024.out) | exact HB.out)⟩
                  · rw [if_neg c68] at H
                    have c68b0 : decide ((wrap64 ((wrap64 (t1001 + t1014)) + 1)) ≤ 40) = false := decide_eq_false c68
                    clear c68
                    obtain rfl := Option.some.inj H
                    go_wp2_with (first | ((with_reducible refine gate_dst (N := 20) rfl ?_); (try (refine gate_guard (by rfl) ?_; dsimp only)); refine box_event ?hg (N := 20) ?hd (cs := #[.int .i64 0, .int .i64 0, .int .i64 0]) (t := 81) ?hr ?_; (case hd => rfl); (case hg => rfl); (case hr => first | (go_simp; done) | (go_simp; rfl)); intro gb1024 hg w84 hbox hb; have n0_ := Aside0.mk (Kd.R_below (by (with_reducible repeat (first | apply Kd.R_alloc | apply Kd.R_drewN | apply Kd.R_drew)); exact HO_5.out) hb); have n1_ := Aside0.mk (blk_below (g := gb1009) (o := .cells #[.int .i64 t1004, .int .i64 t1000, .int .i64 t1001] 81 (0, 0)) (by (with_reducible repeat (first | refine blk_drewN ?_ _ | refine blk_drew ?_ | refine blk_alloc ?_ _)); exact BK1009.out) hb); have n2_ := Aside0.mk (below_step (by repeat (first | (with_reducible first | exact HB.out | apply below_alloc | apply pw_below_drewN | apply below_drew1 | refine below_set ?_ GE1009.out) | exact HB.out)) hb); have n3_ := Aside0.mk (hbox); have n4_ := Aside0.mk ((by rw [hg]; exact (below_size (by repeat (first | (with_reducible first | exact HB.out | apply below_alloc | apply pw_below_drewN | apply below_drew1 | refine below_set ?_ GE1009.out) | exact HB.out))) : w.heap.size ≤ gb1024)); have n5_ := Aside0.mk ((by rw [hg]; exact (below_size (by repeat (first | (with_reducible first | exact HB.out | apply below_alloc | apply pw_below_drewN | apply below_drew1 | refine below_set ?_ GE1009.out) | exact HB.out))) : w.heap.size ≤ gb1024)); have n6_ := Aside0.mk ((by rw [hg]; exact Nat.ne_of_lt (blk_lt (g := gb1009) (o := .cells #[.int .i64 t1004, .int .i64 t1000, .int .i64 t1001] 81 (0, 0)) (by (with_reducible repeat (first | refine blk_drewN ?_ _ | refine blk_drew ?_ | refine blk_alloc ?_ _)); exact BK1009.out)) : gb1009 ≠ gb1024)); have n7_ := Aside0.mk ((by rw [hg]; exact Nat.ne_of_gt (blk_lt (g := gb1009) (o := .cells #[.int .i64 t1004, .int .i64 t1000, .int .i64 t1001] 81 (0, 0)) (by (with_reducible repeat (first | refine blk_drewN ?_ _ | refine blk_drew ?_ | refine blk_alloc ?_ _)); exact BK1009.out)) : gb1024 ≠ gb1009)); clear HO_5; clear BK1009; clear HB; have HO_5 := n0_; have BK1009 := n1_; have HB := n2_; have BK1024 := n3_; have GW1024 := n4_; have GE1024 := n5_; have NB1009_1024 := n6_; have NB1024_1009 := n7_; clear n0_ n1_ n2_ n3_ n4_ n5_ n6_ n7_; clear hb hbox hg; have hnb85 := NB1024_1009.out; have hnc85 := NB1009_1024.out; have hcz86_0 : w84.cell? ⟨gb1024, 0, none⟩ = some (.int .i64 0) := (blk_cell BK1024.out 0).trans rfl; have hcz86_1 : w84.cell? ⟨gb1024, 1, none⟩ = some (.int .i64 0) := (blk_cell BK1024.out 1).trans rfl; have hcz86_2 : w84.cell? ⟨gb1024, 2, none⟩ = some (.int .i64 0) := (blk_cell BK1024.out 2).trans rfl; have hfz86_0 := blk_frozen BK1024.out 0; have hfz86_1 := blk_frozen BK1024.out 1; have hfz86_2 := blk_frozen BK1024.out 2; have hxx86_ : ∀ a_ b_ c_ d_, ((((w84.setCell ⟨gb1024, 0, none⟩ a_).setCell ⟨gb1024, 1, none⟩ b_).setCell ⟨gb1024, 2, none⟩ c_).setCell ⟨gb1024, 2, none⟩ d_).cell? ⟨gb1024, 2, none⟩ = some d_ := (by intro a_ b_ c_ d_; obtain ⟨_, h1_⟩ := cell?_setCell_some (p := ⟨gb1024, 0, none⟩) (x := a_) hcz86_2; obtain ⟨_, h2_⟩ := cell?_setCell_some (p := ⟨gb1024, 1, none⟩) (x := b_) h1_; obtain ⟨_, h3_⟩ := cell?_setCell_some (p := ⟨gb1024, 2, none⟩) (x := c_) h2_; exact World.cell?_setCell_same _ _ _ h3_)))
                    go_ret
                    exact ⟨by first | rfl | (simp [errW_none, errW_some] <;> rfl) | (simp [*, errW_none, errW_some] <;> rfl) | (simp [Int.tdiv_eq_ediv_of_nonneg, *]; done), by repeat (first | (with_reducible first | exact HB.out | apply below_alloc | apply pw_below_drewN | apply below_drew1 | refine below_set ?_ GE1009.out | refine below_set ?_ GE1024.out) | exact HB.out)⟩
    · replace c7 := Bool.eq_false_iff.mpr c7
      subst c7
      have H1 : ((impl_ValidOrders.f k t999).bind fun t1007 => (if t1007 = true then ((impl_ValidWorks.f 0 0 0).bind fun t1008 => (some (!t1008))) else (some false))) = some r := by rw [if_neg (show ¬ (false = true) by decide)] at H; exact H
      clear H
      have H := H1
      clear H1
      replace H := Option.bind_eq_some_iff.mp H
      obtain ⟨t1007, A870, H⟩ := H
      replace H : (if t1007 = true then ((impl_ValidWorks.f 0 0 0).bind fun t1008 => (some (!t1008))) else (some false)) = some r := H
      have A87 := Aside0.mk A870
      clear A870
      by_cases c88 : t1007 = true
      · subst c88
        have H1 : ((impl_ValidWorks.f 0 0 0).bind fun t1008 => (some (!t1008))) = some r := by rw [if_pos rfl] at H; exact H
        clear H
        have H := H1
        clear H1
        replace H := Option.bind_eq_some_iff.mp H
        obtain ⟨t1008, A890, H⟩ := H
        replace H : (some (!t1008)) = some r := H
        have A89 := Aside0.mk A890
        clear A890
        obtain rfl := Option.some.inj H
        go_enter Try.func13, Try.ntmps13
        go_wp2_with (first | ((with_reducible refine gate_callee (f := 21) rfl ?_); refine goesL_ (some 27) rfl rfl Try.func21 (by kernel_rfl) rfl #[.slice A0 l0.length c0, .slice A1 l1.length c1] rfl (by (try simp only [List.map_toArray, List.map_cons, List.map_nil]); first | done | rfl | (simp only [List.length_drop, List.length_take]; rfl)) ?_; (with_reducible refine (laws_b10Long.calls _ _ l0 _ _ l1 false _ ?side1 ?side2 ?side3 ?side4 A3.out).mono ?_); (case side1 => repeat (first | exact HR0.out | (with_reducible refine Kd.C_alloc ?_ _) | (with_reducible refine Kd.C_drewN ?_ _) | (with_reducible refine Kd.C_drew ?_))); (case side2 => exact HC0.out); (case side3 => repeat (first | exact HR1.out | (with_reducible refine Kd.C_alloc ?_ _) | (with_reducible refine Kd.C_drewN ?_ _) | (with_reducible refine Kd.C_drew ?_))); (case side4 => exact HC1.out); rintro e w' ⟨rfl, ⟨nd, rfl⟩⟩; refine ⟨_, rfl, ?_⟩) | ((with_reducible refine gate_callee (f := 61) rfl ?_); refine goesL_ (some 30) rfl rfl Try.func61 (by kernel_rfl) rfl #[.slice A0 l0.length c0] rfl (by (try simp only [List.map_toArray, List.map_cons, List.map_nil]); first | done | rfl | (simp only [List.length_drop, List.length_take]; rfl)) ?_; (with_reducible refine (spec_B10Orders.calls k _ _ l0 t999 t1000 t1001 _ ?side1 ?side2 A5.out).mono ?_); (case side1 => repeat (first | exact HR0.out | (with_reducible refine Kd.C_alloc ?_ _) | (with_reducible refine Kd.C_drewN ?_ _) | (with_reducible refine Kd.C_drew ?_))); (case side2 => exact HC0.out); rintro e w90 ⟨v1002, rfl, ho0, hb⟩; refine ⟨_, rfl, ?_⟩; have n0_ := Aside0.mk (Kd.R_lower ho0 (below_size (by repeat (first | (with_reducible first | exact HB.out | apply below_alloc | apply pw_below_drewN | apply below_drew1) | exact HB.out)))); have n1_ := Aside0.mk (below_step (by repeat (first | (with_reducible first | exact HB.out | apply below_alloc | apply pw_below_drewN | apply below_drew1) | exact HB.out)) hb); clear HB; have HO1003 := n0_; have HB := n1_; clear n0_ n1_; (try clear hb); (try clear hb2); (try clear hk); (try clear hi); (try clear ho0); obtain ⟨Ao91, co91, eo91⟩ := Kd.R_slice HO1003.out; subst eo91) | ((with_reducible refine gate_callee (f := 46) rfl ?_); refine goesL_ (some 38) rfl rfl Try.func46 (by kernel_rfl) rfl #[.int .i64 t1000, .int .i64 t1001, .slice Ao91 t999.length co91] rfl (by (try simp only [List.map_toArray, List.map_cons, List.map_nil]); first | done | rfl | (simp only [List.length_drop, List.length_take]; rfl)) ?_; (with_reducible refine (impl_FewestMoulds.calls k t1000 t1001 _ _ t999 t1004 t1005 false _ ?side1 ?side2 A6.out).mono ?_); (case side1 => repeat (first | exact (Kd.R_reads' HO1003.out).2.2 | (with_reducible refine Kd.C_alloc ?_ _) | (with_reducible refine Kd.C_drewN ?_ _) | (with_reducible refine Kd.C_drew ?_))); (case side2 => exact (Kd.R_reads' HO1003.out).2.1); rintro e w92 ⟨rfl, hb⟩; refine ⟨_, rfl, ?_⟩; have n0_ := Aside0.mk (Kd.R_below (by (with_reducible repeat (first | apply Kd.R_alloc | apply Kd.R_drewN | apply Kd.R_drew)); exact HO1003.out) hb); have n1_ := Aside0.mk (below_step (by repeat (first | (with_reducible first | exact HB.out | apply below_alloc | apply pw_below_drewN | apply below_drew1) | exact HB.out)) hb); clear HO1003; clear HB; have HO1003 := n0_; have HB := n1_; clear n0_ n1_; (try clear hb); (try clear hb2); (try clear hk); (try clear hi)) | ((with_reducible refine gate_callee (f := 62) rfl ?_); refine goesL_ (some 45) rfl rfl Try.func62 (by kernel_rfl) rfl #[.slice Ao91 t999.length co91] rfl (by (try simp only [List.map_toArray, List.map_cons, List.map_nil]); first | done | rfl | (simp only [List.length_drop, List.length_take]; rfl)) ?_; (with_reducible refine (impl_ValidOrders.calls k _ _ t999 true _ ?side1 ?side2 A87.out).mono ?_); (case side1 => repeat (first | exact (Kd.R_reads' HO1003.out).2.2 | (with_reducible refine Kd.C_alloc ?_ _) | (with_reducible refine Kd.C_drewN ?_ _) | (with_reducible refine Kd.C_drew ?_))); (case side2 => exact (Kd.R_reads' HO1003.out).2.1); rintro e w93 ⟨rfl, hb⟩; refine ⟨_, rfl, ?_⟩; have n0_ := Aside0.mk (Kd.R_below (by (with_reducible repeat (first | apply Kd.R_alloc | apply Kd.R_drewN | apply Kd.R_drew)); exact HO1003.out) hb); have n1_ := Aside0.mk (below_step (by repeat (first | (with_reducible first | exact HB.out | apply below_alloc | apply pw_below_drewN | apply below_drew1) | exact HB.out)) hb); clear HO1003; clear HB; have HO1003 := n0_; have HB := n1_; clear n0_ n1_; (try clear hb); (try clear hb2); (try clear hk); (try clear hi)) | (go_at_call 63; (with_reducible refine (impl_ValidWorks.calls 0 0 0 t1008 _ A89.out).mono ?_); rintro e w94 ⟨rfl, hb⟩; have n0_ := Aside0.mk (Kd.R_below (by (with_reducible repeat (first | apply Kd.R_alloc | apply Kd.R_drewN | apply Kd.R_drew)); exact HO1003.out) hb); have n1_ := Aside0.mk (below_step (by repeat (first | (with_reducible first | exact HB.out | apply below_alloc | apply pw_below_drewN | apply below_drew1) | exact HB.out)) hb); clear HO1003; clear HB; have HO1003 := n0_; have HB := n1_; clear n0_ n1_; (try clear hb); (try clear hb2); (try clear hk); (try clear hi)))
        go_ret
        exact ⟨by first | rfl | (simp [errW_none, errW_some] <;> rfl) | (simp [*, errW_none, errW_some] <;> rfl) | (simp [Int.tdiv_eq_ediv_of_nonneg, *]; done), by repeat (first | (with_reducible first | exact HB.out | apply below_alloc | apply pw_below_drewN | apply below_drew1) | exact HB.out)⟩
      · replace c88 := Bool.eq_false_iff.mpr c88
        subst c88
        have H1 : (some false) = some r := by rw [if_neg (show ¬ (false = true) by decide)] at H; exact H
        clear H
        have H := H1
        clear H1
        obtain rfl := Option.some.inj H
        go_enter Try.func13, Try.ntmps13
        go_wp2_with (first | ((with_reducible refine gate_callee (f := 21) rfl ?_); refine goesL_ (some 27) rfl rfl Try.func21 (by kernel_rfl) rfl #[.slice A0 l0.length c0, .slice A1 l1.length c1] rfl (by (try simp only [List.map_toArray, List.map_cons, List.map_nil]); first | done | rfl | (simp only [List.length_drop, List.length_take]; rfl)) ?_; (with_reducible refine (laws_b10Long.calls _ _ l0 _ _ l1 false _ ?side1 ?side2 ?side3 ?side4 A3.out).mono ?_); (case side1 => repeat (first | exact HR0.out | (with_reducible refine Kd.C_alloc ?_ _) | (with_reducible refine Kd.C_drewN ?_ _) | (with_reducible refine Kd.C_drew ?_))); (case side2 => exact HC0.out); (case side3 => repeat (first | exact HR1.out | (with_reducible refine Kd.C_alloc ?_ _) | (with_reducible refine Kd.C_drewN ?_ _) | (with_reducible refine Kd.C_drew ?_))); (case side4 => exact HC1.out); rintro e w' ⟨rfl, ⟨nd, rfl⟩⟩; refine ⟨_, rfl, ?_⟩) | ((with_reducible refine gate_callee (f := 61) rfl ?_); refine goesL_ (some 30) rfl rfl Try.func61 (by kernel_rfl) rfl #[.slice A0 l0.length c0] rfl (by (try simp only [List.map_toArray, List.map_cons, List.map_nil]); first | done | rfl | (simp only [List.length_drop, List.length_take]; rfl)) ?_; (with_reducible refine (spec_B10Orders.calls k _ _ l0 t999 t1000 t1001 _ ?side1 ?side2 A5.out).mono ?_); (case side1 => repeat (first | exact HR0.out | (with_reducible refine Kd.C_alloc ?_ _) | (with_reducible refine Kd.C_drewN ?_ _) | (with_reducible refine Kd.C_drew ?_))); (case side2 => exact HC0.out); rintro e w95 ⟨v1002, rfl, ho0, hb⟩; refine ⟨_, rfl, ?_⟩; have n0_ := Aside0.mk (Kd.R_lower ho0 (below_size (by repeat (first | (with_reducible first | exact HB.out | apply below_alloc | apply pw_below_drewN | apply below_drew1) | exact HB.out)))); have n1_ := Aside0.mk (below_step (by repeat (first | (with_reducible first | exact HB.out | apply below_alloc | apply pw_below_drewN | apply below_drew1) | exact HB.out)) hb); clear HB; have HO1003 := n0_; have HB := n1_; clear n0_ n1_; (try clear hb); (try clear hb2); (try clear hk); (try clear hi); (try clear ho0); obtain ⟨Ao96, co96, eo96⟩ := Kd.R_slice HO1003.out; subst eo96) | ((with_reducible refine gate_callee (f := 46) rfl ?_); refine goesL_ (some 38) rfl rfl Try.func46 (by kernel_rfl) rfl #[.int .i64 t1000, .int .i64 t1001, .slice Ao96 t999.length co96] rfl (by (try simp only [List.map_toArray, List.map_cons, List.map_nil]); first | done | rfl | (simp only [List.length_drop, List.length_take]; rfl)) ?_; (with_reducible refine (impl_FewestMoulds.calls k t1000 t1001 _ _ t999 t1004 t1005 false _ ?side1 ?side2 A6.out).mono ?_); (case side1 => repeat (first | exact (Kd.R_reads' HO1003.out).2.2 | (with_reducible refine Kd.C_alloc ?_ _) | (with_reducible refine Kd.C_drewN ?_ _) | (with_reducible refine Kd.C_drew ?_))); (case side2 => exact (Kd.R_reads' HO1003.out).2.1); rintro e w97 ⟨rfl, hb⟩; refine ⟨_, rfl, ?_⟩; have n0_ := Aside0.mk (Kd.R_below (by (with_reducible repeat (first | apply Kd.R_alloc | apply Kd.R_drewN | apply Kd.R_drew)); exact HO1003.out) hb); have n1_ := Aside0.mk (below_step (by repeat (first | (with_reducible first | exact HB.out | apply below_alloc | apply pw_below_drewN | apply below_drew1) | exact HB.out)) hb); clear HO1003; clear HB; have HO1003 := n0_; have HB := n1_; clear n0_ n1_; (try clear hb); (try clear hb2); (try clear hk); (try clear hi)) | ((with_reducible refine gate_callee (f := 62) rfl ?_); refine goesL_ (some 45) rfl rfl Try.func62 (by kernel_rfl) rfl #[.slice Ao96 t999.length co96] rfl (by (try simp only [List.map_toArray, List.map_cons, List.map_nil]); first | done | rfl | (simp only [List.length_drop, List.length_take]; rfl)) ?_; (with_reducible refine (impl_ValidOrders.calls k _ _ t999 false _ ?side1 ?side2 A87.out).mono ?_); (case side1 => repeat (first | exact (Kd.R_reads' HO1003.out).2.2 | (with_reducible refine Kd.C_alloc ?_ _) | (with_reducible refine Kd.C_drewN ?_ _) | (with_reducible refine Kd.C_drew ?_))); (case side2 => exact (Kd.R_reads' HO1003.out).2.1); rintro e w98 ⟨rfl, hb⟩; refine ⟨_, rfl, ?_⟩; have n0_ := Aside0.mk (Kd.R_below (by (with_reducible repeat (first | apply Kd.R_alloc | apply Kd.R_drewN | apply Kd.R_drew)); exact HO1003.out) hb); have n1_ := Aside0.mk (below_step (by repeat (first | (with_reducible first | exact HB.out | apply below_alloc | apply pw_below_drewN | apply below_drew1) | exact HB.out)) hb); clear HO1003; clear HB; have HO1003 := n0_; have HB := n1_; clear n0_ n1_; (try clear hb); (try clear hb2); (try clear hk); (try clear hi)))
        go_ret
        exact ⟨by first | rfl | (simp [errW_none, errW_some] <;> rfl) | (simp [*, errW_none, errW_some] <;> rfl) | (simp [Int.tdiv_eq_ediv_of_nonneg, *]; done), by repeat (first | (with_reducible first | exact HB.out | apply below_alloc | apply pw_below_drewN | apply below_drew1) | exact HB.out)⟩

/-- THE ONE PURE STATEMENT of laws_FnCast: yours. -/
def laws_FnCast.Pure : Prop := ∀ (l0 : List Int) (l1 : List Int), l0.length ≤ maxLen → l0.length * 1 ≤ 140737488351232 → (∀ x ∈ l0, (Lit.int .u8 x).wf = true) → l1.length ≤ maxLen → l1.length * 1 ≤ 140737488351232 → (∀ x ∈ l1, (Lit.int .u8 x).wf = true) → ∃ k, laws_FnCast.f k l0 l1 = some true
theorem laws_FnCast.walk (P : laws_FnCast.Pure) (a0 : Option Addr) (len0 cap0 : Nat) (z0 : List Int) (a1 : Option Addr) (len1 cap1 : Nat) (z1 : List Int) (w : World) (w0 : (a0 = none ∧ len0 = 0 ∧ cap0 = 0 ∧ z0 = []) ∨ ∃ x, a0 = some x ∧ len0 ≤ cap0 ∧ cap0 ≤ maxLen ∧ z0.length = cap0 ∧ (∀ i, i < z0.length → w.cell? (x.add i) = some (.int .u8 (z0.getD i 0))) ∧ ∀ n ∈ z0, (Lit.int .u8 n).wf = true) (y0 : len0 * 1 ≤ 140737488351232) (w1 : (a1 = none ∧ len1 = 0 ∧ cap1 = 0 ∧ z1 = []) ∨ ∃ x, a1 = some x ∧ len1 ≤ cap1 ∧ cap1 ≤ maxLen ∧ z1.length = cap1 ∧ (∀ i, i < z1.length → w.cell? (x.add i) = some (.int .u8 (z1.getD i 0))) ∧ ∀ n ∈ z1, (Lit.int .u8 n).wf = true) (y1 : len1 * 1 ≤ 140737488351232) :
    Calls Try.prog 13 #[.slice a0 len0 cap0, .slice a1 len1 cap1] w fun e w' => e = .returned (.bool true) ∧ Below w.heap.size w w' := by
  obtain ⟨l0, rfl, hr0, hm0, hw0, hc0⟩ := ReadsInt.ofRowC w0
  obtain ⟨l1, rfl, hr1, hm1, hw1, hc1⟩ := ReadsInt.ofRowC w1
  obtain ⟨k, h⟩ := P l0 l1 hm0 y0 hw0 hm1 y1 hw1
  refine (laws_FnCast.calls k _ _ l0 _ _ l1 true w (Kd.C_of_reads (d := (0 : Int)) (h1 := fun _ => rfl) hr0) hc0 (Kd.C_of_reads (d := (0 : Int)) (h1 := fun _ => rfl) hr1) hc1 h).mono ?_
  rintro e w' ⟨rfl, hd⟩
  exact ⟨rfl, hd⟩

end Go.Proofs.Ytajndapolblhmaa.P
/- Plain facts on numbers and lists that every loop's lemma uses. -/
namespace Go.Proofs.Ytajndapolblhmaa.P
open Go.RowKit Go.Proofs.Ytajndapolblhmaa.P Go.Proofs.YtajndapolblhmaaW.PrintWords Go.Proofs.YtajndapolblhmaaW.PrintLast Go.Proofs.YtajndapolblhmaaW.PrintMore
set_option linter.unusedVariables false
set_option linter.unusedSimpArgs false
theorem w64 (x : Int) (h1 : -9223372036854775808 ≤ x) (h2 : x ≤ 9223372036854775807) : wrap64 x = x := by unfold wrap64; omega
theorem w64s (i : Nat) (h : i < 9223372036854775807) : wrap64 ((i : Int) + 1) = ((i + 1 : Nat) : Int) := by unfold wrap64; omega
theorem wf64 {x : Int} (h : (Lit.int .i64 x).wf = true) : -9223372036854775808 ≤ x ∧ x ≤ 9223372036854775807 := by
  simp only [Lit.wf, IntKind.min, IntKind.max, IntKind.signed, IntKind.bits, Bool.and_eq_true, decide_eq_true_eq, if_true] at h
  omega
theorem wfu8 {x : Int} (h : (Lit.int .u8 x).wf = true) : 0 ≤ x ∧ x ≤ 255 := by
  simp only [Lit.wf, IntKind.min, IntKind.max, IntKind.signed, IntKind.bits, Bool.and_eq_true, decide_eq_true_eq] at h
  simp at h
  omega
theorem rd_at (l : List Int) (i : Nat) (h : i < l.length) : rd l (i : Int) = l[i] := by
  unfold rd
  rw [Int.toNat_natCast, List.getD_eq_getElem?_getD, List.getElem?_eq_getElem h]
  rfl
theorem drop_at (l : List Int) (i : Nat) (h : i < l.length) : l.drop i = rd l (i : Int) :: l.drop (i + 1) := by
  rw [rd_at l i h, List.drop_eq_getElem_cons h]
theorem fill_step {α : Type} (l acc : List α) (i : Nat) (x : α) (hi : i < l.length) (hl : acc.length = l.length) (h : acc.take i = l.take i) (hx : l[i] = x) : (acc.set i x).take (i + 1) = l.take (i + 1) := by
  subst hx
  have hi2 : i < (acc.set i l[i]).length := by rw [List.length_set]; omega
  rw [List.take_succ_eq_append_getElem hi2, List.take_succ_eq_append_getElem hi, List.getElem_set_self, List.take_set_of_le (Nat.le_refl i), h]
def iota (m : Int) : Nat → List Int
  | 0 => []
  | n + 1 => m :: iota (m + 1) n
theorem iota_length (m : Int) (n : Nat) : (iota m n).length = n := by
  induction n generalizing m with
  | zero => rfl
  | succ n ih => simp [iota, ih]
theorem iota_get (m : Int) (n i : Nat) (h : i < (iota m n).length) : (iota m n)[i] = m + i := by
  induction n generalizing m i with
  | zero => rw [iota_length] at h; omega
  | succ n ih =>
    cases i with
    | zero => simp [iota]
    | succ i =>
      have h2 : i < (iota (m + 1) n).length := by rw [iota_length] at h ⊢; omega
      simp only [iota, List.getElem_cons_succ]
      rw [ih (m + 1) i h2]
      omega
theorem bind_some_ {α β : Type} (a : α) (f : α → Option β) : (some a).bind f = f a := rfl
theorem ite_tt (b r : Bool) : (if b = true then some r else some false) = some (b && r) := by cases b <;> rfl
theorem ite_ff (p : Prop) [Decidable p] (r : Bool) : (if p then some false else some r) = some (!decide p && r) := by by_cases h : p <;> simp [h]
theorem ite_pp (p : Prop) [Decidable p] (r : Bool) : (if p then some r else some false) = some (decide p && r) := by by_cases h : p <;> simp [h]
theorem not_ge_dec (a b : Int) : (!decide (a ≥ b)) = decide (a < b) := by by_cases h : a < b <;> simp [h] <;> omega

end Go.Proofs.Ytajndapolblhmaa.P
/- A number that an input's byte chooses lies below its bound. -/
namespace Go.Proofs.Ytajndapolblhmaa.P
open Go.RowKit Go.Proofs.Ytajndapolblhmaa.P Go.Proofs.YtajndapolblhmaaW.PrintWords Go.Proofs.YtajndapolblhmaaW.PrintLast Go.Proofs.YtajndapolblhmaaW.PrintMore
set_option linter.unusedVariables false
set_option linter.unusedSimpArgs false
theorem b10At_in (l : List Int) (hl : ∀ x ∈ l, (Lit.int .u8 x).wf = true) (i n : Int) (hi : 0 ≤ i ∧ i ≤ 1000) (hn : 1 ≤ n ∧ n ≤ 100000) : ∃ r, laws_b10At.f l i n = some r ∧ 0 ≤ r ∧ r < n := by
  unfold laws_b10At.f
  by_cases h1 : n ≤ 1
  · rw [if_pos h1]; exact ⟨0, rfl, by omega, by omega⟩
  · rw [if_neg h1]
    by_cases h2 : i < (l.length : Int)
    · obtain ⟨j, rfl⟩ : ∃ j : Nat, i = j := ⟨i.toNat, by omega⟩
      have hr := wfu8 (hl _ (List.getElem_mem (show j < l.length by omega)))
      rw [if_pos h2, if_pos (by omega), if_neg (by omega), rd_at l j (by omega), w64 _ (by omega) (by omega)]
      exact ⟨_, rfl, Int.tmod_nonneg _ hr.1, Int.tmod_lt_of_pos _ (by omega)⟩
    · rw [if_neg h2, if_neg (by omega), w64 (i * 37) (by omega) (by omega), w64 (i * 37 + 11) (by omega) (by omega)]
      exact ⟨_, rfl, Int.tmod_nonneg _ (by omega), Int.tmod_lt_of_pos _ (by omega)⟩

end Go.Proofs.Ytajndapolblhmaa.P
/- A number is in a list, as a law asks it. -/
namespace Go.Proofs.Ytajndapolblhmaa.P
open Go.RowKit Go.Proofs.Ytajndapolblhmaa.P Go.Proofs.YtajndapolblhmaaW.PrintWords Go.Proofs.YtajndapolblhmaaW.PrintLast Go.Proofs.YtajndapolblhmaaW.PrintMore
set_option linter.unusedVariables false
set_option linter.unusedSimpArgs false
theorem b10Has_loop (l : List Int) (n : Int) (hb : l.length ≤ 9223372036854775806) : ∀ (d k i : Nat), i + d = l.length → d < k → laws_b10Has.l0 k l n i = some (decide (n ∈ l.drop i)) := by
  intro d
  induction d with
  | zero =>
    intro k i hi hk
    obtain ⟨k, rfl⟩ : ∃ m, k = m + 1 := ⟨k - 1, by omega⟩
    simp only [laws_b10Has.l0]
    rw [if_neg (by omega), List.drop_of_length_le (by omega)]
    simp
  | succ d ih =>
    intro k i hi hk
    obtain ⟨k, rfl⟩ : ∃ m, k = m + 1 := ⟨k - 1, by omega⟩
    simp only [laws_b10Has.l0]
    rw [if_pos (by omega), if_pos (by omega), w64s i (by omega), ih k (i + 1) (by omega) (by omega), drop_at l i (by omega)]
    by_cases h : rd l i = n
    · rw [if_pos h]; simp [h]
    · rw [if_neg h]
      have h2 : ¬ n = rd l i := fun e => h e.symm
      simp [h2]
theorem b10Has_is (k : Nat) (l : List Int) (n : Int) (hb : l.length ≤ 9223372036854775806) (hk : l.length < k) : laws_b10Has.f k l n = some (decide (n ∈ l)) := by
  unfold laws_b10Has.f
  have := b10Has_loop l n hb l.length k 0 (by omega) hk
  simpa using this

end Go.Proofs.Ytajndapolblhmaa.P
/- A test at each of some numbers that follow one another. -/
namespace Go.Proofs.Ytajndapolblhmaa.P
open Go.RowKit Go.Proofs.Ytajndapolblhmaa.P Go.Proofs.YtajndapolblhmaaW.PrintWords Go.Proofs.YtajndapolblhmaaW.PrintLast Go.Proofs.YtajndapolblhmaaW.PrintMore
set_option linter.unusedVariables false
set_option linter.unusedSimpArgs false
def upTo (p : Nat → Bool) : Nat → Nat → Bool
  | 0, _ => true
  | d + 1, i => p i && upTo p d (i + 1)
theorem upTo_iff (p : Nat → Bool) : ∀ (d i : Nat), upTo p d i = true ↔ ∀ j, i ≤ j → j < i + d → p j = true := by
  intro d
  induction d with
  | zero => intro i; simp [upTo]; intro j h1 h2; omega
  | succ d ih =>
    intro i
    simp only [upTo, Bool.and_eq_true, ih]
    constructor
    · intro ⟨h0, h⟩ j h1 h2
      by_cases e : i = j
      · rw [← e]; exact h0
      · exact h j (by omega) (by omega)
    · intro h
      exact ⟨h i (Nat.le_refl _) (by omega), fun j h1 h2 => h j (by omega) (by omega)⟩

end Go.Proofs.Ytajndapolblhmaa.P
/- What is asked of a list of orders. -/
namespace Go.Proofs.Ytajndapolblhmaa.P
open Go.RowKit Go.Proofs.Ytajndapolblhmaa.P Go.Proofs.YtajndapolblhmaaW.PrintWords Go.Proofs.YtajndapolblhmaaW.PrintLast Go.Proofs.YtajndapolblhmaaW.PrintMore
set_option linter.unusedVariables false
set_option linter.unusedSimpArgs false
def orOk (l : List S119) (i : Nat) : Bool :=
  decide (0 ≤ (rd_T119 l i).f0 ∧ (rd_T119 l i).f0 ≤ 200) && decide (1 ≤ (rd_T119 l i).f1 ∧ (rd_T119 l i).f1 ≤ 200) && (decide (i = 0) || decide ((rd_T119 l ((i - 1 : Nat) : Int)).f0 < (rd_T119 l i).f0))
def orValid (l : List S119) : Bool := upTo (orOk l) l.length 0 && decide ((l.length : Int) ≤ 8)

end Go.Proofs.Ytajndapolblhmaa.P
/- Works, and how many pieces a mould has made ready, plainly. -/
namespace Go.Proofs.Ytajndapolblhmaa.P
open Go.RowKit Go.Proofs.Ytajndapolblhmaa.P Go.Proofs.YtajndapolblhmaaW.PrintWords Go.Proofs.YtajndapolblhmaaW.PrintLast Go.Proofs.YtajndapolblhmaaW.PrintMore
set_option linter.unusedVariables false
set_option linter.unusedSimpArgs false
def rhOk (b c : Int) : Bool := decide (1 ≤ b ∧ b ≤ 10) && decide (0 ≤ c ∧ c ≤ 40)
def wkOk (a b c : Int) : Bool := decide (1 ≤ a ∧ a ≤ 200) && rhOk b c
theorem rhOk_in {b c : Int} (h : rhOk b c = true) : (1 ≤ b ∧ b ≤ 10) ∧ (0 ≤ c ∧ c ≤ 40) := by
  unfold rhOk at h
  simpa only [Bool.and_eq_true, decide_eq_true_eq] using h
theorem wkOk_in {a b c : Int} (h : wkOk a b c = true) : (1 ≤ a ∧ a ≤ 200) ∧ rhOk b c = true := by
  unfold wkOk at h
  simpa only [Bool.and_eq_true, decide_eq_true_eq] using h
def castOf (b c d : Int) : Int := if d < c then 0 else (d - c) / b
theorem castOf_in {b c d : Int} (h : rhOk b c = true) (hd : -1000 ≤ d ∧ d ≤ 1000) : 0 ≤ castOf b c d ∧ castOf b c d ≤ 1000 := by
  obtain ⟨h1, h2⟩ := rhOk_in h
  unfold castOf
  split
  · omega
  · have : (d - c) / b ≤ d - c := Int.ediv_le_self _ (by omega)
    have := Int.ediv_nonneg (show 0 ≤ d - c by omega) (show 0 ≤ b by omega)
    omega
theorem mul200 {a x : Int} (ha : 1 ≤ a ∧ a ≤ 200) (hx : 0 ≤ x ∧ x ≤ 1000) : 0 ≤ a * x ∧ a * x ≤ 200000 := by
  constructor
  · exact Int.mul_nonneg (by omega) hx.1
  · calc a * x ≤ 200 * x := Int.mul_le_mul_of_nonneg_right ha.2 hx.1
      _ ≤ 200 * 1000 := by omega
      _ = 200000 := by decide

end Go.Proofs.Ytajndapolblhmaa.P
/- The short days of works, plainly. -/
namespace Go.Proofs.Ytajndapolblhmaa.P
open Go.RowKit Go.Proofs.Ytajndapolblhmaa.P Go.Proofs.YtajndapolblhmaaW.PrintWords Go.Proofs.YtajndapolblhmaaW.PrintLast Go.Proofs.YtajndapolblhmaaW.PrintMore
set_option linter.unusedVariables false
set_option linter.unusedSimpArgs false
def shortGo (m b c off : Int) : Int → List S119 → List Int
  | _, [] => []
  | w, o :: t => (if m * castOf b c (o.f0 - off) < w + o.f1 then [o.f0] else []) ++ shortGo m b c off (w + o.f1) t
def shortOf (m b c off : Int) (l : List S119) : List Int := shortGo m b c off 0 l
theorem shortGo_len (m b c off : Int) : ∀ (l : List S119) (w : Int), (shortGo m b c off w l).length ≤ l.length
  | [], _ => by simp [shortGo]
  | o :: t, w => by
    have := shortGo_len m b c off t (w + o.f1)
    simp only [shortGo, List.length_append, List.length_cons]
    split <;> simp <;> omega

end Go.Proofs.Ytajndapolblhmaa.P
/- The latest start of works, plainly. -/
namespace Go.Proofs.Ytajndapolblhmaa.P
open Go.RowKit Go.Proofs.Ytajndapolblhmaa.P Go.Proofs.YtajndapolblhmaaW.PrintWords Go.Proofs.YtajndapolblhmaaW.PrintLast Go.Proofs.YtajndapolblhmaaW.PrintMore
set_option linter.unusedVariables false
set_option linter.unusedSimpArgs false
def latGo (a b c : Int) (l : List S119) : Nat → Int × Bool
  | 0 => if (shortOf a b c 0 l).length = 0 then (0, true) else (0, false)
  | n + 1 => if (shortOf a b c ((n + 1 : Nat) : Int) l).length = 0 then (((n + 1 : Nat) : Int), true) else latGo a b c l n
def latOf (a b c : Int) (l : List S119) : Int × Bool := if wkOk a b c = true ∧ orValid l = true then latGo a b c l 200 else (0, false)

end Go.Proofs.Ytajndapolblhmaa.P
/- The fewest moulds, plainly. -/
namespace Go.Proofs.Ytajndapolblhmaa.P
open Go.RowKit Go.Proofs.Ytajndapolblhmaa.P Go.Proofs.YtajndapolblhmaaW.PrintWords Go.Proofs.YtajndapolblhmaaW.PrintLast Go.Proofs.YtajndapolblhmaaW.PrintMore
set_option linter.unusedVariables false
set_option linter.unusedSimpArgs false
def fmNeed (w n : Int) : Int := (w + n - 1) / n
def fmGo (b c : Int) : Int → Int → Int → List S119 → Int × Int × Bool
  | m, d, _, [] => if m > 200 then (0, 0, false) else (m, d, true)
  | m, d, w, o :: t => if castOf b c o.f0 = 0 then (0, 0, false) else if fmNeed (w + o.f1) (castOf b c o.f0) > m then fmGo b c (fmNeed (w + o.f1) (castOf b c o.f0)) o.f0 (w + o.f1) t else fmGo b c m d (w + o.f1) t
def fmOf (b c : Int) (l : List S119) : Int × Int × Bool := if rhOk b c = true ∧ orValid l = true ∧ ¬ l.length = 0 then fmGo b c 0 0 0 l else (0, 0, false)
theorem fmNeed_in (w n : Int) (hw : 0 ≤ w ∧ w ≤ 100000) (hn : 1 ≤ n ∧ n ≤ 1000) : 0 ≤ fmNeed w n ∧ fmNeed w n ≤ 200000 := by
  unfold fmNeed
  constructor
  · exact Int.ediv_nonneg (by omega) (by omega)
  · have : (w + n - 1) / n ≤ w + n - 1 := Int.ediv_le_self _ (by omega)
    omega

end Go.Proofs.Ytajndapolblhmaa.P
/- The stock on a day, plainly. -/
namespace Go.Proofs.Ytajndapolblhmaa.P
open Go.RowKit Go.Proofs.Ytajndapolblhmaa.P Go.Proofs.YtajndapolblhmaaW.PrintWords Go.Proofs.YtajndapolblhmaaW.PrintLast Go.Proofs.YtajndapolblhmaaW.PrintMore
set_option linter.unusedVariables false
set_option linter.unusedSimpArgs false
def stockGo (day : Int) : Int → List S119 → Int
  | s, [] => s
  | s, o :: t => stockGo day (if o.f0 ≤ day then wrap64 (s - o.f1) else s) t
def isShortBy (a b c : Int) (l : List S119) (day : Int) : Bool := match shortOf a b c 0 l with
  | [] => false
  | x :: _ => decide (x ≤ day)
def stockOf (a b c : Int) (l : List S119) (day : Int) : Int × Bool :=
  if wkOk a b c = true ∧ orValid l = true ∧ (0 ≤ day ∧ day ≤ 200) then (if isShortBy a b c l day = true then (0, false) else (stockGo day (a * castOf b c day) l, true)) else (0, false)

end Go.Proofs.Ytajndapolblhmaa.P
/- Fewest moulds are enough and needed; the latest start is the latest; the stock is never less than nothing. -/
namespace Go.Proofs.Ytajndapolblhmaa.P
open Go.RowKit Go.Proofs.Ytajndapolblhmaa.P Go.Proofs.YtajndapolblhmaaW.PrintWords Go.Proofs.YtajndapolblhmaaW.PrintLast Go.Proofs.YtajndapolblhmaaW.PrintMore
set_option linter.unusedVariables false
set_option linter.unusedSimpArgs false
theorem ceil_le (w n m : Int) (hn : 1 ≤ n) : fmNeed w n ≤ m ↔ w ≤ m * n := by
  unfold fmNeed
  constructor
  · intro h
    have h2 : (w + n - 1) / n < m + 1 := by omega
    have h3 := (Int.ediv_lt_iff_lt_mul (by omega)).1 h2
    rw [Int.add_mul] at h3
    omega
  · intro h
    have h3 : w + n - 1 < (m + 1) * n := by rw [Int.add_mul]; omega
    have := (Int.ediv_lt_iff_lt_mul (show 0 < n by omega)).2 h3
    omega
def fmMax (b c : Int) : Int → Int → Int → List S119 → Int × Int
  | m, d, _, [] => (m, d)
  | m, d, w, o :: t => if fmNeed (w + o.f1) (castOf b c o.f0) > m then fmMax b c (fmNeed (w + o.f1) (castOf b c o.f0)) o.f0 (w + o.f1) t else fmMax b c m d (w + o.f1) t
theorem fmGo_eq (b c : Int) : ∀ (l : List S119) (m d w : Int), (∀ o ∈ l, ¬ castOf b c o.f0 = 0) → fmGo b c m d w l = if (fmMax b c m d w l).1 > 200 then (0, 0, false) else ((fmMax b c m d w l).1, (fmMax b c m d w l).2, true)
  | [], m, d, w, _ => rfl
  | o :: t, m, d, w, h => by
    simp only [fmGo, fmMax]
    rw [if_neg (h o (by simp))]
    have ht : ∀ o ∈ t, ¬ castOf b c o.f0 = 0 := fun o ho => h o (by simp [ho])
    split
    · exact fmGo_eq b c t _ _ _ ht
    · exact fmGo_eq b c t _ _ _ ht
theorem fmMax_ge (b c : Int) : ∀ (l : List S119) (m d w : Int), m ≤ (fmMax b c m d w l).1
  | [], m, d, w => Int.le_refl _
  | o :: t, m, d, w => by
    simp only [fmMax]
    split
    · have := fmMax_ge b c t (fmNeed (w + o.f1) (castOf b c o.f0)) o.f0 (w + o.f1); omega
    · exact fmMax_ge b c t _ _ _
theorem fmMax_le (b c B : Int) : ∀ (l : List S119) (m d w : Int), (∀ o ∈ l, 1 ≤ castOf b c o.f0 ∧ castOf b c o.f0 ≤ 1000) → (∀ o ∈ l, 0 ≤ o.f1 ∧ o.f1 ≤ 12) → m ≤ B → w + 12 * l.length ≤ B → 0 ≤ w → (fmMax b c m d w l).1 ≤ B
  | [], m, d, w, _, _, hm, _, _ => hm
  | o :: t, m, d, w, h, hf, hm, hw, h0 => by
    have h1 := h o (by simp)
    have h2 := hf o (by simp)
    simp only [List.length_cons] at hw
    have hn : fmNeed (w + o.f1) (castOf b c o.f0) ≤ B := by
      rw [ceil_le _ _ _ h1.1]
      have : B ≤ B * castOf b c o.f0 := by
        have := Int.mul_le_mul_of_nonneg_left h1.1 (show 0 ≤ B by omega)
        omega
      omega
    simp only [fmMax]
    have ht := fun o ho => h o (List.mem_cons_of_mem _ ho)
    have hft := fun o ho => hf o (List.mem_cons_of_mem _ ho)
    split
    · exact fmMax_le b c B t _ _ _ ht hft hn (by omega) (by omega)
    · exact fmMax_le b c B t _ _ _ ht hft hm (by omega) (by omega)
theorem short_nil (b c : Int) (M : Int) : ∀ (l : List S119) (m d w : Int), (∀ o ∈ l, 1 ≤ castOf b c o.f0) → (fmMax b c m d w l).1 ≤ M → shortGo M b c 0 w l = []
  | [], _, _, _, _, _ => rfl
  | o :: t, m, d, w, h, hM => by
    have h1 := h o (by simp)
    have ht := fun o ho => h o (List.mem_cons_of_mem _ ho)
    simp only [fmMax] at hM
    simp only [shortGo, Int.sub_zero]
    have key : fmNeed (w + o.f1) (castOf b c o.f0) ≤ M ∧ shortGo M b c 0 (w + o.f1) t = [] := by
      by_cases hc : fmNeed (w + o.f1) (castOf b c o.f0) > m
      · rw [if_pos hc] at hM
        have := fmMax_ge b c t (fmNeed (w + o.f1) (castOf b c o.f0)) o.f0 (w + o.f1)
        exact ⟨by omega, short_nil b c M t _ _ _ ht hM⟩
      · rw [if_neg hc] at hM
        have := fmMax_ge b c t m d (w + o.f1)
        exact ⟨by omega, short_nil b c M t _ _ _ ht hM⟩
    have h2 := (ceil_le _ _ _ h1).1 key.1
    rw [if_neg (by omega), key.2]
    rfl
theorem short_mem (b c : Int) : ∀ (l : List S119) (m d w : Int), (∀ o ∈ l, 1 ≤ castOf b c o.f0) → m < (fmMax b c m d w l).1 → (fmMax b c m d w l).2 ∈ shortGo ((fmMax b c m d w l).1 - 1) b c 0 w l
  | [], _, _, _, _, h => by simp [fmMax] at h
  | o :: t, m, d, w, h, hM => by
    have h1 := h o (by simp)
    have ht := fun o ho => h o (List.mem_cons_of_mem _ ho)
    simp only [fmMax] at hM ⊢
    simp only [shortGo, Int.sub_zero, List.mem_append]
    by_cases hc : fmNeed (w + o.f1) (castOf b c o.f0) > m
    · rw [if_pos hc] at hM ⊢
      by_cases he : fmNeed (w + o.f1) (castOf b c o.f0) < (fmMax b c (fmNeed (w + o.f1) (castOf b c o.f0)) o.f0 (w + o.f1) t).1
      · exact .inr (short_mem b c t _ _ _ ht he)
      · left
        have hge := fmMax_ge b c t (fmNeed (w + o.f1) (castOf b c o.f0)) o.f0 (w + o.f1)
        have heq : (fmMax b c (fmNeed (w + o.f1) (castOf b c o.f0)) o.f0 (w + o.f1) t).1 = fmNeed (w + o.f1) (castOf b c o.f0) := by omega
        have hd : (fmMax b c (fmNeed (w + o.f1) (castOf b c o.f0)) o.f0 (w + o.f1) t).2 = o.f0 := fmMax_same b c t _ _ _ heq
        have hlt : (fmNeed (w + o.f1) (castOf b c o.f0) - 1) * castOf b c o.f0 < w + o.f1 := by
          have := mt (ceil_le (w + o.f1) (castOf b c o.f0) (fmNeed (w + o.f1) (castOf b c o.f0) - 1) h1).2 (by omega)
          omega
        rw [hd, heq, if_pos hlt]
        simp
    · rw [if_neg hc] at hM ⊢
      exact .inr (short_mem b c t _ _ _ ht hM)
where
  fmMax_same (b c : Int) : ∀ (l : List S119) (m d w : Int), (fmMax b c m d w l).1 = m → (fmMax b c m d w l).2 = d
    | [], _, _, _, _ => rfl
    | o :: t, m, d, w, h => by
      simp only [fmMax] at h ⊢
      by_cases hc : fmNeed (w + o.f1) (castOf b c o.f0) > m
      · rw [if_pos hc] at h
        have := fmMax_ge b c t (fmNeed (w + o.f1) (castOf b c o.f0)) o.f0 (w + o.f1)
        omega
      · rw [if_neg hc] at h ⊢
        exact fmMax_same b c t m d (w + o.f1) h
theorem castOf_shift (b c s d : Int) : castOf b (c + s) d = castOf b c (d - s) := by
  unfold castOf
  by_cases h : d < c + s
  · rw [if_pos h, if_pos (by omega)]
  · rw [if_neg h, if_neg (by omega), show d - (c + s) = d - s - c by omega]
theorem short_shift (m b c s : Int) : ∀ (l : List S119) (w : Int), shortGo m b (c + s) 0 w l = shortGo m b c s w l
  | [], _ => rfl
  | o :: t, w => by
    simp only [shortGo, Int.sub_zero]
    rw [castOf_shift, short_shift m b c s t]
theorem lat_facts (m b c : Int) (l : List S119) (h0 : shortOf m b c 0 l = []) : ∀ n : Nat, ∃ s : Nat, latGo m b c l n = ((s : Int), true) ∧ s ≤ n ∧ shortOf m b c (s : Int) l = [] ∧ (∀ t : Nat, s < t → t ≤ n → shortOf m b c (t : Int) l ≠ [])
  | 0 => by
    refine ⟨0, ?_, Nat.le_refl _, h0, fun t h1 h2 => by omega⟩
    simp only [latGo]
    rw [if_pos (by rw [h0]; rfl)]
    rfl
  | n + 1 => by
    simp only [latGo]
    by_cases h : (shortOf m b c ((n + 1 : Nat) : Int) l).length = 0
    · exact ⟨n + 1, by rw [if_pos h], Nat.le_refl _, List.eq_nil_of_length_eq_zero h, fun t h1 h2 => by omega⟩
    · obtain ⟨s, q1, q2, q3, q4⟩ := lat_facts m b c l h0 n
      refine ⟨s, by rw [if_neg h, q1], by omega, q3, fun t h1 h2 => ?_⟩
      by_cases e : t = n + 1
      · subst e; intro he; rw [he] at h; exact h rfl
      · exact q4 t h1 (by omega)
theorem castOf_mono (b c d e : Int) (hb : 1 ≤ b) (h : d ≤ e) : castOf b c d ≤ castOf b c e := by
  unfold castOf
  by_cases h1 : d < c
  · rw [if_pos h1]
    split
    · omega
    · exact Int.ediv_nonneg (by omega) (by omega)
  · rw [if_neg h1, if_neg (by omega)]
    exact Int.ediv_le_ediv (by omega) (by omega)
theorem stock_ok (m b c day : Int) (hm : 0 ≤ m) (hb : 1 ≤ b) (hS : m * castOf b c day ≤ 1000000000) : ∀ (l : List S119) (w x : Int), (∀ o ∈ l, 0 ≤ o.f1 ∧ o.f1 ≤ 12) → shortGo m b c 0 w l = [] → 0 ≤ x → x ≤ w → x ≤ m * castOf b c day → 0 ≤ stockGo day (m * castOf b c day - x) l
  | [], _, _, _, _, _, _, h => by simp only [stockGo]; omega
  | o :: t, w, x, hf, hs, h0, h1, h2 => by
    have hf1 := hf o (by simp)
    have hft := fun o ho => hf o (List.mem_cons_of_mem _ ho)
    simp only [shortGo, Int.sub_zero, List.append_eq_nil_iff] at hs
    have hle : w + o.f1 ≤ m * castOf b c o.f0 := by
      by_cases h : m * castOf b c o.f0 < w + o.f1
      · rw [if_pos h] at hs; simp at hs
      · omega
    simp only [stockGo]
    by_cases hd : o.f0 ≤ day
    · have hmon := Int.mul_le_mul_of_nonneg_left (castOf_mono b c o.f0 day hb hd) hm
      rw [if_pos hd, w64 _ (by omega) (by omega), show m * castOf b c day - x - o.f1 = m * castOf b c day - (x + o.f1) by omega]
      exact stock_ok m b c day hm hb hS t (w + o.f1) (x + o.f1) hft hs.2 (by omega) (by omega) (by omega)
    · rw [if_neg hd]
      exact stock_ok m b c day hm hb hS t (w + o.f1) x hft hs.2 h0 (by omega) h2

end Go.Proofs.Ytajndapolblhmaa.P
/- A number drawn from an input's bytes lies below its bound. -/
namespace Go.Proofs.Ytajndapolblhmaa.P
open Go.RowKit Go.Proofs.Ytajndapolblhmaa.P Go.Proofs.YtajndapolblhmaaW.PrintWords Go.Proofs.YtajndapolblhmaaW.PrintLast Go.Proofs.YtajndapolblhmaaW.PrintMore
set_option linter.unusedVariables false
set_option linter.unusedSimpArgs false
theorem u64_in (n : Int) : 0 ≤ IntKind.u64.wrap n ∧ IntKind.u64.wrap n < 18446744073709551616 := by
  simp only [IntKind.wrap, IntKind.bits, IntKind.signed]
  simp
  omega
theorem wraps_u64 (n : Int) (h₀ : 0 ≤ n) (h₁ : n < 2 ^ 64) : IntKind.u64.wrap n = n := by
  simp only [IntKind.wrap, IntKind.bits, IntKind.signed]
  simp
  omega
theorem u64_and255 (x : Int) (h₀ : 0 ≤ x) (h₁ : x < 18446744073709551616) : bits .and .u64 x 255 = x % 256 := bits_mask .u64 64 (by decide) wraps_u64 8 (by decide) x h₀ (by omega)
theorem low_in (n : Int) : 0 ≤ wrap64 (Go.bits .and .u64 (IntKind.u64.wrap n / 1099511627776) 255) ∧ wrap64 (Go.bits .and .u64 (IntKind.u64.wrap n / 1099511627776) 255) ≤ 255 := by
  have h := u64_in n
  have h2 : 0 ≤ IntKind.u64.wrap n / 1099511627776 ∧ IntKind.u64.wrap n / 1099511627776 < 18446744073709551616 := by omega
  rw [u64_and255 _ h2.1 h2.2, w64 _ (by omega) (by omega)]
  omega
theorem next_in (l : List Int) (hl : ∀ x ∈ l, (Lit.int .u8 x).wf = true) (s e : Int) (hs : 0 ≤ s ∧ s ≤ 1000000000000) : ∃ r e', spec_l00Src_next.f l s e = some (r, s + 1, e') ∧ 0 ≤ r ∧ r ≤ 255 := by
  unfold spec_l00Src_next.f
  rw [w64 (s + 1) (by omega) (by omega)]
  by_cases h1 : s < (l.length : Int)
  · obtain ⟨j, rfl⟩ : ∃ j : Nat, s = j := ⟨s.toNat, by omega⟩
    have hr := wfu8 (hl _ (List.getElem_mem (show j < l.length by omega)))
    rw [if_pos h1, if_pos (by omega), if_pos (by omega), rd_at l j (by omega), w64 _ (by omega) (by omega)]
    exact ⟨_, _, rfl, hr.1, hr.2⟩
  · rw [if_neg h1]
    by_cases h2 : s + 1 ≤ (l.length : Int)
    · omega
    · rw [if_neg h2]
      exact ⟨_, _, rfl, (low_in _).1, (low_in _).2⟩
theorem pick_in (l : List Int) (hl : ∀ x ∈ l, (Lit.int .u8 x).wf = true) (s e n : Int) (hs : 0 ≤ s ∧ s ≤ 900000000000) (hn : 1 ≤ n ∧ n ≤ 1000000) : ∃ r s' e', spec_l00Src_pick.f l s e n = some (r, s', e') ∧ (0 ≤ r ∧ r < n) ∧ (s ≤ s' ∧ s' ≤ s + 2) := by
  unfold spec_l00Src_pick.f
  by_cases h1 : n ≤ 1
  · rw [if_pos h1]
    exact ⟨_, _, _, rfl, by omega, by omega⟩
  · rw [if_neg h1]
    obtain ⟨r, e1, h, r1, r2⟩ := next_in l hl s e (by omega)
    rw [h, bind_some_]
    by_cases h2 : n > 200
    · obtain ⟨q, e2, h', q1, q2⟩ := next_in l hl (s + 1) e1 (by omega)
      rw [if_pos h2, h', bind_some_, if_neg (by omega), w64 (r * 256) (by omega) (by omega), w64 (r * 256 + q) (by omega) (by omega)]
      exact ⟨_, _, _, rfl, ⟨Int.tmod_nonneg _ (by omega), Int.tmod_lt_of_pos _ (by omega)⟩, by dsimp only; omega⟩
    · rw [if_neg h2, if_neg (by omega)]
      exact ⟨_, _, _, rfl, ⟨Int.tmod_nonneg _ r1, Int.tmod_lt_of_pos _ (by omega)⟩, by dsimp only; omega⟩

end Go.Proofs.Ytajndapolblhmaa.P
/- What a law draws is a valid list of orders, and a rhythm. -/
namespace Go.Proofs.Ytajndapolblhmaa.P
open Go.RowKit Go.Proofs.Ytajndapolblhmaa.P Go.Proofs.YtajndapolblhmaaW.PrintWords Go.Proofs.YtajndapolblhmaaW.PrintLast Go.Proofs.YtajndapolblhmaaW.PrintMore
set_option linter.unusedVariables false
set_option linter.unusedSimpArgs false
def orFine (o : S119) : Prop := (14 ≤ o.f0 ∧ o.f0 ≤ 100) ∧ (1 ≤ o.f1 ∧ o.f1 ≤ 12)
def orRise (l : List S119) (top : Int) : Prop := (∀ i, i < l.length → orFine (rd_T119 l i) ∧ (rd_T119 l i).f0 < top) ∧ (∀ i, i + 1 < l.length → (rd_T119 l i).f0 < (rd_T119 l (i + 1 : Nat)).f0)
theorem rdOrder_app (l : List S119) (g : S119) (i : Nat) : rd_T119 (l ++ [g]) i = if i < l.length then rd_T119 l i else if i = l.length then g else z119 := by
  unfold rd_T119
  rw [Int.toNat_natCast, List.getD_eq_getElem?_getD, List.getD_eq_getElem?_getD]
  by_cases h : i < l.length
  · rw [if_pos h, List.getElem?_append_left h]
  · rw [if_neg h, List.getElem?_append_right (by omega)]
    by_cases h2 : i = l.length
    · rw [if_pos h2]; subst h2; simp
    · rw [if_neg h2]
      obtain ⟨m, hm⟩ : ∃ m, i - l.length = m + 1 := ⟨i - l.length - 1, by omega⟩
      rw [hm]; rfl
theorem orRise_app (l : List S119) (g : S119) (top t2 : Int) (h : orRise l top) (hg : orFine g) (h1 : top ≤ g.f0) (h2 : g.f0 < t2) : orRise (l ++ [g]) t2 := by
  obtain ⟨a, b⟩ := h
  constructor
  · intro i hi
    rw [rdOrder_app]
    by_cases e : i < l.length
    · rw [if_pos e]; have := a i e; exact ⟨this.1, by omega⟩
    · rw [if_neg e, if_pos (by simp at hi; omega)]; exact ⟨hg, h2⟩
  · intro i hi
    rw [rdOrder_app, rdOrder_app, if_pos (by simp at hi; omega)]
    by_cases e : i + 1 < l.length
    · rw [if_pos e]; exact b i e
    · rw [if_neg e, if_pos (by simp at hi; omega)]; have := a i (by simp at hi; omega); omega
theorem orRise_valid (l : List S119) (top : Int) (h : orRise l top) (hl : l.length ≤ 8) : orValid l = true := by
  obtain ⟨a, b⟩ := h
  unfold orValid
  rw [Bool.and_eq_true]
  refine ⟨(upTo_iff _ _ _).2 (fun j _ hj => ?_), by simp; omega⟩
  obtain ⟨⟨f0, f1⟩, _⟩ := a j (by omega)
  unfold orOk
  simp only [Bool.and_eq_true, Bool.or_eq_true, decide_eq_true_eq]
  refine ⟨⟨by omega, by omega⟩, ?_⟩
  by_cases e : j = 0
  · exact .inl e
  · right
    obtain ⟨i, rfl⟩ : ∃ i, j = i + 1 := ⟨j - 1, by omega⟩
    exact b i (by omega)
theorem drawOrders_loop (c : List Int) (hc : ∀ x ∈ c, (Lit.int .u8 x).wf = true) : ∀ (d k : Nat) (l : List S119) (due s e : Int), d < k → l.length + d ≤ 5 → orRise l due → (14 ≤ due ∧ due ≤ 33 + 12 * (l.length : Int)) → (0 ≤ s ∧ s ≤ 1000 + 8 * (l.length : Int)) →
    ∃ r cy cu, spec_B10Orders.l0 k l due d c s e = some (r, cy, cu) ∧ orValid r = true ∧ r.length = l.length + d ∧ (∀ i, i < r.length → orFine (rd_T119 r i)) ∧ (1 ≤ cy ∧ cy ≤ 4) ∧ (0 ≤ cu ∧ cu ≤ 8) := by
  intro d
  induction d with
  | zero =>
    intro k l due s e hk hl hr hd hs
    obtain ⟨k, rfl⟩ : ∃ m, k = m + 1 := ⟨k - 1, by omega⟩
    simp only [spec_B10Orders.l0]
    obtain ⟨a, s1, e1, h1, a1, b1⟩ := pick_in c hc s e 4 (by omega) (by omega)
    obtain ⟨b, s2, e2, h2, a2, b2⟩ := pick_in c hc s1 e1 9 (by omega) (by omega)
    rw [if_neg (by omega), h1]
    simp only [bind_some_, h2]
    rw [w64 (1 + a) (by omega) (by omega)]
    exact ⟨l, 1 + a, b, rfl, orRise_valid l due hr (by omega), rfl, fun i hi => (hr.1 i hi).1, by omega, by omega⟩
  | succ d ih =>
    intro k l due s e hk hl hr hd hs
    obtain ⟨k, rfl⟩ : ∃ m, k = m + 1 := ⟨k - 1, by omega⟩
    simp only [spec_B10Orders.l0]
    obtain ⟨a, s1, e1, h1, a1, b1⟩ := pick_in c hc s e 12 (by omega) (by omega)
    obtain ⟨b, s2, e2, h2, a2, b2⟩ := pick_in c hc s1 e1 12 (by omega) (by omega)
    rw [if_pos (by omega), h1]
    simp only [bind_some_, h2]
    rw [if_pos (by omega), w64 (1 + a) (by omega) (by omega), w64 (1 + b) (by omega) (by omega), w64 (due + (1 + b)) (by omega) (by omega), w64 (((d + 1 : Nat) : Int) - 1) (by omega) (by omega), show ((d + 1 : Nat) : Int) - 1 = (d : Int) by omega]
    obtain ⟨r, cy, cu, q1, q2, q3, q4⟩ := ih k (l ++ [⟨due, 1 + a⟩]) (due + (1 + b)) s2 e2 (by omega) (by simp; omega) (orRise_app l _ due _ hr ⟨by simp only; omega, by simp only; omega⟩ (by simp only; omega) (by simp only; omega)) (by simp; omega) (by simp; omega)
    exact ⟨r, cy, cu, q1, q2, by rw [q3]; simp; omega, q4⟩
theorem drawOrders_is (c : List Int) (hc : ∀ x ∈ c, (Lit.int .u8 x).wf = true) (k : Nat) (hk : 10 ≤ k) : ∃ r cy cu, spec_B10Orders.f k c = some (r, cy, cu) ∧ orValid r = true ∧ (1 ≤ r.length ∧ r.length ≤ 5) ∧ (∀ i, i < r.length → orFine (rd_T119 r i)) ∧ (1 ≤ cy ∧ cy ≤ 4) ∧ (0 ≤ cu ∧ cu ≤ 8) := by
  unfold spec_B10Orders.f spec_l00From.f
  obtain ⟨a, s1, e1, h1, a1, b1⟩ := pick_in c hc 0 0 20 (by omega) (by omega)
  obtain ⟨b, s2, e2, h2, a2, b2⟩ := pick_in c hc s1 e1 5 (by omega) (by omega)
  simp only [bind_some_, h1, h2]
  obtain ⟨n, hn⟩ : ∃ n : Nat, 1 + b = n := ⟨(1 + b).toNat, by omega⟩
  rw [w64 (1 + b) (by omega) (by omega), w64 (14 + a) (by omega) (by omega), hn]
  obtain ⟨r, cy, cu, q1, q2, q3, q4⟩ := drawOrders_loop c hc n k [] (14 + a) s2 e2 (by omega) (by simp; omega) ⟨fun i hi => by simp at hi, fun i hi => by simp at hi⟩ (by simp; omega) (by simp; omega)
  exact ⟨r, cy, cu, q1, q2, by rw [q3]; simp; omega, q4⟩

end Go.Proofs.Ytajndapolblhmaa.P
/- A number lies in a range, as the program asks it. -/
namespace Go.Proofs.Ytajndapolblhmaa.P
open Go.RowKit Go.Proofs.Ytajndapolblhmaa.P Go.Proofs.YtajndapolblhmaaW.PrintWords Go.Proofs.YtajndapolblhmaaW.PrintLast Go.Proofs.YtajndapolblhmaaW.PrintMore
set_option linter.unusedVariables false
set_option linter.unusedSimpArgs false
theorem within_is (a b c : Int) : impl_within.f a b c = some (decide (b ≤ a ∧ a ≤ c)) := by
  unfold impl_within.f
  by_cases h : b ≤ a <;> simp [h]

end Go.Proofs.Ytajndapolblhmaa.P
/- What the program asks of a list of orders. -/
namespace Go.Proofs.Ytajndapolblhmaa.P
open Go.RowKit Go.Proofs.Ytajndapolblhmaa.P Go.Proofs.YtajndapolblhmaaW.PrintWords Go.Proofs.YtajndapolblhmaaW.PrintLast Go.Proofs.YtajndapolblhmaaW.PrintMore
set_option linter.unusedVariables false
set_option linter.unusedSimpArgs false
theorem implOrders_loop (l : List S119) (hb : l.length ≤ 9223372036854775806) : ∀ (d k i : Nat), i + d = l.length → d < k → impl_ValidOrders.l0 k l l l.length i = some (upTo (orOk l) d i && decide ((l.length : Int) ≤ 8)) := by
  intro d
  induction d with
  | zero =>
    intro k i hi hk
    obtain ⟨k, rfl⟩ : ∃ m, k = m + 1 := ⟨k - 1, by omega⟩
    simp only [impl_ValidOrders.l0]
    rw [if_neg (by omega)]
    simp [upTo]
  | succ d ih =>
    intro k i hi hk
    obtain ⟨k, rfl⟩ : ∃ m, k = m + 1 := ⟨k - 1, by omega⟩
    have hr := ih k (i + 1) (by omega) (by omega)
    rw [← w64s i (by omega)] at hr
    simp only [impl_ValidOrders.l0, within_is, bind_some_, hr]
    rw [if_pos (by omega), if_pos (by omega), if_pos (by omega)]
    simp only [upTo, orOk]
    rcases i with _ | i
    · rw [if_neg (show ¬ (((0 : Nat) : Int) > 0) by omega)]
      simp only [ite_tt]
      simp [Bool.and_assoc]
    · have e : wrap64 (((i + 1 : Nat) : Int) - 1) = (i : Int) := by rw [w64 _ (by omega) (by omega)]; omega
      rw [if_pos (show ((i + 1 : Nat) : Int) > 0 by omega), e, if_pos (show 0 ≤ (i : Int) by omega), if_pos (show (i : Int) < (l.length : Int) by omega), show ((i + 1 - 1 : Nat) : Int) = (i : Int) by omega]
      simp only [ite_tt, ite_ff, not_ge_dec]
      simp [Bool.and_assoc]
theorem implOrders_is (k : Nat) (l : List S119) (hb : l.length ≤ 9223372036854775806) (hk : l.length < k) : impl_ValidOrders.f k l = some (orValid l) := by
  unfold impl_ValidOrders.f orValid
  exact implOrders_loop l hb l.length k 0 (by omega) hk

end Go.Proofs.Ytajndapolblhmaa.P
/- The program's rhythm and casts are the plain ones. -/
namespace Go.Proofs.Ytajndapolblhmaa.P
open Go.RowKit Go.Proofs.Ytajndapolblhmaa.P Go.Proofs.YtajndapolblhmaaW.PrintWords Go.Proofs.YtajndapolblhmaaW.PrintLast Go.Proofs.YtajndapolblhmaaW.PrintMore
set_option linter.unusedVariables false
set_option linter.unusedSimpArgs false
theorem implRhythm_is (b c : Int) : impl_isRhythm.f b c = some (rhOk b c) := by
  unfold impl_isRhythm.f rhOk
  simp only [within_is, bind_some_, ite_tt]
theorem implCasts_is (b c d : Int) (h : rhOk b c = true) (hd : -1000 ≤ d ∧ d ≤ 1000) : impl_casts.f b c d = some (castOf b c d) := by
  obtain ⟨h1, h2⟩ := rhOk_in h
  have hc := castOf_in h hd
  unfold impl_casts.f mx
  unfold castOf at hc ⊢
  rw [w64 (d - c) (by omega) (by omega), if_neg (show ¬ b = 0 by omega)]
  by_cases h5 : d < c
  · rw [if_pos (show d - c < 0 by omega), if_pos h5, Int.zero_ediv, w64 0 (by omega) (by omega)]
  · rw [if_neg h5] at hc
    rw [if_neg (show ¬ d - c < 0 by omega), if_neg h5, w64 _ (by omega) (by omega)]

end Go.Proofs.Ytajndapolblhmaa.P
/- How many pieces are ready, as the program reckons it. -/
namespace Go.Proofs.Ytajndapolblhmaa.P
open Go.RowKit Go.Proofs.Ytajndapolblhmaa.P Go.Proofs.YtajndapolblhmaaW.PrintWords Go.Proofs.YtajndapolblhmaaW.PrintLast Go.Proofs.YtajndapolblhmaaW.PrintMore
set_option linter.unusedVariables false
set_option linter.unusedSimpArgs false
theorem implReady_is (a b c d : Int) (h : wkOk a b c = true) (hd : -1000 ≤ d ∧ d ≤ 1000) : impl_Works_ready.f a b c d = some (a * castOf b c d) := by
  obtain ⟨h1, h2⟩ := wkOk_in h
  have hc := castOf_in h2 hd
  have hm := mul200 h1 hc
  unfold impl_Works_ready.f
  rw [implCasts_is b c d h2 hd, bind_some_, w64 _ (by omega) (by omega)]

end Go.Proofs.Ytajndapolblhmaa.P
/- What follows from a list of orders being valid. -/
namespace Go.Proofs.Ytajndapolblhmaa.P
open Go.RowKit Go.Proofs.Ytajndapolblhmaa.P Go.Proofs.YtajndapolblhmaaW.PrintWords Go.Proofs.YtajndapolblhmaaW.PrintLast Go.Proofs.YtajndapolblhmaaW.PrintMore
set_option linter.unusedVariables false
set_option linter.unusedSimpArgs false
theorem orValid_len {l : List S119} (h : orValid l = true) : l.length ≤ 8 := by
  unfold orValid at h
  simp only [Bool.and_eq_true, decide_eq_true_eq] at h
  omega
theorem orValid_at {l : List S119} (h : orValid l = true) (i : Nat) (hi : i < l.length) : (0 ≤ (rd_T119 l i).f0 ∧ (rd_T119 l i).f0 ≤ 200) ∧ (1 ≤ (rd_T119 l i).f1 ∧ (rd_T119 l i).f1 ≤ 200) := by
  unfold orValid at h
  simp only [Bool.and_eq_true] at h
  have := (upTo_iff _ _ _).1 h.1 i (by omega) (by omega)
  unfold orOk at this
  simp only [Bool.and_eq_true, decide_eq_true_eq] at this
  exact this.1
theorem orValid_inc {l : List S119} (h : orValid l = true) (i : Nat) (hi : i + 1 < l.length) : (rd_T119 l i).f0 < (rd_T119 l (i + 1 : Nat)).f0 := by
  unfold orValid at h
  simp only [Bool.and_eq_true] at h
  have := (upTo_iff _ _ _).1 h.1 (i + 1) (by omega) (by omega)
  unfold orOk at this
  simp only [Bool.and_eq_true, Bool.or_eq_true, decide_eq_true_eq] at this
  have h2 := this.2
  rw [show ((i + 1 - 1 : Nat) : Int) = (i : Int) by omega] at h2
  omega

end Go.Proofs.Ytajndapolblhmaa.P
/- An element of a list of structs, read at an index. -/
namespace Go.Proofs.Ytajndapolblhmaa.P
open Go.RowKit Go.Proofs.Ytajndapolblhmaa.P Go.Proofs.YtajndapolblhmaaW.PrintWords Go.Proofs.YtajndapolblhmaaW.PrintLast Go.Proofs.YtajndapolblhmaaW.PrintMore
set_option linter.unusedVariables false
set_option linter.unusedSimpArgs false
theorem rdOrder_at (l : List S119) (i : Nat) (h : i < l.length) : rd_T119 l (i : Int) = l[i] := by
  unfold rd_T119
  rw [Int.toNat_natCast, List.getD_eq_getElem?_getD, List.getElem?_eq_getElem h]
  rfl
theorem dropOrder_at (l : List S119) (i : Nat) (h : i < l.length) : l.drop i = rd_T119 l (i : Int) :: l.drop (i + 1) := by
  rw [rdOrder_at l i h, List.drop_eq_getElem_cons h]

end Go.Proofs.Ytajndapolblhmaa.P
/- The program's short days are the plain ones. -/
namespace Go.Proofs.Ytajndapolblhmaa.P
open Go.RowKit Go.Proofs.Ytajndapolblhmaa.P Go.Proofs.YtajndapolblhmaaW.PrintWords Go.Proofs.YtajndapolblhmaaW.PrintLast Go.Proofs.YtajndapolblhmaaW.PrintMore
set_option linter.unusedVariables false
set_option linter.unusedSimpArgs false
theorem implShort_loop (a b c off : Int) (l : List S119) (hw : wkOk a b c = true) (hl : orValid l = true) (ho : 0 ≤ off ∧ off ≤ 200) : ∀ (d k i : Nat) (acc : List Int) (w : Int), i + d = l.length → d < k → acc.length ≤ i → 0 ≤ w → w ≤ 200 * i →
    impl_Works_short.l0 k off acc w l l.length i a b c = some (acc ++ shortGo a b c off w (l.drop i)) := by
  have h8 := orValid_len hl
  obtain ⟨w1, w2⟩ := wkOk_in hw
  intro d
  induction d with
  | zero =>
    intro k i acc w hi hk ha h0 h1
    obtain ⟨k, rfl⟩ : ∃ m, k = m + 1 := ⟨k - 1, by omega⟩
    simp only [impl_Works_short.l0]
    rw [if_neg (by omega), List.drop_of_length_le (by omega)]
    simp [shortGo]
  | succ d ih =>
    intro k i acc w hi hk ha h0 h1
    obtain ⟨k, rfl⟩ : ∃ m, k = m + 1 := ⟨k - 1, by omega⟩
    obtain ⟨o1, o2⟩ := orValid_at hl i (by omega)
    rw [dropOrder_at l i (by omega)]
    simp only [impl_Works_short.l0, shortGo]
    have hc := castOf_in w2 (show -1000 ≤ (rd_T119 l i).f0 - off ∧ (rd_T119 l i).f0 - off ≤ 1000 by omega)
    have hm := mul200 w1 hc
    rw [if_pos (by omega), if_pos (by omega), if_pos (by omega), w64 ((rd_T119 l i).f0 - off) (by omega) (by omega), implReady_is a b c _ hw (by omega), bind_some_, w64 (w + _) (by omega) (by omega), w64s i (by omega)]
    by_cases hs : a * castOf b c ((rd_T119 l i).f0 - off) < w + (rd_T119 l i).f1
    · rw [if_pos hs, if_pos hs, if_pos (by omega), ih k (i + 1) _ _ (by omega) (by omega) (by simp; omega) (by omega) (by omega)]
      simp
    · rw [if_neg hs, if_neg hs, ih k (i + 1) _ _ (by omega) (by omega) (by omega) (by omega) (by omega)]
      simp
theorem implShort_is (k : Nat) (a b c off : Int) (l : List S119) (hw : wkOk a b c = true) (hl : orValid l = true) (ho : 0 ≤ off ∧ off ≤ 200) (hk : l.length < k) : impl_Works_short.f k a b c l off = some (shortOf a b c off l) := by
  unfold impl_Works_short.f shortOf
  have := implShort_loop a b c off l hw hl ho l.length k 0 [] 0 (by omega) hk (by simp) (by omega) (by omega)
  simpa using this

end Go.Proofs.Ytajndapolblhmaa.P
/- What the program asks of works. -/
namespace Go.Proofs.Ytajndapolblhmaa.P
open Go.RowKit Go.Proofs.Ytajndapolblhmaa.P Go.Proofs.YtajndapolblhmaaW.PrintWords Go.Proofs.YtajndapolblhmaaW.PrintLast Go.Proofs.YtajndapolblhmaaW.PrintMore
set_option linter.unusedVariables false
set_option linter.unusedSimpArgs false
theorem implWorks_is (a b c : Int) : impl_ValidWorks.f a b c = some (wkOk a b c) := by
  unfold impl_ValidWorks.f wkOk
  simp only [implRhythm_is, within_is, bind_some_, ite_tt]

end Go.Proofs.Ytajndapolblhmaa.P
/- The program's latest start is the plain one. -/
namespace Go.Proofs.Ytajndapolblhmaa.P
open Go.RowKit Go.Proofs.Ytajndapolblhmaa.P Go.Proofs.YtajndapolblhmaaW.PrintWords Go.Proofs.YtajndapolblhmaaW.PrintLast Go.Proofs.YtajndapolblhmaaW.PrintMore
set_option linter.unusedVariables false
set_option linter.unusedSimpArgs false
theorem implLatest_loop (a b c : Int) (l : List S119) (hw : wkOk a b c = true) (hl : orValid l = true) : ∀ (n k : Nat), n ≤ 200 → n + 1 + l.length < k → impl_LatestStart.l0 k l n a b c = some (latGo a b c l n) := by
  intro n
  induction n with
  | zero =>
    intro k hn hk
    obtain ⟨k, rfl⟩ : ∃ m, k = m + 1 := ⟨k - 1, by omega⟩
    simp only [impl_LatestStart.l0, latGo]
    rw [if_pos (by omega), show ((0 : Nat) : Int) = 0 by rfl, implShort_is k a b c 0 l hw hl (by omega) (by omega), bind_some_]
    by_cases h : (shortOf a b c 0 l).length = 0
    · rw [if_pos (by omega), if_pos h]
    · rw [if_neg (by omega), if_neg h, w64 _ (by omega) (by omega)]
      obtain ⟨k, rfl⟩ : ∃ m, k = m + 1 := ⟨k - 1, by omega⟩
      simp only [impl_LatestStart.l0]
      rw [if_neg (by omega)]
  | succ n ih =>
    intro k hn hk
    obtain ⟨k, rfl⟩ : ∃ m, k = m + 1 := ⟨k - 1, by omega⟩
    simp only [impl_LatestStart.l0, latGo]
    rw [if_pos (by omega), implShort_is k a b c _ l hw hl (by omega) (by omega), bind_some_]
    by_cases h : (shortOf a b c ((n + 1 : Nat) : Int) l).length = 0
    · rw [if_pos (by omega), if_pos h]
    · rw [if_neg (by omega), if_neg h, w64 _ (by omega) (by omega), show ((n + 1 : Nat) : Int) - 1 = (n : Int) by omega]
      exact ih k (by omega) (by omega)
theorem implLatest_is (k : Nat) (a b c : Int) (l : List S119) (hb : l.length ≤ 9223372036854775806) (hk : 300 + l.length < k) : impl_LatestStart.f k a b c l = some (latOf a b c l) := by
  obtain ⟨k, rfl⟩ : ∃ m, k = m + 1 := ⟨k - 1, by omega⟩
  unfold impl_LatestStart.f latOf
  rw [implWorks_is, bind_some_, implOrders_is _ l hb (by omega), bind_some_]
  simp only [impl_LatestStart.j0]
  by_cases h1 : wkOk a b c = true
  · by_cases h2 : orValid l = true
    · have := implLatest_loop a b c l h1 h2 200 k (by omega) (by omega)
      rw [show ((200 : Nat) : Int) = 200 by rfl] at this
      simp [h1, h2, this]
    · simp [h1, h2]
  · simp [h1]

end Go.Proofs.Ytajndapolblhmaa.P
/- The program's fewest moulds are the plain ones. -/
namespace Go.Proofs.Ytajndapolblhmaa.P
open Go.RowKit Go.Proofs.Ytajndapolblhmaa.P Go.Proofs.YtajndapolblhmaaW.PrintWords Go.Proofs.YtajndapolblhmaaW.PrintLast Go.Proofs.YtajndapolblhmaaW.PrintMore
set_option linter.unusedVariables false
set_option linter.unusedSimpArgs false
theorem implMoulds_loop (b c : Int) (l : List S119) (hr : rhOk b c = true) (hl : orValid l = true) : ∀ (d k i : Nat) (m du w : Int), i + d = l.length → d < k → 0 ≤ w → w ≤ 200 * i → impl_FewestMoulds.l0 k b c m du w l l.length i = some (fmGo b c m du w (l.drop i)) := by
  have h8 := orValid_len hl
  intro d
  induction d with
  | zero =>
    intro k i m du w hi hk h0 h1
    obtain ⟨k, rfl⟩ : ∃ m, k = m + 1 := ⟨k - 1, by omega⟩
    simp only [impl_FewestMoulds.l0]
    rw [if_neg (by omega), List.drop_of_length_le (by omega)]
    simp only [fmGo]
    split <;> rfl
  | succ d ih =>
    intro k i m du w hi hk h0 h1
    obtain ⟨k, rfl⟩ : ∃ m, k = m + 1 := ⟨k - 1, by omega⟩
    obtain ⟨o1, o2⟩ := orValid_at hl i (by omega)
    rw [dropOrder_at l i (by omega)]
    simp only [impl_FewestMoulds.l0, fmGo]
    have hc := castOf_in hr (show -1000 ≤ (rd_T119 l i).f0 ∧ (rd_T119 l i).f0 ≤ 1000 by omega)
    rw [if_pos (by omega), if_pos (by omega), if_pos (by omega), implCasts_is b c _ hr (by omega), bind_some_]
    by_cases hz : castOf b c (rd_T119 l i).f0 = 0
    · rw [if_pos hz, if_pos hz]
    · have hn := fmNeed_in (w + (rd_T119 l i).f1) (castOf b c (rd_T119 l i).f0) (by omega) (by omega)
      have e : wrap64 (Int.tdiv (wrap64 (wrap64 (wrap64 (w + (rd_T119 l i).f1) + castOf b c (rd_T119 l i).f0) - 1)) (castOf b c (rd_T119 l i).f0)) = fmNeed (w + (rd_T119 l i).f1) (castOf b c (rd_T119 l i).f0) := by
        unfold fmNeed at hn ⊢
        rw [w64 (w + _) (by omega) (by omega), w64 (w + _ + _) (by omega) (by omega), w64 (w + _ + _ - 1) (by omega) (by omega), Int.tdiv_eq_ediv_of_nonneg (by omega), w64 _ (by omega) (by omega)]
      rw [if_neg hz, if_neg hz, e, w64 (w + _) (by omega) (by omega), w64s i (by omega), ih k (i + 1) _ _ _ (by omega) (by omega) (by omega) (by omega), ih k (i + 1) _ _ _ (by omega) (by omega) (by omega) (by omega)]
      split <;> rfl
theorem implMoulds_is (k : Nat) (b c : Int) (l : List S119) (hb : l.length ≤ 9223372036854775806) (hk : 1 + l.length < k) : impl_FewestMoulds.f k b c l = some (fmOf b c l) := by
  obtain ⟨k, rfl⟩ : ∃ m, k = m + 1 := ⟨k - 1, by omega⟩
  unfold impl_FewestMoulds.f fmOf
  rw [implRhythm_is, bind_some_, implOrders_is _ l hb (by omega), bind_some_]
  simp only [impl_FewestMoulds.j0]
  by_cases h1 : rhOk b c = true
  · by_cases h2 : orValid l = true
    · have := implMoulds_loop b c l h1 h2 l.length k 0 0 0 0 (by omega) (by omega) (by omega) (by omega)
      rw [show ((0 : Nat) : Int) = 0 by rfl, List.drop_zero] at this
      by_cases h3 : l.length = 0
      · simp [h1, h2, h3]
      · rw [if_pos h1, if_pos h2, if_pos (show rhOk b c = true ∧ orValid l = true ∧ ¬ l.length = 0 from ⟨h1, h2, h3⟩), if_neg (by simp; intro h; exact h3 (by rw [h]; rfl)), this]
    · simp [h1, h2]
  · simp [h1]

end Go.Proofs.Ytajndapolblhmaa.P
/- The program's short days, plainly. -/
namespace Go.Proofs.Ytajndapolblhmaa.P
open Go.RowKit Go.Proofs.Ytajndapolblhmaa.P Go.Proofs.YtajndapolblhmaaW.PrintWords Go.Proofs.YtajndapolblhmaaW.PrintLast Go.Proofs.YtajndapolblhmaaW.PrintMore
set_option linter.unusedVariables false
set_option linter.unusedSimpArgs false
theorem implShortDays_is (k : Nat) (a b c : Int) (l : List S119) (hb : l.length ≤ 9223372036854775806) (hk : l.length < k) : impl_ShortDays.f k a b c l = some (if wkOk a b c = true ∧ orValid l = true then (shortOf a b c 0 l, true) else ([], false)) := by
  unfold impl_ShortDays.f
  rw [implWorks_is, bind_some_, implOrders_is _ l hb hk, bind_some_]
  by_cases h1 : wkOk a b c = true
  · by_cases h2 : orValid l = true
    · rw [if_pos h1, if_pos h2, implShort_is k a b c 0 l h1 h2 (by omega) hk, bind_some_, if_pos ⟨h1, h2⟩]
    · simp [h1, h2]
  · simp [h1]

end Go.Proofs.Ytajndapolblhmaa.P
/- The program's stock is the plain one. -/
namespace Go.Proofs.Ytajndapolblhmaa.P
open Go.RowKit Go.Proofs.Ytajndapolblhmaa.P Go.Proofs.YtajndapolblhmaaW.PrintWords Go.Proofs.YtajndapolblhmaaW.PrintLast Go.Proofs.YtajndapolblhmaaW.PrintMore
set_option linter.unusedVariables false
set_option linter.unusedSimpArgs false
theorem implStock_loop (a b c : Int) (l : List S119) (day : Int) (hw : wkOk a b c = true) (hl : orValid l = true) : ∀ (d k i : Nat) (s : Int), i + d = l.length → d + 1 + l.length < k →
    impl_StockOn.l0 k l day s l l.length i a b c = some (if isShortBy a b c l day = true then (0, false) else (stockGo day s (l.drop i), true)) := by
  have h8 := orValid_len hl
  intro d
  induction d with
  | zero =>
    intro k i s hi hk
    obtain ⟨k, rfl⟩ : ∃ m, k = m + 1 := ⟨k - 1, by omega⟩
    simp only [impl_StockOn.l0]
    rw [if_neg (by omega), List.drop_of_length_le (by omega), implShort_is _ a b c 0 l hw hl (by omega) (by omega), bind_some_]
    unfold isShortBy
    rcases hs : shortOf a b c 0 l with _ | ⟨x, t⟩
    · simp [stockGo]
    · have hx : rd (x :: t) 0 = x := rfl
      rw [if_pos (by simp), if_pos (by simp), hx]
      by_cases hd : x ≤ day
      · simp [hd]
      · simp [hd, stockGo]
  | succ d ih =>
    intro k i s hi hk
    obtain ⟨k, rfl⟩ : ∃ m, k = m + 1 := ⟨k - 1, by omega⟩
    rw [dropOrder_at l i (by omega)]
    simp only [impl_StockOn.l0, stockGo]
    rw [if_pos (by omega), if_pos (by omega), if_pos (by omega), w64s i (by omega), ih k (i + 1) _ (by omega) (by omega), ih k (i + 1) _ (by omega) (by omega)]
    by_cases h : (rd_T119 l i).f0 ≤ day
    · rw [if_pos h, if_pos h]
    · rw [if_neg h, if_neg h]
theorem implStock_is (k : Nat) (a b c : Int) (l : List S119) (day : Int) (hb : l.length ≤ 9223372036854775806) (hk : 300 + 2 * l.length < k) : impl_StockOn.f k a b c l day = some (stockOf a b c l day) := by
  obtain ⟨k, rfl⟩ : ∃ m, k = m + 1 := ⟨k - 1, by omega⟩
  unfold impl_StockOn.f stockOf
  rw [implWorks_is, bind_some_, implOrders_is _ l hb (by omega), bind_some_, within_is, bind_some_]
  by_cases h1 : wkOk a b c = true
  · by_cases h2 : orValid l = true
    · by_cases h3 : (0 ≤ day ∧ day ≤ 200)
      · have hlp := implStock_loop a b c l day h1 h2 l.length k 0 (a * castOf b c day) (by omega) (by omega)
        rw [if_pos h1, if_pos h2, if_pos ⟨h1, h2, h3⟩]
        simp only [impl_StockOn.j0, decide_eq_true h3]
        rw [if_neg (by simp), implReady_is a b c day h1 (by omega), bind_some_]
        simpa using hlp
      · simp only [impl_StockOn.j0]
        simp [h1, h2, h3]
    · simp only [impl_StockOn.j0]
      simp [h1, h2]
  · simp only [impl_StockOn.j0]
    simp [h1]

end Go.Proofs.Ytajndapolblhmaa.P
