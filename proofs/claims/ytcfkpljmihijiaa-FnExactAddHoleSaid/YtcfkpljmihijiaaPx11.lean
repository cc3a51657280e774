import Derived.Test.YtcfkpljmihijiaaPx0
import Derived.Test.YtcfkpljmihijiaaPx1
import Derived.Test.YtcfkpljmihijiaaPx4
import Derived.Test.YtcfkpljmihijiaaPx5
import Derived.Test.YtcfkpljmihijiaaPx8
import Derived.Test.YtcfkpljmihijiaaPx9
import Derived.Test.YtcfkpljmihijiaaPx10
namespace Go.Proofs.Ytcfkpljmihijiaa.P
open Go.RowKit Go.Proofs.YtcfkpljmihijiaaW.PrintWords Go.Proofs.YtcfkpljmihijiaaW.PrintLast Go.Proofs.YtcfkpljmihijiaaW.PrintMore
attribute [local go_sem] max2_int min2_int max_two min_two max_three min_three max_four min_four   -- for this text's walks alone
set_option linter.unusedVariables false
set_option linter.unusedSimpArgs false

def Keeps (P : World → Prop) : Prop := ∀ W W1 : World, P W → Below W.heap.size W W1 → P W1
theorem Keeps.and {P Q : World → Prop} (h1 : Keeps P) (h2 : Keeps Q) : Keeps (fun W => P W ∧ Q W) := fun W W1 h hb => ⟨h1 W W1 h.1 hb, h2 W W1 h.2 hb⟩
theorem keeps_blk (g : Nat) (o : Obj) : Keeps (fun W => W.heap[g]? = some o) := fun _ _ h hb => blk_below h hb
theorem keeps_below (w : World) : Keeps (fun W => Below w.heap.size w W) := fun _ _ h hb => below_step h hb
theorem keeps_R {α : Type} (d : Kd α) (e base : Nat) (ok : Nat → Prop) (v : Value) (xs : List α) : Keeps (fun W => d.R e W base ok v xs) := fun _ _ h hb => Kd.R_below h hb
theorem keeps_S {α : Type} (d : Kd α) (e base : Nat) (ok : Nat → Prop) (v : Value) (xs : List α) : Keeps (fun W => Kd.S d e W base ok v xs) := fun _ _ h hb => Kd.S_below h hb
def laws_FnExactAddHole.f (k : Nat) (l0_0 : List Int) (l0_1 : List S27) (a1_0 : Int) (l1_1 : List Int) : Option (Bool) :=
 (laws_szGround.f k l0_0 l0_1 1048576).bind fun t0 => if t0 < 0 then some true else
 (laws_szHole.f a1_0 l1_1 t0).bind fun t1 => if t1 < 0 then some true else
 (laws_toGround.f k l0_0 l0_1).bind fun b0 =>
 (laws_toHole.f k a1_0 l1_1).bind fun b1 =>
 (spec_AddHole.f k b0.1 b0.2 b1.1 b1.2).bind fun bw => (impl_AddHole.f k b0.1 b0.2 b1.1 b1.2).bind fun bg =>
 (laws_eqGround.f k bg.1 bg.2.1 bw.1 bw.2.1).bind fun te => if te = true then (if bg.2.2 = bw.2.2 then (
 (laws_eqGround.f k b0.1 b0.2 b0.1 b0.2).bind fun tq0 => if tq0 = true then (
 (laws_eqHole.f k b1.1 b1.2 b1.1 b1.2).bind fun tq1 => if tq1 = true then (
 (laws_markGround.f k b0.1 b0.2 1).bind fun bm0 =>
 (laws_markHole.f k b1.1 b1.2 bm0.1).bind fun bm1 =>
 if bm1.1 < 0 then none else (laws_markGround.f k bg.1 bg.2.1 1).bind fun bk => (laws_heldGround.f k bk.2.1 bk.2.2 1).bind fun th => if th < 0 then none else if th = bk.1 then some true else none
 ) else none) else none) else none) else none
abbrev p11_19000 : Array Bool := #[false, false, false, false, false, false, false, false, false, false, false]
abbrev p11_19001 : Array Bool := #[true, false, false, false, false, false, false, false, false, false, false]
abbrev p11_19002 : Array Bool := #[true, false, true, false, false, false, false, false, false, false, false]
abbrev p11_19003 : Array Bool := #[true, true, true, true, true, true, true, true, true, false, false]
abbrev p11_19004 : Array Bool := #[true, true, true, false, false, false, false, false, false, false, false]
abbrev p11_19005 : Array Bool := #[true, false, true, false, false, false, false, false, true, false, false]
abbrev p11_19006 : Array Bool := #[true, true, true, true, false, false, false, false, false, false, false]
abbrev p11_19007 : Array Bool := #[true, true, true, false, false, false, false, false, true, false, false]
abbrev p11_19008 : Array Bool := #[true, true, true, true, true, false, false, false, false, false, false]
abbrev p11_19009 : Array Bool := #[true, true, true, true, false, false, false, false, true, false, false]
abbrev p11_19010 : Array Bool := #[true, true, true, true, true, true, false, false, false, false, false]
abbrev p11_19011 : Array Bool := #[true, true, true, true, true, true, true, false, false, false, false]
abbrev p11_19012 : Array Bool := #[true, true, true, true, true, true, true, true, false, false, false]
abbrev p11_19013 : Array Bool := #[true, true, true, true, true, false, false, false, true, false, false]
abbrev p11_19014 : Array Bool := #[true, true, true, true, true, true, false, false, true, false, false]
abbrev p11_19015 : Array Bool := #[true, true, true, true, true, true, true, false, true, false, false]
abbrev p11_19016 : Array Bool := #[true, true, true, true, true, true, true, true, true, true, false]
abbrev p11_19017 : Array Bool := #[true, true, true, true, true, true, true, true, true, true, true]
set_option maxHeartbeats 8000000 in
set_option maxRecDepth 100000 in
theorem laws_FnExactAddHole.calls (k : Nat) (A0_0 : Option Addr) (c0_0 : Nat) (l0_0 : List Int) (A0_1 : Option Addr) (c0_1 : Nat) (l0_1 : List S27) (a1_0 : Int) (A1_1 : Option Addr) (c1_1 : Nat) (l1_1 : List Int) (r : Bool) (w : World) (hr0_0 : Kd.C (Kd.int .i64) w A0_0 l0_0.length l0_0) (hc0_0 : l0_0.length ≤ c0_0) (hr0_1 : Kd.C k27 w A0_1 l0_1.length l0_1) (hc0_1 : l0_1.length ≤ c0_1) (hr1_1 : Kd.C (Kd.int .i64) w A1_1 l1_1.length l1_1) (hc1_1 : l1_1.length ≤ c1_1) (h : laws_FnExactAddHole.f k l0_0 l0_1 a1_0 l1_1 = some r) :
  Calls Try.prog 3 #[.agg #[.slice A0_0 l0_0.length c0_0, .slice A0_1 l0_1.length c0_1], .agg #[.int .i64 a1_0, .slice A1_1 l1_1.length c1_1]] w fun e w' => e = .returned (.bool r) ∧ Below w.heap.size w w' := by
 have db : ∀ {w w' : World}, Drawn0 w w' → Below w.heap.size w w' := by
  intro w w' h_
  obtain ⟨n_, rfl⟩ := h_
  exact pw_below_drewN (Below.refl _ _) _
 have hua0 := Try.underlying25
 have hux0 := Try.underlying32
 have hua1 := Try.underlying27
 have hux1 := Try.underlying36
 have HR0_0 := Aside0.mk hr0_0
 have HC0_0 := Aside0.mk hc0_0
 clear hr0_0 hc0_0
 have HR0_1 := Aside0.mk hr0_1
 have HC0_1 := Aside0.mk hc0_1
 clear hr0_1 hc0_1
 have HR1_1 := Aside0.mk hr1_1
 have HC1_1 := Aside0.mk hc1_1
 clear hr1_1 hc1_1
 have HB := Aside0.mk (Below.refl w.heap.size w)
 unfold laws_FnExactAddHole.f at h
 replace h := Option.bind_eq_some_iff.mp h
 obtain ⟨t0, A_0, h⟩ := h
 by_cases ce : t0 < 0
 ·rw [if_pos ce] at h
  obtain rfl := Option.some.inj h
  have ceb : decide (t0 < 0) = true := decide_eq_true ce
  clear ce h
  have Bt0 := Aside0.mk A_0
  clear A_0
  go_enter Try.func3, Try.ntmps3
  go_wp2_with (first | ((with_reducible refine gate_dst (N := 2) rfl ?_); refine box_event ?hg (N := 2) ?hd (cs := #[.slice A0_0 l0_0.length c0_0, .slice A0_1 l0_1.length c0_1]) (t := 25) ?hr ?_; (case hd => rfl); (case hg => rfl); (case hr => first | (go_simp; done) | (go_simp; rfl)); intro ga0 hga0 w1 hbox hb; have BA0 := Aside0.mk hbox; skip; have HB_ := Aside0.mk (below_step HB.out hb); clear hb hbox hga0; clear HB; have HB := HB_; clear HB_; have hcBA00 : w1.cell? ⟨ga0, 0, none⟩ = some (.slice A0_0 l0_0.length c0_0) := (blk_cell BA0.out 0).trans rfl; have hfBA00 := blk_frozen BA0.out 0; have hcBA01 : w1.cell? ⟨ga0, 1, none⟩ = some (.slice A0_1 l0_1.length c0_1) := (blk_cell BA0.out 1).trans rfl; have hfBA01 := blk_frozen BA0.out 1) | ((with_reducible refine gate_dst (N := 3) rfl ?_); refine box_event ?hg (N := 3) ?hd (cs := #[.int .i64 a1_0, .slice A1_1 l1_1.length c1_1]) (t := 27) ?hr ?_; (case hd => rfl); (case hg => rfl); (case hr => first | (go_simp; done) | (go_simp; rfl)); intro ga1 hga1 w2 hbox hb; have BA1 := Aside0.mk hbox; have NA1BA0 := Aside0.mk ((by rw [hga1]; exact Nat.ne_of_lt (blk_lt (g := ga0) (o := .cells #[.slice A0_0 l0_0.length c0_0, .slice A0_1 l0_1.length c0_1] 25 (0, 0)) BA0.out)) : ga0 ≠ ga1); have HB_ := Aside0.mk (below_step HB.out hb); have BA0_ := Aside0.mk (blk_below (g := ga0) (o := .cells #[.slice A0_0 l0_0.length c0_0, .slice A0_1 l0_1.length c0_1] 25 (0, 0)) BA0.out hb); clear hb hbox hga1; clear HB BA0; have HB := HB_; have BA0 := BA0_; clear HB_ BA0_; clear hcBA00 hfBA00 hcBA01 hfBA01; have hcBA00 : w2.cell? ⟨ga0, 0, none⟩ = some (.slice A0_0 l0_0.length c0_0) := (blk_cell BA0.out 0).trans rfl; have hfBA00 := blk_frozen BA0.out 0; have hcBA01 : w2.cell? ⟨ga0, 1, none⟩ = some (.slice A0_1 l0_1.length c0_1) := (blk_cell BA0.out 1).trans rfl; have hfBA01 := blk_frozen BA0.out 1; have hcBA10 : w2.cell? ⟨ga1, 0, none⟩ = some (.int .i64 a1_0) := (blk_cell BA1.out 0).trans rfl; have hfBA10 := blk_frozen BA1.out 0; have hcBA11 : w2.cell? ⟨ga1, 1, none⟩ = some (.slice A1_1 l1_1.length c1_1) := (blk_cell BA1.out 1).trans rfl; have hfBA11 := blk_frozen BA1.out 1) | (go_at_call 4; (with_reducible refine (laws_szGround.calls k A0_0 c0_0 l0_0 A0_1 c0_1 l0_1 1048576 t0 _ (Kd.C_below HR0_0.out HB.out) HC0_0.out (Kd.C_below HR0_1.out HB.out) HC0_1.out Bt0.out).mono ?_); rintro e w3 ⟨rfl, hb⟩; have HB_ := Aside0.mk (below_step HB.out hb); have BA0_ := Aside0.mk (blk_below (g := ga0) (o := .cells #[.slice A0_0 l0_0.length c0_0, .slice A0_1 l0_1.length c0_1] 25 (0, 0)) BA0.out hb); have BA1_ := Aside0.mk (blk_below (g := ga1) (o := .cells #[.int .i64 a1_0, .slice A1_1 l1_1.length c1_1] 27 (0, 0)) BA1.out hb); clear hb; clear HB BA0 BA1; have HB := HB_; have BA0 := BA0_; have BA1 := BA1_; clear HB_ BA0_ BA1_; clear hcBA00 hfBA00 hcBA01 hfBA01 hcBA10 hfBA10 hcBA11 hfBA11; have hcBA00 : w3.cell? ⟨ga0, 0, none⟩ = some (.slice A0_0 l0_0.length c0_0) := (blk_cell BA0.out 0).trans rfl; have hfBA00 := blk_frozen BA0.out 0; have hcBA01 : w3.cell? ⟨ga0, 1, none⟩ = some (.slice A0_1 l0_1.length c0_1) := (blk_cell BA0.out 1).trans rfl; have hfBA01 := blk_frozen BA0.out 1; have hcBA10 : w3.cell? ⟨ga1, 0, none⟩ = some (.int .i64 a1_0) := (blk_cell BA1.out 0).trans rfl; have hfBA10 := blk_frozen BA1.out 0; have hcBA11 : w3.cell? ⟨ga1, 1, none⟩ = some (.slice A1_1 l1_1.length c1_1) := (blk_cell BA1.out 1).trans rfl; have hfBA11 := blk_frozen BA1.out 1))
  go_ret
  exact ⟨by first | rfl | (simp; done) | (simp [*]; done) | (simp [tz_, *]; done), by repeat (first | (with_reducible first | exact HB.out | apply below_alloc | apply pw_below_drewN | apply below_drew1) | exact HB.out)⟩
 ·rw [if_neg ce] at h
  have cebt0 : decide (t0 < 0) = false := decide_eq_false ce
  clear ce
  replace h := Option.bind_eq_some_iff.mp h
  obtain ⟨t1, A_1, h⟩ := h
  by_cases ce : t1 < 0
  ·rw [if_pos ce] at h
   obtain rfl := Option.some.inj h
   have ceb : decide (t1 < 0) = true := decide_eq_true ce
   clear ce h
   have Bt0 := Aside0.mk A_0
   clear A_0
   have Bt1 := Aside0.mk A_1
   clear A_1
   go_enter Try.func3, Try.ntmps3
   go_wp2_with (first | ((with_reducible refine gate_dst (N := 2) rfl ?_); refine box_event ?hg (N := 2) ?hd (cs := #[.slice A0_0 l0_0.length c0_0, .slice A0_1 l0_1.length c0_1]) (t := 25) ?hr ?_; (case hd => rfl); (case hg => rfl); (case hr => first | (go_simp; done) | (go_simp; rfl)); intro ga0 hga0 w1 hbox hb; have BA0 := Aside0.mk hbox; skip; have HB_ := Aside0.mk (below_step HB.out hb); clear hb hbox hga0; clear HB; have HB := HB_; clear HB_; have hcBA00 : w1.cell? ⟨ga0, 0, none⟩ = some (.slice A0_0 l0_0.length c0_0) := (blk_cell BA0.out 0).trans rfl; have hfBA00 := blk_frozen BA0.out 0; have hcBA01 : w1.cell? ⟨ga0, 1, none⟩ = some (.slice A0_1 l0_1.length c0_1) := (blk_cell BA0.out 1).trans rfl; have hfBA01 := blk_frozen BA0.out 1) | ((with_reducible refine gate_dst (N := 3) rfl ?_); refine box_event ?hg (N := 3) ?hd (cs := #[.int .i64 a1_0, .slice A1_1 l1_1.length c1_1]) (t := 27) ?hr ?_; (case hd => rfl); (case hg => rfl); (case hr => first | (go_simp; done) | (go_simp; rfl)); intro ga1 hga1 w2 hbox hb; have BA1 := Aside0.mk hbox; have NA1BA0 := Aside0.mk ((by rw [hga1]; exact Nat.ne_of_lt (blk_lt (g := ga0) (o := .cells #[.slice A0_0 l0_0.length c0_0, .slice A0_1 l0_1.length c0_1] 25 (0, 0)) BA0.out)) : ga0 ≠ ga1); have HB_ := Aside0.mk (below_step HB.out hb); have BA0_ := Aside0.mk (blk_below (g := ga0) (o := .cells #[.slice A0_0 l0_0.length c0_0, .slice A0_1 l0_1.length c0_1] 25 (0, 0)) BA0.out hb); clear hb hbox hga1; clear HB BA0; have HB := HB_; have BA0 := BA0_; clear HB_ BA0_; clear hcBA00 hfBA00 hcBA01 hfBA01; have hcBA00 : w2.cell? ⟨ga0, 0, none⟩ = some (.slice A0_0 l0_0.length c0_0) := (blk_cell BA0.out 0).trans rfl; have hfBA00 := blk_frozen BA0.out 0; have hcBA01 : w2.cell? ⟨ga0, 1, none⟩ = some (.slice A0_1 l0_1.length c0_1) := (blk_cell BA0.out 1).trans rfl; have hfBA01 := blk_frozen BA0.out 1; have hcBA10 : w2.cell? ⟨ga1, 0, none⟩ = some (.int .i64 a1_0) := (blk_cell BA1.out 0).trans rfl; have hfBA10 := blk_frozen BA1.out 0; have hcBA11 : w2.cell? ⟨ga1, 1, none⟩ = some (.slice A1_1 l1_1.length c1_1) := (blk_cell BA1.out 1).trans rfl; have hfBA11 := blk_frozen BA1.out 1) | (go_at_call 4; (with_reducible refine (laws_szGround.calls k A0_0 c0_0 l0_0 A0_1 c0_1 l0_1 1048576 t0 _ (Kd.C_below HR0_0.out HB.out) HC0_0.out (Kd.C_below HR0_1.out HB.out) HC0_1.out Bt0.out).mono ?_); rintro e w3 ⟨rfl, hb⟩; have HB_ := Aside0.mk (below_step HB.out hb); have BA0_ := Aside0.mk (blk_below (g := ga0) (o := .cells #[.slice A0_0 l0_0.length c0_0, .slice A0_1 l0_1.length c0_1] 25 (0, 0)) BA0.out hb); have BA1_ := Aside0.mk (blk_below (g := ga1) (o := .cells #[.int .i64 a1_0, .slice A1_1 l1_1.length c1_1] 27 (0, 0)) BA1.out hb); clear hb; clear HB BA0 BA1; have HB := HB_; have BA0 := BA0_; have BA1 := BA1_; clear HB_ BA0_ BA1_; clear hcBA00 hfBA00 hcBA01 hfBA01 hcBA10 hfBA10 hcBA11 hfBA11; have hcBA00 : w3.cell? ⟨ga0, 0, none⟩ = some (.slice A0_0 l0_0.length c0_0) := (blk_cell BA0.out 0).trans rfl; have hfBA00 := blk_frozen BA0.out 0; have hcBA01 : w3.cell? ⟨ga0, 1, none⟩ = some (.slice A0_1 l0_1.length c0_1) := (blk_cell BA0.out 1).trans rfl; have hfBA01 := blk_frozen BA0.out 1; have hcBA10 : w3.cell? ⟨ga1, 0, none⟩ = some (.int .i64 a1_0) := (blk_cell BA1.out 0).trans rfl; have hfBA10 := blk_frozen BA1.out 0; have hcBA11 : w3.cell? ⟨ga1, 1, none⟩ = some (.slice A1_1 l1_1.length c1_1) := (blk_cell BA1.out 1).trans rfl; have hfBA11 := blk_frozen BA1.out 1) | (go_at_call 5; (with_reducible refine (laws_szHole.calls a1_0 A1_1 c1_1 l1_1 t0 t1 _ (Kd.C_below HR1_1.out HB.out) HC1_1.out Bt1.out).mono ?_); rintro e w4 ⟨rfl, hb⟩; have HB_ := Aside0.mk (below_step HB.out hb); have BA0_ := Aside0.mk (blk_below (g := ga0) (o := .cells #[.slice A0_0 l0_0.length c0_0, .slice A0_1 l0_1.length c0_1] 25 (0, 0)) BA0.out hb); have BA1_ := Aside0.mk (blk_below (g := ga1) (o := .cells #[.int .i64 a1_0, .slice A1_1 l1_1.length c1_1] 27 (0, 0)) BA1.out hb); clear hb; clear HB BA0 BA1; have HB := HB_; have BA0 := BA0_; have BA1 := BA1_; clear HB_ BA0_ BA1_; clear hcBA00 hfBA00 hcBA01 hfBA01 hcBA10 hfBA10 hcBA11 hfBA11; have hcBA00 : w4.cell? ⟨ga0, 0, none⟩ = some (.slice A0_0 l0_0.length c0_0) := (blk_cell BA0.out 0).trans rfl; have hfBA00 := blk_frozen BA0.out 0; have hcBA01 : w4.cell? ⟨ga0, 1, none⟩ = some (.slice A0_1 l0_1.length c0_1) := (blk_cell BA0.out 1).trans rfl; have hfBA01 := blk_frozen BA0.out 1; have hcBA10 : w4.cell? ⟨ga1, 0, none⟩ = some (.int .i64 a1_0) := (blk_cell BA1.out 0).trans rfl; have hfBA10 := blk_frozen BA1.out 0; have hcBA11 : w4.cell? ⟨ga1, 1, none⟩ = some (.slice A1_1 l1_1.length c1_1) := (blk_cell BA1.out 1).trans rfl; have hfBA11 := blk_frozen BA1.out 1))
   go_ret
   exact ⟨by first | rfl | (simp; done) | (simp [*]; done) | (simp [tz_, *]; done), by repeat (first | (with_reducible first | exact HB.out | apply below_alloc | apply pw_below_drewN | apply below_drew1) | exact HB.out)⟩
  ·rw [if_neg ce] at h
   have cebt1 : decide (t1 < 0) = false := decide_eq_false ce
   clear ce
   replace h := Option.bind_eq_some_iff.mp h
   obtain ⟨⟨x0_0, x0_1⟩, AT0, h⟩ := h
   replace h := Option.bind_eq_some_iff.mp h
   obtain ⟨⟨x1_0, x1_1⟩, AT1, h⟩ := h
   replace h := Option.bind_eq_some_iff.mp h
   obtain ⟨⟨s0, s1, s2⟩, AW, h⟩ := h
   replace h := Option.bind_eq_some_iff.mp h
   obtain ⟨⟨g0, g1, g2⟩, AG, h⟩ := h
   replace h := Option.bind_eq_some_iff.mp h
   obtain ⟨te, AE, h⟩ := h
   dsimp only at AW AG AE h
   have h5 : te = true := by by_cases c : te = true; exact c; rw [if_neg c] at h; exact absurd h (by simp)
   rw [if_pos h5] at h
   subst h5
   have c6 : g2 = s2 := by by_cases c : g2 = s2; exact c; rw [if_neg c] at h; exact absurd h (by simp)
   rw [if_pos c6] at h
   have cAg2 : (g2 != s2) = false := by simpa using c6
   have cBg2 : decide (g2 = s2) = true := by simpa using c6
   have cCg2 : (g2 == s2) = true := by simpa using c6
   clear c6
   replace h := Option.bind_eq_some_iff.mp h
   obtain ⟨tq0, AQ0, h⟩ := h
   have h5 : tq0 = true := by by_cases c : tq0 = true; exact c; rw [if_neg c] at h; exact absurd h (by simp)
   rw [if_pos h5] at h
   subst h5
   replace h := Option.bind_eq_some_iff.mp h
   obtain ⟨tq1, AQ1, h⟩ := h
   have h5 : tq1 = true := by by_cases c : tq1 = true; exact c; rw [if_neg c] at h; exact absurd h (by simp)
   rw [if_pos h5] at h
   subst h5
   replace h := Option.bind_eq_some_iff.mp h
   obtain ⟨⟨q0, m0_0, m0_1⟩, AM0, h⟩ := h
   dsimp only at h
   replace h := Option.bind_eq_some_iff.mp h
   obtain ⟨⟨q1, m1_0⟩, AM1, h⟩ := h
   dsimp only at h
   have c8 : ¬ q1 < 0 := by intro c; rw [if_pos c] at h; exact absurd h (by simp)
   rw [if_neg c8] at h
   have c8b0 : decide (q1 < 0) = false := decide_eq_false c8
   clear c8
   replace h := Option.bind_eq_some_iff.mp h
   obtain ⟨⟨qk, lk0, lk1⟩, AK, h⟩ := h
   replace h := Option.bind_eq_some_iff.mp h
   obtain ⟨th, AH, h⟩ := h
   dsimp only at AH h
   try dsimp only at AM1
   have c11 : ¬ th < 0 := by intro c; rw [if_pos c] at h; exact absurd h (by simp)
   rw [if_neg c11] at h
   have c11b0 : decide (th < 0) = false := decide_eq_false c11
   clear c11
   have c12 : th = qk := by by_cases c : th = qk; exact c; rw [if_neg c] at h; exact absurd h (by simp)
   rw [if_pos c12] at h
   have hr := Option.some.inj h
   clear h
   subst c12
   subst hr
   have Bt0 := Aside0.mk A_0
   clear A_0
   have Bt1 := Aside0.mk A_1
   clear A_1
   have BT0 := Aside0.mk AT0
   clear AT0
   have BT1 := Aside0.mk AT1
   clear AT1
   have BW := Aside0.mk AW
   clear AW
   have BG := Aside0.mk AG
   clear AG
   have BE := Aside0.mk AE
   clear AE
   have BQ0 := Aside0.mk AQ0
   clear AQ0
   have BQ1 := Aside0.mk AQ1
   clear AQ1
   have BM0 := Aside0.mk AM0
   clear AM0
   have BM1 := Aside0.mk AM1
   clear AM1
   have BK := Aside0.mk AK
   clear AK
   have BH := Aside0.mk AH
   clear AH
   have DB := Aside0.mk @db
   clear db
   go_enter Try.func3, Try.ntmps3
   go_wp2_with (first | ((with_reducible refine gate_dst (N := 2) rfl ?_); refine box_event ?hg (N := 2) ?hd (cs := #[.slice A0_0 l0_0.length c0_0, .slice A0_1 l0_1.length c0_1]) (t := 25) ?hr ?_; (case hd => rfl); (case hg => rfl); (case hr => first | (go_simp; done) | (go_simp; rfl)); intro ga0 hga0 w1 hbox hb; have BA0 := Aside0.mk hbox; skip; have HB_ := Aside0.mk (below_step HB.out hb); clear hb hbox hga0; clear HB; have HB := HB_; clear HB_; have hcBA00 : w1.cell? ⟨ga0, 0, none⟩ = some (.slice A0_0 l0_0.length c0_0) := (blk_cell BA0.out 0).trans rfl; have hfBA00 := blk_frozen BA0.out 0; have hcBA01 : w1.cell? ⟨ga0, 1, none⟩ = some (.slice A0_1 l0_1.length c0_1) := (blk_cell BA0.out 1).trans rfl; have hfBA01 := blk_frozen BA0.out 1) | ((with_reducible refine gate_dst (N := 3) rfl ?_); refine box_event ?hg (N := 3) ?hd (cs := #[.int .i64 a1_0, .slice A1_1 l1_1.length c1_1]) (t := 27) ?hr ?_; (case hd => rfl); (case hg => rfl); (case hr => first | (go_simp; done) | (go_simp; rfl)); intro ga1 hga1 w2 hbox hb; have BA1 := Aside0.mk hbox; have NA1BA0 := Aside0.mk ((by rw [hga1]; exact Nat.ne_of_lt (blk_lt (g := ga0) (o := .cells #[.slice A0_0 l0_0.length c0_0, .slice A0_1 l0_1.length c0_1] 25 (0, 0)) BA0.out)) : ga0 ≠ ga1); have HB_ := Aside0.mk (below_step HB.out hb); have BA0_ := Aside0.mk (blk_below (g := ga0) (o := .cells #[.slice A0_0 l0_0.length c0_0, .slice A0_1 l0_1.length c0_1] 25 (0, 0)) BA0.out hb); clear hb hbox hga1; clear HB BA0; have HB := HB_; have BA0 := BA0_; clear HB_ BA0_; clear hcBA00 hfBA00 hcBA01 hfBA01; have hcBA00 : w2.cell? ⟨ga0, 0, none⟩ = some (.slice A0_0 l0_0.length c0_0) := (blk_cell BA0.out 0).trans rfl; have hfBA00 := blk_frozen BA0.out 0; have hcBA01 : w2.cell? ⟨ga0, 1, none⟩ = some (.slice A0_1 l0_1.length c0_1) := (blk_cell BA0.out 1).trans rfl; have hfBA01 := blk_frozen BA0.out 1; have hcBA10 : w2.cell? ⟨ga1, 0, none⟩ = some (.int .i64 a1_0) := (blk_cell BA1.out 0).trans rfl; have hfBA10 := blk_frozen BA1.out 0; have hcBA11 : w2.cell? ⟨ga1, 1, none⟩ = some (.slice A1_1 l1_1.length c1_1) := (blk_cell BA1.out 1).trans rfl; have hfBA11 := blk_frozen BA1.out 1) | (go_at_call 4; (with_reducible refine (laws_szGround.calls k A0_0 c0_0 l0_0 A0_1 c0_1 l0_1 1048576 t0 _ (Kd.C_below HR0_0.out HB.out) HC0_0.out (Kd.C_below HR0_1.out HB.out) HC0_1.out Bt0.out).mono ?_); rintro e w3 ⟨rfl, hb⟩; have HB_ := Aside0.mk (below_step HB.out hb); have BA0_ := Aside0.mk (blk_below (g := ga0) (o := .cells #[.slice A0_0 l0_0.length c0_0, .slice A0_1 l0_1.length c0_1] 25 (0, 0)) BA0.out hb); have BA1_ := Aside0.mk (blk_below (g := ga1) (o := .cells #[.int .i64 a1_0, .slice A1_1 l1_1.length c1_1] 27 (0, 0)) BA1.out hb); clear hb; clear HB BA0 BA1; have HB := HB_; have BA0 := BA0_; have BA1 := BA1_; clear HB_ BA0_ BA1_; clear hcBA00 hfBA00 hcBA01 hfBA01 hcBA10 hfBA10 hcBA11 hfBA11; have hcBA00 : w3.cell? ⟨ga0, 0, none⟩ = some (.slice A0_0 l0_0.length c0_0) := (blk_cell BA0.out 0).trans rfl; have hfBA00 := blk_frozen BA0.out 0; have hcBA01 : w3.cell? ⟨ga0, 1, none⟩ = some (.slice A0_1 l0_1.length c0_1) := (blk_cell BA0.out 1).trans rfl; have hfBA01 := blk_frozen BA0.out 1; have hcBA10 : w3.cell? ⟨ga1, 0, none⟩ = some (.int .i64 a1_0) := (blk_cell BA1.out 0).trans rfl; have hfBA10 := blk_frozen BA1.out 0; have hcBA11 : w3.cell? ⟨ga1, 1, none⟩ = some (.slice A1_1 l1_1.length c1_1) := (blk_cell BA1.out 1).trans rfl; have hfBA11 := blk_frozen BA1.out 1) | (go_at_call 5; (with_reducible refine (laws_szHole.calls a1_0 A1_1 c1_1 l1_1 t0 t1 _ (Kd.C_below HR1_1.out HB.out) HC1_1.out Bt1.out).mono ?_); rintro e w4 ⟨rfl, hb⟩; have HB_ := Aside0.mk (below_step HB.out hb); have BA0_ := Aside0.mk (blk_below (g := ga0) (o := .cells #[.slice A0_0 l0_0.length c0_0, .slice A0_1 l0_1.length c0_1] 25 (0, 0)) BA0.out hb); have BA1_ := Aside0.mk (blk_below (g := ga1) (o := .cells #[.int .i64 a1_0, .slice A1_1 l1_1.length c1_1] 27 (0, 0)) BA1.out hb); clear hb; clear HB BA0 BA1; have HB := HB_; have BA0 := BA0_; have BA1 := BA1_; clear HB_ BA0_ BA1_; clear hcBA00 hfBA00 hcBA01 hfBA01 hcBA10 hfBA10 hcBA11 hfBA11; have hcBA00 : w4.cell? ⟨ga0, 0, none⟩ = some (.slice A0_0 l0_0.length c0_0) := (blk_cell BA0.out 0).trans rfl; have hfBA00 := blk_frozen BA0.out 0; have hcBA01 : w4.cell? ⟨ga0, 1, none⟩ = some (.slice A0_1 l0_1.length c0_1) := (blk_cell BA0.out 1).trans rfl; have hfBA01 := blk_frozen BA0.out 1; have hcBA10 : w4.cell? ⟨ga1, 0, none⟩ = some (.int .i64 a1_0) := (blk_cell BA1.out 0).trans rfl; have hfBA10 := blk_frozen BA1.out 0; have hcBA11 : w4.cell? ⟨ga1, 1, none⟩ = some (.slice A1_1 l1_1.length c1_1) := (blk_cell BA1.out 1).trans rfl; have hfBA11 := blk_frozen BA1.out 1))
   try go_wp2
   obtain ⟨P, hP⟩ : ∃ P : World → Prop, P = (fun W_ => Below w.heap.size w W_ ∧ W_.heap[ga0]? = some (.cells #[.slice A0_0 l0_0.length c0_0, .slice A0_1 l0_1.length c0_1] 25 (0, 0)) ∧ W_.heap[ga1]? = some (.cells #[.int .i64 a1_0, .slice A1_1 l1_1.length c1_1] 27 (0, 0))) := ⟨_, rfl⟩
   have KP := Aside0.mk (show Keeps P by rw [hP]; exact (Keeps.and (keeps_below w) (Keeps.and (keeps_blk _ _) (keeps_blk _ _))))
   have P1 := Aside0.mk (show ∀ W_, P W_ → Below w.heap.size w W_ by rw [hP]; exact fun _ h_ => h_.1)
   have P2 := Aside0.mk (show ∀ W_, P W_ → W_.heap[ga0]? = some (.cells #[.slice A0_0 l0_0.length c0_0, .slice A0_1 l0_1.length c0_1] 25 (0, 0)) by rw [hP]; exact fun _ h_ => h_.2.1)
   have P3 := Aside0.mk (show ∀ W_, P W_ → W_.heap[ga1]? = some (.cells #[.int .i64 a1_0, .slice A1_1 l1_1.length c1_1] 27 (0, 0)) by rw [hP]; exact fun _ h_ => h_.2.2)
   have ST := Aside0.mk (show P w4.drew by rw [hP]; exact ⟨below_drew1 HB.out, blk_drew BA0.out, blk_drew BA1.out⟩)
   obtain ⟨N0, hN0⟩ : ∃ N0, N0 = w4.heap.size := ⟨_, rfl⟩
   have LBA0 := Aside0.mk (show ga0 < N0 by rw [hN0]; exact blk_lt BA0.out)
   have LBA1 := Aside0.mk (show ga1 < N0 by rw [hN0]; exact blk_lt BA1.out)
   have LW := Aside0.mk (show w.heap.size ≤ N0 by rw [hN0]; exact HB.out.size)
   have SN := Aside0.mk (show N0 ≤ w4.drew.heap.size by rw [hN0]; exact Nat.le_refl _)
   have HPQ := Aside0.mk hP
   clear hP hN0 HB BA0 BA1
   clear hcBA00 hfBA00 hcBA01 hfBA01 hcBA10 hfBA10 hcBA11 hfBA11
   refine start_ (n := 11) (S := fun w' => w'.cell? ⟨ga0, 0, none⟩ = some (.slice A0_0 l0_0.length c0_0) ∧ w'.cell? ⟨ga0, 1, none⟩ = some (.slice A0_1 l0_1.length c0_1) ∧ w'.cell? ⟨ga1, 0, none⟩ = some (.int .i64 a1_0) ∧ w'.cell? ⟨ga1, 1, none⟩ = some (.slice A1_1 l1_1.length c1_1)) (ds := []) p11_19000 (by kernel_rfl) rfl rfl ⟨(blk_cell (P2.out _ ST.out) 0).trans rfl, (blk_cell (P2.out _ ST.out) 1).trans rfl, (blk_cell (P3.out _ ST.out) 0).trans rfl, (blk_cell (P3.out _ ST.out) 1).trans rfl⟩ (fun hHeld => ?_)
   generalize w4.drew = w5 at ST SN hHeld ⊢
   refine take_ (i := 0) (N := some 28) (v := ?_) (a' := ?_) p11_19001 rfl rfl (by kernel_rfl) (fun _ _ _ h => h) (Or.inl ⟨by rfl, ?_⟩) hHeld ?_ ?_
   rotate_left
   ·rintro w' ⟨s0_, s1_, s2_, s3_⟩
    go_simp
    with_reducible rfl
   rotate_left
   ·simp only [Act.put, qa_, qz_, qs_, i64_w, i32_w]
    rfl
   refine take_ (i := 2) (N := some 30) (v := ?_) (a' := ?_) p11_19002 rfl rfl (by kernel_rfl) (fun _ _ _ h => h) (Or.inl ⟨by rfl, ?_⟩) hHeld ?_ ?_
   rotate_left
   ·rintro w' ⟨s0_, s1_, s2_, s3_⟩
    go_simp
    with_reducible rfl
   rotate_left
   ·simp only [Act.put, qa_, qz_, qs_, i64_w, i32_w]
    rfl
   refine join_ (σ := Value × Value × Value × Value × Value × Nat) 2 p11_19003 (fun s_ => [(29, .agg #[s_.1, s_.2.1]), (31, .agg #[.int .i64 x1_0, s_.2.2.1]), (32, .tuple #[.agg #[s_.2.2.2.1, s_.2.2.2.2.1], .bool s2]), (6, .pointer (some ⟨s_.2.2.2.2.2, 0, none⟩)), (27, .tuple #[.agg #[s_.2.2.2.1, s_.2.2.2.2.1], .bool s2]), (33, .agg #[s_.2.2.2.1, s_.2.2.2.2.1]), (34, .bool s2)]) (fun s_ w' => (w'.cell? ⟨ga0, 0, none⟩ = some (.slice A0_0 l0_0.length c0_0) ∧ w'.cell? ⟨ga0, 1, none⟩ = some (.slice A0_1 l0_1.length c0_1) ∧ w'.cell? ⟨ga1, 0, none⟩ = some (.int .i64 a1_0) ∧ w'.cell? ⟨ga1, 1, none⟩ = some (.slice A1_1 l1_1.length c1_1)) ∧ P w' ∧ Kd.R (Kd.int .i64) 2 w' w.heap.size (fun _ => True) s_.2.2.2.1 s0 ∧ Kd.S k36 36 w' w.heap.size (fun _ => True) s_.2.2.2.2.1 s1 ∧ w'.heap[s_.2.2.2.2.2]? = some (.cells #[.slice none 0 0, .slice none 0 0] 32 (0, 0)) ∧ N0 ≤ s_.2.2.2.2.2) ?_ (fun hCont => ?_)
   rotate_left
   ·skip
    refine two_ (i := 1) (j := 8) (Ni := some 29) (Nj := some 6) p11_19004 p11_19005 rfl rfl rfl rfl (by kernel_rfl) (by decide) (by decide) (fun K hK => ?_) (fun K hK => ?_)
    ·skip
     refine goes_ Try.func7 (by kernel_rfl) rfl #[.agg #[.slice A0_0 l0_0.length c0_0, .slice A0_1 l0_1.length c0_1]] (by rfl) rfl rfl (by (try simp only [List.map_toArray, List.map_cons, List.map_nil]); first | done | rfl | (simp only [List.length_drop, List.length_take]; rfl)) ?_
     refine (laws_toGround.calls k A0_0 c0_0 l0_0 A0_1 c0_1 l0_1 x0_0 x0_1 _ (Kd.C_below HR0_0.out (P1.out _ ST.out)) HC0_0.out (Kd.C_below HR0_1.out (P1.out _ ST.out)) HC0_1.out BT0.out).mono ?_
     rintro e w6 ⟨vx0, vx1, rfl, ho0, ho1, hb⟩
     refine ⟨_, rfl, ?_⟩
     have ST_ := Aside0.mk (KP.out _ _ ST.out hb)
     have SN_ := Aside0.mk (Nat.le_trans SN.out hb.size)
     have HX0 := Aside0.mk ho0
     have HX1 := Aside0.mk ho1
     clear hb ho0 ho1
     clear ST SN
     have ST := ST_
     have SN := SN_
     clear ST_ SN_
     refine hK.out _ _ ⟨(blk_cell (P2.out _ ST.out) 0).trans rfl, (blk_cell (P2.out _ ST.out) 1).trans rfl, (blk_cell (P3.out _ ST.out) 0).trans rfl, (blk_cell (P3.out _ ST.out) 1).trans rfl⟩ (fun hHeld => ?_)
     clear hK K
     refine norm_ (a' := ?_) ?_ ?_
     rotate_left
     ·show Act.put _ (some 29) _ = _
      simp only [Act.put, qa_, qz_, qs_, i64_w, i32_w]
      rfl
     refine two_ (i := 3) (j := 8) (Ni := some 31) (Nj := some 6) p11_19006 p11_19007 rfl rfl rfl rfl (by kernel_rfl) (by decide) (by decide) (fun K hK => ?_) (fun K hK => ?_)
     ·skip
      refine goes_ Try.func8 (by kernel_rfl) rfl #[.agg #[.int .i64 a1_0, .slice A1_1 l1_1.length c1_1]] (by rfl) rfl rfl (by (try simp only [List.map_toArray, List.map_cons, List.map_nil]); first | done | rfl | (simp only [List.length_drop, List.length_take]; rfl)) ?_
      refine (laws_toHole.calls k a1_0 A1_1 c1_1 l1_1 x1_0 x1_1 _ (Kd.C_below HR1_1.out (P1.out _ ST.out)) HC1_1.out BT1.out).mono ?_
      rintro e w7 ⟨vx2, rfl, ho0, hb⟩
      refine ⟨_, rfl, ?_⟩
      have ST_ := Aside0.mk (KP.out _ _ ST.out hb)
      have SN_ := Aside0.mk (Nat.le_trans SN.out hb.size)
      have HX0_ := Aside0.mk (Kd.R_below HX0.out hb)
      have HX1_ := Aside0.mk (Kd.S_below HX1.out hb)
      have HX2 := Aside0.mk ho0
      clear hb ho0
      clear ST SN HX0 HX1
      have ST := ST_
      have SN := SN_
      have HX0 := HX0_
      have HX1 := HX1_
      clear ST_ SN_ HX0_ HX1_
      refine hK.out _ _ ⟨(blk_cell (P2.out _ ST.out) 0).trans rfl, (blk_cell (P2.out _ ST.out) 1).trans rfl, (blk_cell (P3.out _ ST.out) 0).trans rfl, (blk_cell (P3.out _ ST.out) 1).trans rfl⟩ (fun hHeld => ?_)
      clear hK K
      refine norm_ (a' := ?_) ?_ ?_
      rotate_left
      ·show Act.put _ (some 31) _ = _
       simp only [Act.put, qa_, qz_, qs_, i64_w, i32_w]
       rfl
      refine two_ (i := 4) (j := 8) (Ni := some 32) (Nj := some 6) p11_19008 p11_19009 rfl rfl rfl rfl (by kernel_rfl) (by decide) (by decide) (fun K hK => ?_) (fun K hK => ?_)
      ·skip
       obtain ⟨Ar0, cr0, er0⟩ := Kd.R_slice HX0.out
       subst er0
       obtain ⟨Ar1, cr1, er1⟩ := Kd.S_slice HX1.out
       subst er1
       obtain ⟨Ar2, cr2, er2⟩ := Kd.R_slice HX2.out
       subst er2
       refine goes_ Try.func6 (by kernel_rfl) rfl #[.agg #[.slice Ar0 x0_0.length cr0, .slice Ar1 x0_1.length cr1], .agg #[.int .i64 x1_0, .slice Ar2 x1_1.length cr2]] (by rfl) rfl rfl (by (try simp only [List.map_toArray, List.map_cons, List.map_nil]); first | done | rfl | (simp only [List.length_drop, List.length_take]; rfl)) ?_
       refine (spec_AddHole.calls k Ar0 cr0 x0_0 Ar1 cr1 x0_1 x1_0 Ar2 cr2 x1_1 s0 s1 s2 _ (Kd.R_reads' HX0.out).2.2 (Kd.R_reads' HX0.out).2.1 (Kd.S_reads' HX1.out).2.2 (Kd.S_reads' HX1.out).2.1 (Kd.R_reads' HX2.out).2.2 (Kd.R_reads' HX2.out).2.1 BW.out).mono ?_
       rintro e w8 ⟨v0, v1, rfl, ho0, ho1, hb⟩
       refine ⟨_, rfl, ?_⟩
       have ST_ := Aside0.mk (KP.out _ _ ST.out hb)
       have SN_ := Aside0.mk (Nat.le_trans SN.out hb.size)
       have HV0 := Aside0.mk (Kd.R_lower ho0 (P1.out _ ST.out).size)
       have HV1 := Aside0.mk (Kd.S_mono (ok' := fun _ => True) (Kd.S_lower ho1 (P1.out _ ST.out).size) (fun _ _ => trivial))
       clear hb ho0 ho1 HX0 HX1 HX2
       clear ST SN
       have ST := ST_
       have SN := SN_
       clear ST_ SN_
       refine hK.out _ _ ⟨(blk_cell (P2.out _ ST.out) 0).trans rfl, (blk_cell (P2.out _ ST.out) 1).trans rfl, (blk_cell (P3.out _ ST.out) 0).trans rfl, (blk_cell (P3.out _ ST.out) 1).trans rfl⟩ (fun hHeld => ?_)
       clear hK K
       refine norm_ (a' := ?_) ?_ ?_
       rotate_left
       ·show Act.put _ (some 32) _ = _
        simp only [Act.put, qa_, qz_, qs_, i64_w, i32_w]
        rfl
       refine pure_ (i := 5) (N := some 27) (v := ?_) (a' := ?_) p11_19010 rfl rfl (by kernel_rfl) (fun _ _ _ h => h) (Or.inl ⟨by rfl, ?_⟩) ?_ ?_
       rotate_left
       ·intro w'
        go_simp
        with_reducible rfl
       rotate_left
       ·simp only [Act.put, qa_, qz_, qs_, i64_w, i32_w]
        rfl
       refine pure_ (i := 6) (N := some 33) (v := ?_) (a' := ?_) p11_19011 rfl rfl (by kernel_rfl) (fun _ _ _ h => h) (Or.inl ⟨by rfl, ?_⟩) ?_ ?_
       rotate_left
       ·intro w'
        go_simp
        with_reducible rfl
       rotate_left
       ·simp only [Act.put, qa_, qz_, qs_, i64_w, i32_w]
        rfl
       refine pure_ (i := 7) (N := some 34) (v := ?_) (a' := ?_) p11_19012 rfl rfl (by kernel_rfl) (fun _ _ _ h => h) (Or.inl ⟨by rfl, ?_⟩) ?_ ?_
       rotate_left
       ·intro w'
        go_simp
        with_reducible rfl
       rotate_left
       ·simp only [Act.put, qa_, qz_, qs_, i64_w, i32_w]
        rfl
       refine one_ (i := 8) (N := some 6) p11_19003 rfl rfl (by kernel_rfl) (by decide) (fun K hK => ?_)
       refine box_step ?hg (N := 6) ?hd (cs := #[.slice none 0 0, .slice none 0 0]) (t := 32) ?hr ?_; (case hd => rfl); (case hg => rfl); (case hr => first | (go_simp; done) | (go_simp; rfl))
       intro gA hgA w9 hbox hb
       have NA := Aside0.mk (show N0 ≤ gA by rw [hgA]; exact SN.out)
       have ST_ := Aside0.mk (KP.out _ _ ST.out hb)
       have SN_ := Aside0.mk (Nat.le_trans SN.out hb.size)
       have HV0_ := Aside0.mk (Kd.R_below HV0.out hb)
       have HV1_ := Aside0.mk (Kd.S_below HV1.out hb)
       have HA := Aside0.mk hbox
       clear hb hbox hgA
       clear ST SN HV0 HV1
       have ST := ST_
       have SN := SN_
       have HV0 := HV0_
       have HV1 := HV1_
       clear ST_ SN_ HV0_ HV1_
       refine hK.out _ _ ⟨(blk_cell (P2.out _ ST.out) 0).trans rfl, (blk_cell (P2.out _ ST.out) 1).trans rfl, (blk_cell (P3.out _ ST.out) 0).trans rfl, (blk_cell (P3.out _ ST.out) 1).trans rfl⟩ (fun hHeld => ?_)
       clear hK K
       refine norm_ (a' := ?_) ?_ ?_
       rotate_left
       ·show Act.put _ (some 6) _ = _
        simp only [Act.put, qa_, qz_, qs_, i64_w, i32_w]
        rfl
       exact norm_ (by simp only [putAll, Act.put, qa_, qz_, qs_]) (hCont (.slice Ar0 x0_0.length cr0, .slice Ar1 x0_1.length cr1, .slice Ar2 x1_1.length cr2, v0, v1, gA) _ ⟨hHeld, ST.out, HV0.out, HV1.out, HA.out, NA.out⟩)
      ·skip
       refine box_step ?hg (N := 6) ?hd (cs := #[.slice none 0 0, .slice none 0 0]) (t := 32) ?hr ?_; (case hd => rfl); (case hg => rfl); (case hr => first | (go_simp; done) | (go_simp; rfl))
       intro gA hgA w10 hbox hb
       have NA := Aside0.mk (show N0 ≤ gA by rw [hgA]; exact SN.out)
       have ST_ := Aside0.mk (KP.out _ _ ST.out hb)
       have SN_ := Aside0.mk (Nat.le_trans SN.out hb.size)
       have HX0_ := Aside0.mk (Kd.R_below HX0.out hb)
       have HX1_ := Aside0.mk (Kd.S_below HX1.out hb)
       have HX2_ := Aside0.mk (Kd.R_below HX2.out hb)
       have HA := Aside0.mk hbox
       clear hb hbox hgA
       clear ST SN HX0 HX1 HX2
       have ST := ST_
       have SN := SN_
       have HX0 := HX0_
       have HX1 := HX1_
       have HX2 := HX2_
       clear ST_ SN_ HX0_ HX1_ HX2_
       refine hK.out _ _ ⟨(blk_cell (P2.out _ ST.out) 0).trans rfl, (blk_cell (P2.out _ ST.out) 1).trans rfl, (blk_cell (P3.out _ ST.out) 0).trans rfl, (blk_cell (P3.out _ ST.out) 1).trans rfl⟩ (fun hHeld => ?_)
       clear hK K
       refine norm_ (a' := ?_) ?_ ?_
       rotate_left
       ·show Act.put _ (some 6) _ = _
        simp only [Act.put, qa_, qz_, qs_, i64_w, i32_w]
        rfl
       refine one_ (i := 4) (N := some 32) p11_19013 rfl rfl (by kernel_rfl) (by decide) (fun K hK => ?_)
       obtain ⟨Ar0, cr0, er0⟩ := Kd.R_slice HX0.out
       subst er0
       obtain ⟨Ar1, cr1, er1⟩ := Kd.S_slice HX1.out
       subst er1
       obtain ⟨Ar2, cr2, er2⟩ := Kd.R_slice HX2.out
       subst er2
       refine goes_ Try.func6 (by kernel_rfl) rfl #[.agg #[.slice Ar0 x0_0.length cr0, .slice Ar1 x0_1.length cr1], .agg #[.int .i64 x1_0, .slice Ar2 x1_1.length cr2]] (by rfl) rfl rfl (by (try simp only [List.map_toArray, List.map_cons, List.map_nil]); first | done | rfl | (simp only [List.length_drop, List.length_take]; rfl)) ?_
       refine (spec_AddHole.calls k Ar0 cr0 x0_0 Ar1 cr1 x0_1 x1_0 Ar2 cr2 x1_1 s0 s1 s2 _ (Kd.R_reads' HX0.out).2.2 (Kd.R_reads' HX0.out).2.1 (Kd.S_reads' HX1.out).2.2 (Kd.S_reads' HX1.out).2.1 (Kd.R_reads' HX2.out).2.2 (Kd.R_reads' HX2.out).2.1 BW.out).mono ?_
       rintro e w11 ⟨v0, v1, rfl, ho0, ho1, hb⟩
       refine ⟨_, rfl, ?_⟩
       have ST_ := Aside0.mk (KP.out _ _ ST.out hb)
       have SN_ := Aside0.mk (Nat.le_trans SN.out hb.size)
       have HA_ := Aside0.mk (blk_below HA.out hb)
       have HV0 := Aside0.mk (Kd.R_lower ho0 (P1.out _ ST.out).size)
       have HV1 := Aside0.mk (Kd.S_mono (ok' := fun _ => True) (Kd.S_lower ho1 (P1.out _ ST.out).size) (fun _ _ => trivial))
       clear hb ho0 ho1 HX0 HX1 HX2
       clear ST SN HA
       have ST := ST_
       have SN := SN_
       have HA := HA_
       clear ST_ SN_ HA_
       refine hK.out _ _ ⟨(blk_cell (P2.out _ ST.out) 0).trans rfl, (blk_cell (P2.out _ ST.out) 1).trans rfl, (blk_cell (P3.out _ ST.out) 0).trans rfl, (blk_cell (P3.out _ ST.out) 1).trans rfl⟩ (fun hHeld => ?_)
       clear hK K
       refine norm_ (a' := ?_) ?_ ?_
       rotate_left
       ·show Act.put _ (some 32) _ = _
        simp only [Act.put, qa_, qz_, qs_, i64_w, i32_w]
        rfl
       refine pure_ (i := 5) (N := some 27) (v := ?_) (a' := ?_) p11_19014 rfl rfl (by kernel_rfl) (fun _ _ _ h => h) (Or.inl ⟨by rfl, ?_⟩) ?_ ?_
       rotate_left
       ·intro w'
        go_simp
        with_reducible rfl
       rotate_left
       ·simp only [Act.put, qa_, qz_, qs_, i64_w, i32_w]
        rfl
       refine pure_ (i := 6) (N := some 33) (v := ?_) (a' := ?_) p11_19015 rfl rfl (by kernel_rfl) (fun _ _ _ h => h) (Or.inl ⟨by rfl, ?_⟩) ?_ ?_
       rotate_left
       ·intro w'
        go_simp
        with_reducible rfl
       rotate_left
       ·simp only [Act.put, qa_, qz_, qs_, i64_w, i32_w]
        rfl
       refine pure_ (i := 7) (N := some 34) (v := ?_) (a' := ?_) p11_19003 rfl rfl (by kernel_rfl) (fun _ _ _ h => h) (Or.inl ⟨by rfl, ?_⟩) ?_ ?_
       rotate_left
       ·intro w'
        go_simp
        with_reducible rfl
       rotate_left
       ·simp only [Act.put, qa_, qz_, qs_, i64_w, i32_w]
        rfl
       exact norm_ (by simp only [putAll, Act.put, qa_, qz_, qs_]) (hCont (.slice Ar0 x0_0.length cr0, .slice Ar1 x0_1.length cr1, .slice Ar2 x1_1.length cr2, v0, v1, gA) _ ⟨hHeld, ST.out, HV0.out, HV1.out, HA.out, NA.out⟩)
     ·skip
      refine box_step ?hg (N := 6) ?hd (cs := #[.slice none 0 0, .slice none 0 0]) (t := 32) ?hr ?_; (case hd => rfl); (case hg => rfl); (case hr => first | (go_simp; done) | (go_simp; rfl))
      intro gA hgA w12 hbox hb
      have NA := Aside0.mk (show N0 ≤ gA by rw [hgA]; exact SN.out)
      have ST_ := Aside0.mk (KP.out _ _ ST.out hb)
      have SN_ := Aside0.mk (Nat.le_trans SN.out hb.size)
      have HX0_ := Aside0.mk (Kd.R_below HX0.out hb)
      have HX1_ := Aside0.mk (Kd.S_below HX1.out hb)
      have HA := Aside0.mk hbox
      clear hb hbox hgA
      clear ST SN HX0 HX1
      have ST := ST_
      have SN := SN_
      have HX0 := HX0_
      have HX1 := HX1_
      clear ST_ SN_ HX0_ HX1_
      refine hK.out _ _ ⟨(blk_cell (P2.out _ ST.out) 0).trans rfl, (blk_cell (P2.out _ ST.out) 1).trans rfl, (blk_cell (P3.out _ ST.out) 0).trans rfl, (blk_cell (P3.out _ ST.out) 1).trans rfl⟩ (fun hHeld => ?_)
      clear hK K
      refine norm_ (a' := ?_) ?_ ?_
      rotate_left
      ·show Act.put _ (some 6) _ = _
       simp only [Act.put, qa_, qz_, qs_, i64_w, i32_w]
       rfl
      refine one_ (i := 3) (N := some 31) p11_19009 rfl rfl (by kernel_rfl) (by decide) (fun K hK => ?_)
      refine goes_ Try.func8 (by kernel_rfl) rfl #[.agg #[.int .i64 a1_0, .slice A1_1 l1_1.length c1_1]] (by rfl) rfl rfl (by (try simp only [List.map_toArray, List.map_cons, List.map_nil]); first | done | rfl | (simp only [List.length_drop, List.length_take]; rfl)) ?_
      refine (laws_toHole.calls k a1_0 A1_1 c1_1 l1_1 x1_0 x1_1 _ (Kd.C_below HR1_1.out (P1.out _ ST.out)) HC1_1.out BT1.out).mono ?_
      rintro e w13 ⟨vx2, rfl, ho0, hb⟩
      refine ⟨_, rfl, ?_⟩
      have ST_ := Aside0.mk (KP.out _ _ ST.out hb)
      have SN_ := Aside0.mk (Nat.le_trans SN.out hb.size)
      have HX0_ := Aside0.mk (Kd.R_below HX0.out hb)
      have HX1_ := Aside0.mk (Kd.S_below HX1.out hb)
      have HA_ := Aside0.mk (blk_below HA.out hb)
      have HX2 := Aside0.mk ho0
      clear hb ho0
      clear ST SN HX0 HX1 HA
      have ST := ST_
      have SN := SN_
      have HX0 := HX0_
      have HX1 := HX1_
      have HA := HA_
      clear ST_ SN_ HX0_ HX1_ HA_
      refine hK.out _ _ ⟨(blk_cell (P2.out _ ST.out) 0).trans rfl, (blk_cell (P2.out _ ST.out) 1).trans rfl, (blk_cell (P3.out _ ST.out) 0).trans rfl, (blk_cell (P3.out _ ST.out) 1).trans rfl⟩ (fun hHeld => ?_)
      clear hK K
      refine norm_ (a' := ?_) ?_ ?_
      rotate_left
      ·show Act.put _ (some 31) _ = _
       simp only [Act.put, qa_, qz_, qs_, i64_w, i32_w]
       rfl
      refine one_ (i := 4) (N := some 32) p11_19013 rfl rfl (by kernel_rfl) (by decide) (fun K hK => ?_)
      obtain ⟨Ar0, cr0, er0⟩ := Kd.R_slice HX0.out
      subst er0
      obtain ⟨Ar1, cr1, er1⟩ := Kd.S_slice HX1.out
      subst er1
      obtain ⟨Ar2, cr2, er2⟩ := Kd.R_slice HX2.out
      subst er2
      refine goes_ Try.func6 (by kernel_rfl) rfl #[.agg #[.slice Ar0 x0_0.length cr0, .slice Ar1 x0_1.length cr1], .agg #[.int .i64 x1_0, .slice Ar2 x1_1.length cr2]] (by rfl) rfl rfl (by (try simp only [List.map_toArray, List.map_cons, List.map_nil]); first | done | rfl | (simp only [List.length_drop, List.length_take]; rfl)) ?_
      refine (spec_AddHole.calls k Ar0 cr0 x0_0 Ar1 cr1 x0_1 x1_0 Ar2 cr2 x1_1 s0 s1 s2 _ (Kd.R_reads' HX0.out).2.2 (Kd.R_reads' HX0.out).2.1 (Kd.S_reads' HX1.out).2.2 (Kd.S_reads' HX1.out).2.1 (Kd.R_reads' HX2.out).2.2 (Kd.R_reads' HX2.out).2.1 BW.out).mono ?_
      rintro e w14 ⟨v0, v1, rfl, ho0, ho1, hb⟩
      refine ⟨_, rfl, ?_⟩
      have ST_ := Aside0.mk (KP.out _ _ ST.out hb)
      have SN_ := Aside0.mk (Nat.le_trans SN.out hb.size)
      have HA_ := Aside0.mk (blk_below HA.out hb)
      have HV0 := Aside0.mk (Kd.R_lower ho0 (P1.out _ ST.out).size)
      have HV1 := Aside0.mk (Kd.S_mono (ok' := fun _ => True) (Kd.S_lower ho1 (P1.out _ ST.out).size) (fun _ _ => trivial))
      clear hb ho0 ho1 HX0 HX1 HX2
      clear ST SN HA
      have ST := ST_
      have SN := SN_
      have HA := HA_
      clear ST_ SN_ HA_
      refine hK.out _ _ ⟨(blk_cell (P2.out _ ST.out) 0).trans rfl, (blk_cell (P2.out _ ST.out) 1).trans rfl, (blk_cell (P3.out _ ST.out) 0).trans rfl, (blk_cell (P3.out _ ST.out) 1).trans rfl⟩ (fun hHeld => ?_)
      clear hK K
      refine norm_ (a' := ?_) ?_ ?_
      rotate_left
      ·show Act.put _ (some 32) _ = _
       simp only [Act.put, qa_, qz_, qs_, i64_w, i32_w]
       rfl
      refine pure_ (i := 5) (N := some 27) (v := ?_) (a' := ?_) p11_19014 rfl rfl (by kernel_rfl) (fun _ _ _ h => h) (Or.inl ⟨by rfl, ?_⟩) ?_ ?_
      rotate_left
      ·intro w'
       go_simp
       with_reducible rfl
      rotate_left
      ·simp only [Act.put, qa_, qz_, qs_, i64_w, i32_w]
       rfl
      refine pure_ (i := 6) (N := some 33) (v := ?_) (a' := ?_) p11_19015 rfl rfl (by kernel_rfl) (fun _ _ _ h => h) (Or.inl ⟨by rfl, ?_⟩) ?_ ?_
      rotate_left
      ·intro w'
       go_simp
       with_reducible rfl
      rotate_left
      ·simp only [Act.put, qa_, qz_, qs_, i64_w, i32_w]
       rfl
      refine pure_ (i := 7) (N := some 34) (v := ?_) (a' := ?_) p11_19003 rfl rfl (by kernel_rfl) (fun _ _ _ h => h) (Or.inl ⟨by rfl, ?_⟩) ?_ ?_
      rotate_left
      ·intro w'
       go_simp
       with_reducible rfl
      rotate_left
      ·simp only [Act.put, qa_, qz_, qs_, i64_w, i32_w]
       rfl
      exact norm_ (by simp only [putAll, Act.put, qa_, qz_, qs_]) (hCont (.slice Ar0 x0_0.length cr0, .slice Ar1 x0_1.length cr1, .slice Ar2 x1_1.length cr2, v0, v1, gA) _ ⟨hHeld, ST.out, HV0.out, HV1.out, HA.out, NA.out⟩)
    ·skip
     refine box_step ?hg (N := 6) ?hd (cs := #[.slice none 0 0, .slice none 0 0]) (t := 32) ?hr ?_; (case hd => rfl); (case hg => rfl); (case hr => first | (go_simp; done) | (go_simp; rfl))
     intro gA hgA w15 hbox hb
     have NA := Aside0.mk (show N0 ≤ gA by rw [hgA]; exact SN.out)
     have ST_ := Aside0.mk (KP.out _ _ ST.out hb)
     have SN_ := Aside0.mk (Nat.le_trans SN.out hb.size)
     have HA := Aside0.mk hbox
     clear hb hbox hgA
     clear ST SN
     have ST := ST_
     have SN := SN_
     clear ST_ SN_
     refine hK.out _ _ ⟨(blk_cell (P2.out _ ST.out) 0).trans rfl, (blk_cell (P2.out _ ST.out) 1).trans rfl, (blk_cell (P3.out _ ST.out) 0).trans rfl, (blk_cell (P3.out _ ST.out) 1).trans rfl⟩ (fun hHeld => ?_)
     clear hK K
     refine norm_ (a' := ?_) ?_ ?_
     rotate_left
     ·show Act.put _ (some 6) _ = _
      simp only [Act.put, qa_, qz_, qs_, i64_w, i32_w]
      rfl
     refine one_ (i := 1) (N := some 29) p11_19007 rfl rfl (by kernel_rfl) (by decide) (fun K hK => ?_)
     refine goes_ Try.func7 (by kernel_rfl) rfl #[.agg #[.slice A0_0 l0_0.length c0_0, .slice A0_1 l0_1.length c0_1]] (by rfl) rfl rfl (by (try simp only [List.map_toArray, List.map_cons, List.map_nil]); first | done | rfl | (simp only [List.length_drop, List.length_take]; rfl)) ?_
     refine (laws_toGround.calls k A0_0 c0_0 l0_0 A0_1 c0_1 l0_1 x0_0 x0_1 _ (Kd.C_below HR0_0.out (P1.out _ ST.out)) HC0_0.out (Kd.C_below HR0_1.out (P1.out _ ST.out)) HC0_1.out BT0.out).mono ?_
     rintro e w16 ⟨vx0, vx1, rfl, ho0, ho1, hb⟩
     refine ⟨_, rfl, ?_⟩
     have ST_ := Aside0.mk (KP.out _ _ ST.out hb)
     have SN_ := Aside0.mk (Nat.le_trans SN.out hb.size)
     have HA_ := Aside0.mk (blk_below HA.out hb)
     have HX0 := Aside0.mk ho0
     have HX1 := Aside0.mk ho1
     clear hb ho0 ho1
     clear ST SN HA
     have ST := ST_
     have SN := SN_
     have HA := HA_
     clear ST_ SN_ HA_
     refine hK.out _ _ ⟨(blk_cell (P2.out _ ST.out) 0).trans rfl, (blk_cell (P2.out _ ST.out) 1).trans rfl, (blk_cell (P3.out _ ST.out) 0).trans rfl, (blk_cell (P3.out _ ST.out) 1).trans rfl⟩ (fun hHeld => ?_)
     clear hK K
     refine norm_ (a' := ?_) ?_ ?_
     rotate_left
     ·show Act.put _ (some 29) _ = _
      simp only [Act.put, qa_, qz_, qs_, i64_w, i32_w]
      rfl
     refine one_ (i := 3) (N := some 31) p11_19009 rfl rfl (by kernel_rfl) (by decide) (fun K hK => ?_)
     refine goes_ Try.func8 (by kernel_rfl) rfl #[.agg #[.int .i64 a1_0, .slice A1_1 l1_1.length c1_1]] (by rfl) rfl rfl (by (try simp only [List.map_toArray, List.map_cons, List.map_nil]); first | done | rfl | (simp only [List.length_drop, List.length_take]; rfl)) ?_
     refine (laws_toHole.calls k a1_0 A1_1 c1_1 l1_1 x1_0 x1_1 _ (Kd.C_below HR1_1.out (P1.out _ ST.out)) HC1_1.out BT1.out).mono ?_
     rintro e w17 ⟨vx2, rfl, ho0, hb⟩
     refine ⟨_, rfl, ?_⟩
     have ST_ := Aside0.mk (KP.out _ _ ST.out hb)
     have SN_ := Aside0.mk (Nat.le_trans SN.out hb.size)
     have HX0_ := Aside0.mk (Kd.R_below HX0.out hb)
     have HX1_ := Aside0.mk (Kd.S_below HX1.out hb)
     have HA_ := Aside0.mk (blk_below HA.out hb)
     have HX2 := Aside0.mk ho0
     clear hb ho0
     clear ST SN HX0 HX1 HA
     have ST := ST_
     have SN := SN_
     have HX0 := HX0_
     have HX1 := HX1_
     have HA := HA_
     clear ST_ SN_ HX0_ HX1_ HA_
     refine hK.out _ _ ⟨(blk_cell (P2.out _ ST.out) 0).trans rfl, (blk_cell (P2.out _ ST.out) 1).trans rfl, (blk_cell (P3.out _ ST.out) 0).trans rfl, (blk_cell (P3.out _ ST.out) 1).trans rfl⟩ (fun hHeld => ?_)
     clear hK K
     refine norm_ (a' := ?_) ?_ ?_
     rotate_left
     ·show Act.put _ (some 31) _ = _
      simp only [Act.put, qa_, qz_, qs_, i64_w, i32_w]
      rfl
     refine one_ (i := 4) (N := some 32) p11_19013 rfl rfl (by kernel_rfl) (by decide) (fun K hK => ?_)
     obtain ⟨Ar0, cr0, er0⟩ := Kd.R_slice HX0.out
     subst er0
     obtain ⟨Ar1, cr1, er1⟩ := Kd.S_slice HX1.out
     subst er1
     obtain ⟨Ar2, cr2, er2⟩ := Kd.R_slice HX2.out
     subst er2
     refine goes_ Try.func6 (by kernel_rfl) rfl #[.agg #[.slice Ar0 x0_0.length cr0, .slice Ar1 x0_1.length cr1], .agg #[.int .i64 x1_0, .slice Ar2 x1_1.length cr2]] (by rfl) rfl rfl (by (try simp only [List.map_toArray, List.map_cons, List.map_nil]); first | done | rfl | (simp only [List.length_drop, List.length_take]; rfl)) ?_
     refine (spec_AddHole.calls k Ar0 cr0 x0_0 Ar1 cr1 x0_1 x1_0 Ar2 cr2 x1_1 s0 s1 s2 _ (Kd.R_reads' HX0.out).2.2 (Kd.R_reads' HX0.out).2.1 (Kd.S_reads' HX1.out).2.2 (Kd.S_reads' HX1.out).2.1 (Kd.R_reads' HX2.out).2.2 (Kd.R_reads' HX2.out).2.1 BW.out).mono ?_
     rintro e w18 ⟨v0, v1, rfl, ho0, ho1, hb⟩
     refine ⟨_, rfl, ?_⟩
     have ST_ := Aside0.mk (KP.out _ _ ST.out hb)
     have SN_ := Aside0.mk (Nat.le_trans SN.out hb.size)
     have HA_ := Aside0.mk (blk_below HA.out hb)
     have HV0 := Aside0.mk (Kd.R_lower ho0 (P1.out _ ST.out).size)
     have HV1 := Aside0.mk (Kd.S_mono (ok' := fun _ => True) (Kd.S_lower ho1 (P1.out _ ST.out).size) (fun _ _ => trivial))
     clear hb ho0 ho1 HX0 HX1 HX2
     clear ST SN HA
     have ST := ST_
     have SN := SN_
     have HA := HA_
     clear ST_ SN_ HA_
     refine hK.out _ _ ⟨(blk_cell (P2.out _ ST.out) 0).trans rfl, (blk_cell (P2.out _ ST.out) 1).trans rfl, (blk_cell (P3.out _ ST.out) 0).trans rfl, (blk_cell (P3.out _ ST.out) 1).trans rfl⟩ (fun hHeld => ?_)
     clear hK K
     refine norm_ (a' := ?_) ?_ ?_
     rotate_left
     ·show Act.put _ (some 32) _ = _
      simp only [Act.put, qa_, qz_, qs_, i64_w, i32_w]
      rfl
     refine pure_ (i := 5) (N := some 27) (v := ?_) (a' := ?_) p11_19014 rfl rfl (by kernel_rfl) (fun _ _ _ h => h) (Or.inl ⟨by rfl, ?_⟩) ?_ ?_
     rotate_left
     ·intro w'
      go_simp
      with_reducible rfl
     rotate_left
     ·simp only [Act.put, qa_, qz_, qs_, i64_w, i32_w]
      rfl
     refine pure_ (i := 6) (N := some 33) (v := ?_) (a' := ?_) p11_19015 rfl rfl (by kernel_rfl) (fun _ _ _ h => h) (Or.inl ⟨by rfl, ?_⟩) ?_ ?_
     rotate_left
     ·intro w'
      go_simp
      with_reducible rfl
     rotate_left
     ·simp only [Act.put, qa_, qz_, qs_, i64_w, i32_w]
      rfl
     refine pure_ (i := 7) (N := some 34) (v := ?_) (a' := ?_) p11_19003 rfl rfl (by kernel_rfl) (fun _ _ _ h => h) (Or.inl ⟨by rfl, ?_⟩) ?_ ?_
     rotate_left
     ·intro w'
      go_simp
      with_reducible rfl
     rotate_left
     ·simp only [Act.put, qa_, qz_, qs_, i64_w, i32_w]
      rfl
     exact norm_ (by simp only [putAll, Act.put, qa_, qz_, qs_]) (hCont (.slice Ar0 x0_0.length cr0, .slice Ar1 x0_1.length cr1, .slice Ar2 x1_1.length cr2, v0, v1, gA) _ ⟨hHeld, ST.out, HV0.out, HV1.out, HA.out, NA.out⟩)
   rintro ⟨vx0, vx1, vx2, v0, v1, gs⟩ w19 ⟨hHeld, hst, hv0, hv1, ha, hna⟩
   dsimp only at hst hv0 hv1 ha hna
   rw [HPQ.out] at hst
   obtain ⟨hb_, hb_BA0, hb_BA1⟩ := hst
   have HB := Aside0.mk hb_
   have BA0 := Aside0.mk hb_BA0
   have BA1 := Aside0.mk hb_BA1
   have HV0 := Aside0.mk hv0
   have HV1 := Aside0.mk hv1
   have HA := Aside0.mk ha
   have NA := Aside0.mk hna
   clear hb_ hv0 hv1 ha hna ST SN KP P1 P2 P3 HPQ hb_BA0 hb_BA1
   refine norm_ (a' := ?_) ?_ ?_
   rotate_left
   ·simp only [putAll, Act.put, qa_, qz_, qs_]
    rfl
   obtain ⟨As0, cs0, es0⟩ := Kd.R_slice HV0.out
   subst es0
   obtain ⟨As1, cs1, es1⟩ := Kd.S_slice HV1.out
   subst es1
   refine one_ (i := 9) (N := none) p11_19016 rfl rfl (by kernel_rfl) (by decide) (fun K hK => ?_)
   have hs0 : w19.cell? ⟨gs, 0, none⟩ = some (.slice none 0 0) := (blk_cell HA.out 0).trans rfl
   have hfs0 := blk_frozen HA.out 0
   have hs1 : w19.cell? ⟨gs, 1, none⟩ = some (.slice none 0 0) := (blk_cell HA.out 1).trans rfl
   have hfs1 := blk_frozen HA.out 1
   have hn_BA0 : ga0 ≠ gs := by have h1 := LBA0.out; have h2 := NA.out; omega
   have hn_BA1 : ga1 ≠ gs := by have h1 := LBA1.out; have h2 := NA.out; omega
   refine skip_ (w1 := ?_) (by rfl) rfl ?_ ?_
   rotate_left
   ·go_simp
    rfl
   refine hK.out _ _ ⟨((cell_far (p := ⟨gs, _, none⟩) hn_BA0 _).trans ((cell_far (p := ⟨gs, _, none⟩) hn_BA0 _).trans (hHeld.1))), ((cell_far (p := ⟨gs, _, none⟩) hn_BA0 _).trans ((cell_far (p := ⟨gs, _, none⟩) hn_BA0 _).trans (hHeld.2.1))), ((cell_far (p := ⟨gs, _, none⟩) hn_BA1 _).trans ((cell_far (p := ⟨gs, _, none⟩) hn_BA1 _).trans (hHeld.2.2.1))), ((cell_far (p := ⟨gs, _, none⟩) hn_BA1 _).trans ((cell_far (p := ⟨gs, _, none⟩) hn_BA1 _).trans (hHeld.2.2.2)))⟩ (fun hHeld => ?_)
   clear hK K
   refine pure_ (i := 10) (N := some 7) (v := ?_) (a' := ?_) p11_19017 rfl rfl (by kernel_rfl) (fun _ _ _ h => h) (Or.inl ⟨by rfl, ?_⟩) ?_ ?_
   rotate_left
   ·intro w'
    go_simp
    with_reducible rfl
   rotate_left
   ·simp only [Act.put, qa_, qz_, qs_, i64_w, i32_w]
    rfl
   refine done_ (by kernel_rfl) ?_
   have HB_ := Aside0.mk (show Below w.heap.size w ((w19.setCell ⟨gs, 0, none⟩ (.slice As0 s0.length cs0)).setCell ⟨gs, 1, none⟩ (.slice As1 s1.length cs1)) from below_set (below_set HB.out (by have h1 := LW.out; have h2 := NA.out; omega)) (by have h1 := LW.out; have h2 := NA.out; omega))
   have BA0_ := Aside0.mk (show (World.heap ((w19.setCell ⟨gs, 0, none⟩ (.slice As0 s0.length cs0)).setCell ⟨gs, 1, none⟩ (.slice As1 s1.length cs1)))[ga0]? = some (.cells #[.slice A0_0 l0_0.length c0_0, .slice A0_1 l0_1.length c0_1] 25 (0, 0)) from blk_far (blk_far BA0.out hn_BA0 _) hn_BA0 _)
   have BA1_ := Aside0.mk (show (World.heap ((w19.setCell ⟨gs, 0, none⟩ (.slice As0 s0.length cs0)).setCell ⟨gs, 1, none⟩ (.slice As1 s1.length cs1)))[ga1]? = some (.cells #[.int .i64 a1_0, .slice A1_1 l1_1.length c1_1] 27 (0, 0)) from blk_far (blk_far BA1.out hn_BA1 _) hn_BA1 _)
   have HS0_ := Aside0.mk (show Kd.R (Kd.int .i64) 2  ((w19.setCell ⟨gs, 0, none⟩ (.slice As0 s0.length cs0)).setCell ⟨gs, 1, none⟩ (.slice As1 s1.length cs1)) w.heap.size (fun _ => True) (.slice As0 s0.length cs0) s0 from Kd.R_mono (Kd.R_far (p := ⟨gs, 1, none⟩) (Kd.R_far (p := ⟨gs, 0, none⟩) (Kd.R_types HV0.out HA.out (by decide)) (fun _ hk => hk.2) _) (fun _ hk => hk.2) _) (fun _ _ => trivial))
   have HS1_ := Aside0.mk (show Kd.S k36 36  ((w19.setCell ⟨gs, 0, none⟩ (.slice As0 s0.length cs0)).setCell ⟨gs, 1, none⟩ (.slice As1 s1.length cs1)) w.heap.size (fun _ => True) (.slice As1 s1.length cs1) s1 from Kd.S_mono (Kd.S_far (p := ⟨gs, 1, none⟩) (Kd.S_far (p := ⟨gs, 0, none⟩) (Kd.S_types HV1.out HA.out (by decide)) (fun _ hk => hk.2) _) (fun _ hk => hk.2) _) (fun _ _ => trivial))
   have BS_ := Aside0.mk (show (World.heap ((w19.setCell ⟨gs, 0, none⟩ (.slice As0 s0.length cs0)).setCell ⟨gs, 1, none⟩ (.slice As1 s1.length cs1)))[gs]? = some (.cells #[.slice As0 s0.length cs0, .slice As1 s1.length cs1] 32 (0, 0)) from blk_put (cs := #[.slice As0 s0.length cs0, .slice none 0 0]) (blk_put (cs := #[.slice none 0 0, .slice none 0 0]) HA.out 0 (.slice As0 s0.length cs0) rfl) 1 (.slice As1 s1.length cs1) rfl)
   have NBSBA0 := Aside0.mk hn_BA0
   have NBSBA1 := Aside0.mk hn_BA1
   clear HB BA0 BA1
   have HB := HB_
   have BA0 := BA0_
   have BA1 := BA1_
   have BS := BS_
   have HS0 := HS0_
   have HS1 := HS1_
   clear HB_ BA0_ BA1_ BS_ HS0_ HS1_
   clear HV0 HV1 HA NA LW hHeld hs0 hs1 hfs0 hfs1 hn_BA0 hn_BA1 LBA0 LBA1
   obtain ⟨w20, hw_⟩ : ∃ w_, w_ = ((w19.setCell ⟨gs, 0, none⟩ (.slice As0 s0.length cs0)).setCell ⟨gs, 1, none⟩ (.slice As1 s1.length cs1)) := ⟨_, rfl⟩
   rw [← hw_] at HB BA0 BA1 BS HS0 HS1 ⊢
   clear hw_
   have hcBA00 : w20.cell? ⟨ga0, 0, none⟩ = some (.slice A0_0 l0_0.length c0_0) := (blk_cell BA0.out 0).trans rfl
   have hfBA00 := blk_frozen BA0.out 0
   have hcBA01 : w20.cell? ⟨ga0, 1, none⟩ = some (.slice A0_1 l0_1.length c0_1) := (blk_cell BA0.out 1).trans rfl
   have hfBA01 := blk_frozen BA0.out 1
   have hcBA10 : w20.cell? ⟨ga1, 0, none⟩ = some (.int .i64 a1_0) := (blk_cell BA1.out 0).trans rfl
   have hfBA10 := blk_frozen BA1.out 0
   have hcBA11 : w20.cell? ⟨ga1, 1, none⟩ = some (.slice A1_1 l1_1.length c1_1) := (blk_cell BA1.out 1).trans rfl
   have hfBA11 := blk_frozen BA1.out 1
   have hcBS0 : w20.cell? ⟨gs, 0, none⟩ = some (.slice As0 s0.length cs0) := (blk_cell BS.out 0).trans rfl
   have hfBS0 := blk_frozen BS.out 0
   have hcBS1 : w20.cell? ⟨gs, 1, none⟩ = some (.slice As1 s1.length cs1) := (blk_cell BS.out 1).trans rfl
   have hfBS1 := blk_frozen BS.out 1
   have hnBSBA0 := NBSBA0.out
   have hmBSBA0 := NBSBA0.out.symm
   have hnBSBA1 := NBSBA1.out
   have hmBSBA1 := NBSBA1.out.symm
   have HS0_ := Aside0.mk (Kd.R_mono (ok' := fun q => q < w20.heap.size) (Kd.R_bound HS0.out) (fun q hq => hq.2.2.1))
   have HS1_ := Aside0.mk (Kd.S_mono (ok' := fun q => q < w20.heap.size) (Kd.S_bound HS1.out) (fun q hq => hq.2.2.1))
   clear HS0 HS1
   have HS0 := HS0_
   have HS1 := HS1_
   clear HS0_ HS1_
   have HA_ := Aside0.mk HB.out.size
   have HA0 := Aside0.mk (blk_lt BA0.out)
   have HA1 := Aside0.mk (blk_lt BA1.out)
   have N0 := Aside0.mk HB.out.size
   have HABS := Aside0.mk (blk_lt BS.out)
   go_wp2_with (first | (go_at_call 7; (with_reducible refine (laws_toGround.calls k A0_0 c0_0 l0_0 A0_1 c0_1 l0_1 x0_0 x0_1 _ (Kd.C_below HR0_0.out HB.out) HC0_0.out (Kd.C_below HR0_1.out HB.out) HC0_1.out BT0.out).mono ?_); rintro e w21 ⟨v0, v1, rfl, ho0, ho1, hb⟩; have HX0_0 := Aside0.mk ho0; have HX0_1 := Aside0.mk ho1; have Z1 := Aside0.mk (hb.size); have HB_ := Aside0.mk (below_step HB.out hb); have BA0_ := Aside0.mk (blk_below (g := ga0) (o := .cells #[.slice A0_0 l0_0.length c0_0, .slice A0_1 l0_1.length c0_1] 25 (0, 0)) BA0.out hb); have BA1_ := Aside0.mk (blk_below (g := ga1) (o := .cells #[.int .i64 a1_0, .slice A1_1 l1_1.length c1_1] 27 (0, 0)) BA1.out hb); have BS_ := Aside0.mk (blk_below (g := gs) (o := .cells #[.slice As0 s0.length cs0, .slice As1 s1.length cs1] 32 (0, 0)) BS.out hb); have HS0_ := Aside0.mk (Kd.R_below HS0.out hb); have HS1_ := Aside0.mk (Kd.S_below HS1.out hb); clear hb ho0 ho1; clear HB BA0 BA1 BS HS0 HS1; have HB := HB_; have BA0 := BA0_; have BA1 := BA1_; have BS := BS_; have HS0 := HS0_; have HS1 := HS1_; clear HB_ BA0_ BA1_ BS_ HS0_ HS1_; clear hcBA00 hfBA00 hcBA01 hfBA01 hcBA10 hfBA10 hcBA11 hfBA11 hcBS0 hfBS0 hcBS1 hfBS1; have hcBA00 : w21.cell? ⟨ga0, 0, none⟩ = some (.slice A0_0 l0_0.length c0_0) := (blk_cell BA0.out 0).trans rfl; have hfBA00 := blk_frozen BA0.out 0; have hcBA01 : w21.cell? ⟨ga0, 1, none⟩ = some (.slice A0_1 l0_1.length c0_1) := (blk_cell BA0.out 1).trans rfl; have hfBA01 := blk_frozen BA0.out 1; have hcBA10 : w21.cell? ⟨ga1, 0, none⟩ = some (.int .i64 a1_0) := (blk_cell BA1.out 0).trans rfl; have hfBA10 := blk_frozen BA1.out 0; have hcBA11 : w21.cell? ⟨ga1, 1, none⟩ = some (.slice A1_1 l1_1.length c1_1) := (blk_cell BA1.out 1).trans rfl; have hfBA11 := blk_frozen BA1.out 1; have hcBS0 : w21.cell? ⟨gs, 0, none⟩ = some (.slice As0 s0.length cs0) := (blk_cell BS.out 0).trans rfl; have hfBS0 := blk_frozen BS.out 0; have hcBS1 : w21.cell? ⟨gs, 1, none⟩ = some (.slice As1 s1.length cs1) := (blk_cell BS.out 1).trans rfl; have hfBS1 := blk_frozen BS.out 1; obtain ⟨Ax0_0, cx0_0, ex0_0⟩ := Kd.R_slice HX0_0.out; subst ex0_0; obtain ⟨Ax0_1, cx0_1, ex0_1⟩ := Kd.S_slice HX0_1.out; subst ex0_1; have HY0_0 := Aside0.mk (Kd.R_mono (ok' := (fun q => (w20.heap.size ≤ q ∧ q < w21.heap.size) ∧ some q = (.slice Ax0_0 x0_0.length cx0_0 : Value).ownBlock)) (Kd.R_bound (Kd.R_tight2 rfl HX0_0.out)) (fun q hq => ⟨⟨hq.2.1, hq.2.2.1⟩, hq.1.1⟩)); have HY0_1 := Aside0.mk (Kd.S_mono (ok' := (fun q => (w20.heap.size ≤ q ∧ q < w21.heap.size) ∧ some q ≠ (.slice Ax0_0 x0_0.length cx0_0 : Value).ownBlock)) (Kd.S_bound HX0_1.out) (fun q hq => ⟨⟨hq.2.1, hq.2.2.1⟩, hq.1⟩)); clear HX0_0 HX0_1) | ((with_reducible refine gate_dst (N := 8) rfl ?_); refine box_event ?hg (N := 8) ?hd (cs := #[.slice none 0 0, .slice none 0 0]) (t := 32) ?hr ?_; (case hd => rfl); (case hg => rfl); (case hr => first | (go_simp; done) | (go_simp; rfl)); intro gx0 hgx w22 hbox hb; have NX0BA0 := Aside0.mk ((by rw [hgx]; exact Nat.ne_of_lt (blk_lt (g := ga0) (o := .cells #[.slice A0_0 l0_0.length c0_0, .slice A0_1 l0_1.length c0_1] 25 (0, 0)) BA0.out)) : ga0 ≠ gx0); have NX0BA1 := Aside0.mk ((by rw [hgx]; exact Nat.ne_of_lt (blk_lt (g := ga1) (o := .cells #[.int .i64 a1_0, .slice A1_1 l1_1.length c1_1] 27 (0, 0)) BA1.out)) : ga1 ≠ gx0); have NX0BS := Aside0.mk ((by rw [hgx]; exact Nat.ne_of_lt (blk_lt (g := gs) (o := .cells #[.slice As0 s0.length cs0, .slice As1 s1.length cs1] 32 (0, 0)) BS.out)) : gs ≠ gx0); have GX0 := Aside0.mk ((by rw [hgx]; exact Nat.le_refl _) : w21.heap.size ≤ gx0); have GY0 := Aside0.mk ((blk_lt hbox) : gx0 < w22.heap.size); have BX0 := Aside0.mk hbox; have HB_ := Aside0.mk (below_step HB.out hb); have BA0_ := Aside0.mk (blk_below (g := ga0) (o := .cells #[.slice A0_0 l0_0.length c0_0, .slice A0_1 l0_1.length c0_1] 25 (0, 0)) BA0.out hb); have BA1_ := Aside0.mk (blk_below (g := ga1) (o := .cells #[.int .i64 a1_0, .slice A1_1 l1_1.length c1_1] 27 (0, 0)) BA1.out hb); have BS_ := Aside0.mk (blk_below (g := gs) (o := .cells #[.slice As0 s0.length cs0, .slice As1 s1.length cs1] 32 (0, 0)) BS.out hb); have HS0_ := Aside0.mk (Kd.R_below HS0.out hb); have HS1_ := Aside0.mk (Kd.S_below HS1.out hb); have HY0_0_ := Aside0.mk (Kd.R_below HY0_0.out hb); have HY0_1_ := Aside0.mk (Kd.S_below HY0_1.out hb); clear hb hbox hgx; clear HB BA0 BA1 BS HS0 HS1 HY0_0 HY0_1; have HB := HB_; have BA0 := BA0_; have BA1 := BA1_; have BS := BS_; have HS0 := HS0_; have HS1 := HS1_; have HY0_0 := HY0_0_; have HY0_1 := HY0_1_; clear HB_ BA0_ BA1_ BS_ HS0_ HS1_ HY0_0_ HY0_1_; clear hcBA00 hfBA00 hcBA01 hfBA01 hcBA10 hfBA10 hcBA11 hfBA11 hcBS0 hfBS0 hcBS1 hfBS1; have hcBA00 : w22.cell? ⟨ga0, 0, none⟩ = some (.slice A0_0 l0_0.length c0_0) := (blk_cell BA0.out 0).trans rfl; have hfBA00 := blk_frozen BA0.out 0; have hcBA01 : w22.cell? ⟨ga0, 1, none⟩ = some (.slice A0_1 l0_1.length c0_1) := (blk_cell BA0.out 1).trans rfl; have hfBA01 := blk_frozen BA0.out 1; have hcBA10 : w22.cell? ⟨ga1, 0, none⟩ = some (.int .i64 a1_0) := (blk_cell BA1.out 0).trans rfl; have hfBA10 := blk_frozen BA1.out 0; have hcBA11 : w22.cell? ⟨ga1, 1, none⟩ = some (.slice A1_1 l1_1.length c1_1) := (blk_cell BA1.out 1).trans rfl; have hfBA11 := blk_frozen BA1.out 1; have hcBS0 : w22.cell? ⟨gs, 0, none⟩ = some (.slice As0 s0.length cs0) := (blk_cell BS.out 0).trans rfl; have hfBS0 := blk_frozen BS.out 0; have hcBS1 : w22.cell? ⟨gs, 1, none⟩ = some (.slice As1 s1.length cs1) := (blk_cell BS.out 1).trans rfl; have hfBS1 := blk_frozen BS.out 1; have hcBX00 : w22.cell? ⟨gx0, 0, none⟩ = some (.slice none 0 0) := (blk_cell BX0.out 0).trans rfl; have hfBX00 := blk_frozen BX0.out 0; have hcBX01 : w22.cell? ⟨gx0, 1, none⟩ = some (.slice none 0 0) := (blk_cell BX0.out 1).trans rfl; have hfBX01 := blk_frozen BX0.out 1; have hn0BA0 := NX0BA0.out; have hn0BA1 := NX0BA1.out; have hn0BS := NX0BS.out; have hm0BA0 := NX0BA0.out.symm; have hm0BA1 := NX0BA1.out.symm; have hm0BS := NX0BS.out.symm))
   have HB_ : Aside0 (Below w.heap.size w ((w22.setCell ⟨gx0, 0, none⟩ (.slice Ax0_0 x0_0.length cx0_0)).setCell ⟨gx0, 1, none⟩ (.slice Ax0_1 x0_1.length cx0_1))) := Aside0.mk (below_set (j := 1) (v := .slice Ax0_1 x0_1.length cx0_1) (below_set (j := 0) (v := .slice Ax0_0 x0_0.length cx0_0) HB.out (by have z0_ := HA0.out; have z1_ := HA1.out; have z2_ := HABS.out; have z3_ := Z1.out; have z4_ := GX0.out; have z5_ := GY0.out; have z6_ := N0.out; omega)) (by have z0_ := HA0.out; have z1_ := HA1.out; have z2_ := HABS.out; have z3_ := Z1.out; have z4_ := GX0.out; have z5_ := GY0.out; have z6_ := N0.out; omega))
   have BA0_ := Aside0.mk (show (World.heap ((w22.setCell ⟨gx0, 0, none⟩ (.slice Ax0_0 x0_0.length cx0_0)).setCell ⟨gx0, 1, none⟩ (.slice Ax0_1 x0_1.length cx0_1)))[ga0]? = some (.cells #[.slice A0_0 l0_0.length c0_0, .slice A0_1 l0_1.length c0_1] 25 (0, 0)) from (blk_far (blk_far BA0.out NX0BA0.out (.slice Ax0_0 x0_0.length cx0_0)) NX0BA0.out (.slice Ax0_1 x0_1.length cx0_1)))
   have BA1_ := Aside0.mk (show (World.heap ((w22.setCell ⟨gx0, 0, none⟩ (.slice Ax0_0 x0_0.length cx0_0)).setCell ⟨gx0, 1, none⟩ (.slice Ax0_1 x0_1.length cx0_1)))[ga1]? = some (.cells #[.int .i64 a1_0, .slice A1_1 l1_1.length c1_1] 27 (0, 0)) from (blk_far (blk_far BA1.out NX0BA1.out (.slice Ax0_0 x0_0.length cx0_0)) NX0BA1.out (.slice Ax0_1 x0_1.length cx0_1)))
   have BS_ := Aside0.mk (show (World.heap ((w22.setCell ⟨gx0, 0, none⟩ (.slice Ax0_0 x0_0.length cx0_0)).setCell ⟨gx0, 1, none⟩ (.slice Ax0_1 x0_1.length cx0_1)))[gs]? = some (.cells #[.slice As0 s0.length cs0, .slice As1 s1.length cs1] 32 (0, 0)) from (blk_far (blk_far BS.out NX0BS.out (.slice Ax0_0 x0_0.length cx0_0)) NX0BS.out (.slice Ax0_1 x0_1.length cx0_1)))
   have BX0_ := Aside0.mk (show (World.heap ((w22.setCell ⟨gx0, 0, none⟩ (.slice Ax0_0 x0_0.length cx0_0)).setCell ⟨gx0, 1, none⟩ (.slice Ax0_1 x0_1.length cx0_1)))[gx0]? = some (.cells #[.slice Ax0_0 x0_0.length cx0_0, .slice Ax0_1 x0_1.length cx0_1] 32 (0, 0)) from (blk_put (g := gx0) (cs := #[.slice Ax0_0 x0_0.length cx0_0, .slice none 0 0]) (blk_put (g := gx0) (cs := #[.slice none 0 0, .slice none 0 0]) BX0.out 0 (.slice Ax0_0 x0_0.length cx0_0) rfl) 1 (.slice Ax0_1 x0_1.length cx0_1) rfl))
   have HS0_ := Aside0.mk (Kd.R_far (p := ⟨gx0, 1, none⟩) (Kd.R_far (p := ⟨gx0, 0, none⟩) HS0.out (fun q hq => Nat.ne_of_lt (Nat.lt_of_lt_of_le hq (show w20.heap.size ≤ gx0 from by have z0_ := HA0.out; have z1_ := HA1.out; have z2_ := HABS.out; have z3_ := Z1.out; have z4_ := GX0.out; have z5_ := GY0.out; have z6_ := N0.out; omega))) (.slice Ax0_0 x0_0.length cx0_0)) (fun q hq => Nat.ne_of_lt (Nat.lt_of_lt_of_le hq (show w20.heap.size ≤ gx0 from by have z0_ := HA0.out; have z1_ := HA1.out; have z2_ := HABS.out; have z3_ := Z1.out; have z4_ := GX0.out; have z5_ := GY0.out; have z6_ := N0.out; omega))) (.slice Ax0_1 x0_1.length cx0_1))
   have HS1_ := Aside0.mk (Kd.S_far (p := ⟨gx0, 1, none⟩) (Kd.S_far (p := ⟨gx0, 0, none⟩) HS1.out (fun q hq => Nat.ne_of_lt (Nat.lt_of_lt_of_le hq (show w20.heap.size ≤ gx0 from by have z0_ := HA0.out; have z1_ := HA1.out; have z2_ := HABS.out; have z3_ := Z1.out; have z4_ := GX0.out; have z5_ := GY0.out; have z6_ := N0.out; omega))) (.slice Ax0_0 x0_0.length cx0_0)) (fun q hq => Nat.ne_of_lt (Nat.lt_of_lt_of_le hq (show w20.heap.size ≤ gx0 from by have z0_ := HA0.out; have z1_ := HA1.out; have z2_ := HABS.out; have z3_ := Z1.out; have z4_ := GX0.out; have z5_ := GY0.out; have z6_ := N0.out; omega))) (.slice Ax0_1 x0_1.length cx0_1))
   have HY0_0_ := Aside0.mk (Kd.R_far (p := ⟨gx0, 1, none⟩) (Kd.R_far (p := ⟨gx0, 0, none⟩) HY0_0.out (fun q hq => Nat.ne_of_lt (Nat.lt_of_lt_of_le hq.1.2 (show w21.heap.size ≤ gx0 from by have z0_ := HA0.out; have z1_ := HA1.out; have z2_ := HABS.out; have z3_ := Z1.out; have z4_ := GX0.out; have z5_ := GY0.out; have z6_ := N0.out; omega))) (.slice Ax0_0 x0_0.length cx0_0)) (fun q hq => Nat.ne_of_lt (Nat.lt_of_lt_of_le hq.1.2 (show w21.heap.size ≤ gx0 from by have z0_ := HA0.out; have z1_ := HA1.out; have z2_ := HABS.out; have z3_ := Z1.out; have z4_ := GX0.out; have z5_ := GY0.out; have z6_ := N0.out; omega))) (.slice Ax0_1 x0_1.length cx0_1))
   have HY0_1_ := Aside0.mk (Kd.S_far (p := ⟨gx0, 1, none⟩) (Kd.S_far (p := ⟨gx0, 0, none⟩) HY0_1.out (fun q hq => Nat.ne_of_lt (Nat.lt_of_lt_of_le hq.1.2 (show w21.heap.size ≤ gx0 from by have z0_ := HA0.out; have z1_ := HA1.out; have z2_ := HABS.out; have z3_ := Z1.out; have z4_ := GX0.out; have z5_ := GY0.out; have z6_ := N0.out; omega))) (.slice Ax0_0 x0_0.length cx0_0)) (fun q hq => Nat.ne_of_lt (Nat.lt_of_lt_of_le hq.1.2 (show w21.heap.size ≤ gx0 from by have z0_ := HA0.out; have z1_ := HA1.out; have z2_ := HABS.out; have z3_ := Z1.out; have z4_ := GX0.out; have z5_ := GY0.out; have z6_ := N0.out; omega))) (.slice Ax0_1 x0_1.length cx0_1))
   clear HB BA0 BA1 BS BX0 HS0 HS1 HY0_0 HY0_1
   have HB := HB_
   have BA0 := BA0_
   have BA1 := BA1_
   have BS := BS_
   have BX0 := BX0_
   have HS0 := HS0_
   have HS1 := HS1_
   have HY0_0 := HY0_0_
   have HY0_1 := HY0_1_
   clear HB_ BA0_ BA1_ BS_ BX0_ HS0_ HS1_ HY0_0_ HY0_1_
   clear hcBA00 hfBA00 hcBA01 hfBA01 hcBA10 hfBA10 hcBA11 hfBA11 hcBS0 hfBS0 hcBS1 hfBS1 hcBX00 hfBX00 hcBX01 hfBX01
   obtain ⟨w23, hw_⟩ : ∃ w_, w_ = ((w22.setCell ⟨gx0, 0, none⟩ (.slice Ax0_0 x0_0.length cx0_0)).setCell ⟨gx0, 1, none⟩ (.slice Ax0_1 x0_1.length cx0_1)) := ⟨_, rfl⟩
   rw [← hw_] at HB BA0 BA1 BS BX0 HS0 HS1 HY0_0 HY0_1 ⊢
   have Z2 := Aside0.mk ((by rw [hw_]; simp) : w22.heap.size ≤ w23.heap.size)
   clear hw_
   have hcBA00 : w23.cell? ⟨ga0, 0, none⟩ = some (.slice A0_0 l0_0.length c0_0) := (blk_cell BA0.out 0).trans rfl
   have hfBA00 := blk_frozen BA0.out 0
   have hcBA01 : w23.cell? ⟨ga0, 1, none⟩ = some (.slice A0_1 l0_1.length c0_1) := (blk_cell BA0.out 1).trans rfl
   have hfBA01 := blk_frozen BA0.out 1
   have hcBA10 : w23.cell? ⟨ga1, 0, none⟩ = some (.int .i64 a1_0) := (blk_cell BA1.out 0).trans rfl
   have hfBA10 := blk_frozen BA1.out 0
   have hcBA11 : w23.cell? ⟨ga1, 1, none⟩ = some (.slice A1_1 l1_1.length c1_1) := (blk_cell BA1.out 1).trans rfl
   have hfBA11 := blk_frozen BA1.out 1
   have hcBS0 : w23.cell? ⟨gs, 0, none⟩ = some (.slice As0 s0.length cs0) := (blk_cell BS.out 0).trans rfl
   have hfBS0 := blk_frozen BS.out 0
   have hcBS1 : w23.cell? ⟨gs, 1, none⟩ = some (.slice As1 s1.length cs1) := (blk_cell BS.out 1).trans rfl
   have hfBS1 := blk_frozen BS.out 1
   have hcBX00 : w23.cell? ⟨gx0, 0, none⟩ = some (.slice Ax0_0 x0_0.length cx0_0) := (blk_cell BX0.out 0).trans rfl
   have hfBX00 := blk_frozen BX0.out 0
   have hcBX01 : w23.cell? ⟨gx0, 1, none⟩ = some (.slice Ax0_1 x0_1.length cx0_1) := (blk_cell BX0.out 1).trans rfl
   have hfBX01 := blk_frozen BX0.out 1
   go_wp2_with (first | (go_at_call 8; (with_reducible refine (laws_toHole.calls k a1_0 A1_1 c1_1 l1_1 x1_0 x1_1 _ (Kd.C_below HR1_1.out HB.out) HC1_1.out BT1.out).mono ?_); rintro e w24 ⟨v0, rfl, ho0, hb⟩; have HX1_1 := Aside0.mk ho0; have Z3 := Aside0.mk (hb.size); have HB_ := Aside0.mk (below_step HB.out hb); have BA0_ := Aside0.mk (blk_below (g := ga0) (o := .cells #[.slice A0_0 l0_0.length c0_0, .slice A0_1 l0_1.length c0_1] 25 (0, 0)) BA0.out hb); have BA1_ := Aside0.mk (blk_below (g := ga1) (o := .cells #[.int .i64 a1_0, .slice A1_1 l1_1.length c1_1] 27 (0, 0)) BA1.out hb); have BS_ := Aside0.mk (blk_below (g := gs) (o := .cells #[.slice As0 s0.length cs0, .slice As1 s1.length cs1] 32 (0, 0)) BS.out hb); have BX0_ := Aside0.mk (blk_below (g := gx0) (o := .cells #[.slice Ax0_0 x0_0.length cx0_0, .slice Ax0_1 x0_1.length cx0_1] 32 (0, 0)) BX0.out hb); have HS0_ := Aside0.mk (Kd.R_below HS0.out hb); have HS1_ := Aside0.mk (Kd.S_below HS1.out hb); have HY0_0_ := Aside0.mk (Kd.R_below HY0_0.out hb); have HY0_1_ := Aside0.mk (Kd.S_below HY0_1.out hb); clear hb ho0; clear HB BA0 BA1 BS BX0 HS0 HS1 HY0_0 HY0_1; have HB := HB_; have BA0 := BA0_; have BA1 := BA1_; have BS := BS_; have BX0 := BX0_; have HS0 := HS0_; have HS1 := HS1_; have HY0_0 := HY0_0_; have HY0_1 := HY0_1_; clear HB_ BA0_ BA1_ BS_ BX0_ HS0_ HS1_ HY0_0_ HY0_1_; clear hcBA00 hfBA00 hcBA01 hfBA01 hcBA10 hfBA10 hcBA11 hfBA11 hcBS0 hfBS0 hcBS1 hfBS1 hcBX00 hfBX00 hcBX01 hfBX01; have hcBA00 : w24.cell? ⟨ga0, 0, none⟩ = some (.slice A0_0 l0_0.length c0_0) := (blk_cell BA0.out 0).trans rfl; have hfBA00 := blk_frozen BA0.out 0; have hcBA01 : w24.cell? ⟨ga0, 1, none⟩ = some (.slice A0_1 l0_1.length c0_1) := (blk_cell BA0.out 1).trans rfl; have hfBA01 := blk_frozen BA0.out 1; have hcBA10 : w24.cell? ⟨ga1, 0, none⟩ = some (.int .i64 a1_0) := (blk_cell BA1.out 0).trans rfl; have hfBA10 := blk_frozen BA1.out 0; have hcBA11 : w24.cell? ⟨ga1, 1, none⟩ = some (.slice A1_1 l1_1.length c1_1) := (blk_cell BA1.out 1).trans rfl; have hfBA11 := blk_frozen BA1.out 1; have hcBS0 : w24.cell? ⟨gs, 0, none⟩ = some (.slice As0 s0.length cs0) := (blk_cell BS.out 0).trans rfl; have hfBS0 := blk_frozen BS.out 0; have hcBS1 : w24.cell? ⟨gs, 1, none⟩ = some (.slice As1 s1.length cs1) := (blk_cell BS.out 1).trans rfl; have hfBS1 := blk_frozen BS.out 1; have hcBX00 : w24.cell? ⟨gx0, 0, none⟩ = some (.slice Ax0_0 x0_0.length cx0_0) := (blk_cell BX0.out 0).trans rfl; have hfBX00 := blk_frozen BX0.out 0; have hcBX01 : w24.cell? ⟨gx0, 1, none⟩ = some (.slice Ax0_1 x0_1.length cx0_1) := (blk_cell BX0.out 1).trans rfl; have hfBX01 := blk_frozen BX0.out 1; obtain ⟨Ax1_1, cx1_1, ex1_1⟩ := Kd.R_slice HX1_1.out; subst ex1_1; have HY1_1 := Aside0.mk (Kd.R_mono (ok' := (fun q => (w23.heap.size ≤ q ∧ q < w24.heap.size) ∧ True)) (Kd.R_bound HX1_1.out) (fun q hq => ⟨⟨hq.2.1, hq.2.2.1⟩, trivial⟩)); clear HX1_1) | ((with_reducible refine gate_dst (N := 9) rfl ?_); refine box_event ?hg (N := 9) ?hd (cs := #[.int .i64 0, .slice none 0 0]) (t := 36) ?hr ?_; (case hd => rfl); (case hg => rfl); (case hr => first | (go_simp; done) | (go_simp; rfl)); intro gx1 hgx w25 hbox hb; have NX1BA0 := Aside0.mk ((by rw [hgx]; exact Nat.ne_of_lt (blk_lt (g := ga0) (o := .cells #[.slice A0_0 l0_0.length c0_0, .slice A0_1 l0_1.length c0_1] 25 (0, 0)) BA0.out)) : ga0 ≠ gx1); have NX1BA1 := Aside0.mk ((by rw [hgx]; exact Nat.ne_of_lt (blk_lt (g := ga1) (o := .cells #[.int .i64 a1_0, .slice A1_1 l1_1.length c1_1] 27 (0, 0)) BA1.out)) : ga1 ≠ gx1); have NX1BS := Aside0.mk ((by rw [hgx]; exact Nat.ne_of_lt (blk_lt (g := gs) (o := .cells #[.slice As0 s0.length cs0, .slice As1 s1.length cs1] 32 (0, 0)) BS.out)) : gs ≠ gx1); have NX1BX0 := Aside0.mk ((by rw [hgx]; exact Nat.ne_of_lt (blk_lt (g := gx0) (o := .cells #[.slice Ax0_0 x0_0.length cx0_0, .slice Ax0_1 x0_1.length cx0_1] 32 (0, 0)) BX0.out)) : gx0 ≠ gx1); have GX1 := Aside0.mk ((by rw [hgx]; exact Nat.le_refl _) : w24.heap.size ≤ gx1); have GY1 := Aside0.mk ((blk_lt hbox) : gx1 < w25.heap.size); have BX1 := Aside0.mk hbox; have HB_ := Aside0.mk (below_step HB.out hb); have BA0_ := Aside0.mk (blk_below (g := ga0) (o := .cells #[.slice A0_0 l0_0.length c0_0, .slice A0_1 l0_1.length c0_1] 25 (0, 0)) BA0.out hb); have BA1_ := Aside0.mk (blk_below (g := ga1) (o := .cells #[.int .i64 a1_0, .slice A1_1 l1_1.length c1_1] 27 (0, 0)) BA1.out hb); have BS_ := Aside0.mk (blk_below (g := gs) (o := .cells #[.slice As0 s0.length cs0, .slice As1 s1.length cs1] 32 (0, 0)) BS.out hb); have BX0_ := Aside0.mk (blk_below (g := gx0) (o := .cells #[.slice Ax0_0 x0_0.length cx0_0, .slice Ax0_1 x0_1.length cx0_1] 32 (0, 0)) BX0.out hb); have HS0_ := Aside0.mk (Kd.R_below HS0.out hb); have HS1_ := Aside0.mk (Kd.S_below HS1.out hb); have HY0_0_ := Aside0.mk (Kd.R_below HY0_0.out hb); have HY0_1_ := Aside0.mk (Kd.S_below HY0_1.out hb); have HY1_1_ := Aside0.mk (Kd.R_below HY1_1.out hb); clear hb hbox hgx; clear HB BA0 BA1 BS BX0 HS0 HS1 HY0_0 HY0_1 HY1_1; have HB := HB_; have BA0 := BA0_; have BA1 := BA1_; have BS := BS_; have BX0 := BX0_; have HS0 := HS0_; have HS1 := HS1_; have HY0_0 := HY0_0_; have HY0_1 := HY0_1_; have HY1_1 := HY1_1_; clear HB_ BA0_ BA1_ BS_ BX0_ HS0_ HS1_ HY0_0_ HY0_1_ HY1_1_; clear hcBA00 hfBA00 hcBA01 hfBA01 hcBA10 hfBA10 hcBA11 hfBA11 hcBS0 hfBS0 hcBS1 hfBS1 hcBX00 hfBX00 hcBX01 hfBX01; have hcBA00 : w25.cell? ⟨ga0, 0, none⟩ = some (.slice A0_0 l0_0.length c0_0) := (blk_cell BA0.out 0).trans rfl; have hfBA00 := blk_frozen BA0.out 0; have hcBA01 : w25.cell? ⟨ga0, 1, none⟩ = some (.slice A0_1 l0_1.length c0_1) := (blk_cell BA0.out 1).trans rfl; have hfBA01 := blk_frozen BA0.out 1; have hcBA10 : w25.cell? ⟨ga1, 0, none⟩ = some (.int .i64 a1_0) := (blk_cell BA1.out 0).trans rfl; have hfBA10 := blk_frozen BA1.out 0; have hcBA11 : w25.cell? ⟨ga1, 1, none⟩ = some (.slice A1_1 l1_1.length c1_1) := (blk_cell BA1.out 1).trans rfl; have hfBA11 := blk_frozen BA1.out 1; have hcBS0 : w25.cell? ⟨gs, 0, none⟩ = some (.slice As0 s0.length cs0) := (blk_cell BS.out 0).trans rfl; have hfBS0 := blk_frozen BS.out 0; have hcBS1 : w25.cell? ⟨gs, 1, none⟩ = some (.slice As1 s1.length cs1) := (blk_cell BS.out 1).trans rfl; have hfBS1 := blk_frozen BS.out 1; have hcBX00 : w25.cell? ⟨gx0, 0, none⟩ = some (.slice Ax0_0 x0_0.length cx0_0) := (blk_cell BX0.out 0).trans rfl; have hfBX00 := blk_frozen BX0.out 0; have hcBX01 : w25.cell? ⟨gx0, 1, none⟩ = some (.slice Ax0_1 x0_1.length cx0_1) := (blk_cell BX0.out 1).trans rfl; have hfBX01 := blk_frozen BX0.out 1; have hcBX10 : w25.cell? ⟨gx1, 0, none⟩ = some (.int .i64 0) := (blk_cell BX1.out 0).trans rfl; have hfBX10 := blk_frozen BX1.out 0; have hcBX11 : w25.cell? ⟨gx1, 1, none⟩ = some (.slice none 0 0) := (blk_cell BX1.out 1).trans rfl; have hfBX11 := blk_frozen BX1.out 1; have hn1BA0 := NX1BA0.out; have hn1BA1 := NX1BA1.out; have hn1BS := NX1BS.out; have hn1BX0 := NX1BX0.out; have hm1BA0 := NX1BA0.out.symm; have hm1BA1 := NX1BA1.out.symm; have hm1BS := NX1BS.out.symm; have hm1BX0 := NX1BX0.out.symm))
   have HB_ : Aside0 (Below w.heap.size w ((w25.setCell ⟨gx1, 0, none⟩ (.int .i64 x1_0)).setCell ⟨gx1, 1, none⟩ (.slice Ax1_1 x1_1.length cx1_1))) := Aside0.mk (below_set (j := 1) (v := .slice Ax1_1 x1_1.length cx1_1) (below_set (j := 0) (v := .int .i64 x1_0) HB.out (by have z0_ := HA0.out; have z1_ := HA1.out; have z2_ := HABS.out; have z3_ := Z1.out; have z4_ := GX0.out; have z5_ := GY0.out; have z6_ := Z2.out; have z7_ := Z3.out; have z8_ := GX1.out; have z9_ := GY1.out; have z10_ := N0.out; omega)) (by have z0_ := HA0.out; have z1_ := HA1.out; have z2_ := HABS.out; have z3_ := Z1.out; have z4_ := GX0.out; have z5_ := GY0.out; have z6_ := Z2.out; have z7_ := Z3.out; have z8_ := GX1.out; have z9_ := GY1.out; have z10_ := N0.out; omega))
   have BA0_ := Aside0.mk (show (World.heap ((w25.setCell ⟨gx1, 0, none⟩ (.int .i64 x1_0)).setCell ⟨gx1, 1, none⟩ (.slice Ax1_1 x1_1.length cx1_1)))[ga0]? = some (.cells #[.slice A0_0 l0_0.length c0_0, .slice A0_1 l0_1.length c0_1] 25 (0, 0)) from (blk_far (blk_far BA0.out NX1BA0.out (.int .i64 x1_0)) NX1BA0.out (.slice Ax1_1 x1_1.length cx1_1)))
   have BA1_ := Aside0.mk (show (World.heap ((w25.setCell ⟨gx1, 0, none⟩ (.int .i64 x1_0)).setCell ⟨gx1, 1, none⟩ (.slice Ax1_1 x1_1.length cx1_1)))[ga1]? = some (.cells #[.int .i64 a1_0, .slice A1_1 l1_1.length c1_1] 27 (0, 0)) from (blk_far (blk_far BA1.out NX1BA1.out (.int .i64 x1_0)) NX1BA1.out (.slice Ax1_1 x1_1.length cx1_1)))
   have BS_ := Aside0.mk (show (World.heap ((w25.setCell ⟨gx1, 0, none⟩ (.int .i64 x1_0)).setCell ⟨gx1, 1, none⟩ (.slice Ax1_1 x1_1.length cx1_1)))[gs]? = some (.cells #[.slice As0 s0.length cs0, .slice As1 s1.length cs1] 32 (0, 0)) from (blk_far (blk_far BS.out NX1BS.out (.int .i64 x1_0)) NX1BS.out (.slice Ax1_1 x1_1.length cx1_1)))
   have BX0_ := Aside0.mk (show (World.heap ((w25.setCell ⟨gx1, 0, none⟩ (.int .i64 x1_0)).setCell ⟨gx1, 1, none⟩ (.slice Ax1_1 x1_1.length cx1_1)))[gx0]? = some (.cells #[.slice Ax0_0 x0_0.length cx0_0, .slice Ax0_1 x0_1.length cx0_1] 32 (0, 0)) from (blk_far (blk_far BX0.out NX1BX0.out (.int .i64 x1_0)) NX1BX0.out (.slice Ax1_1 x1_1.length cx1_1)))
   have BX1_ := Aside0.mk (show (World.heap ((w25.setCell ⟨gx1, 0, none⟩ (.int .i64 x1_0)).setCell ⟨gx1, 1, none⟩ (.slice Ax1_1 x1_1.length cx1_1)))[gx1]? = some (.cells #[.int .i64 x1_0, .slice Ax1_1 x1_1.length cx1_1] 36 (0, 0)) from (blk_put (g := gx1) (cs := #[.int .i64 x1_0, .slice none 0 0]) (blk_put (g := gx1) (cs := #[.int .i64 0, .slice none 0 0]) BX1.out 0 (.int .i64 x1_0) rfl) 1 (.slice Ax1_1 x1_1.length cx1_1) rfl))
   have HS0_ := Aside0.mk (Kd.R_far (p := ⟨gx1, 1, none⟩) (Kd.R_far (p := ⟨gx1, 0, none⟩) HS0.out (fun q hq => Nat.ne_of_lt (Nat.lt_of_lt_of_le hq (show w20.heap.size ≤ gx1 from by have z0_ := HA0.out; have z1_ := HA1.out; have z2_ := HABS.out; have z3_ := Z1.out; have z4_ := GX0.out; have z5_ := GY0.out; have z6_ := Z2.out; have z7_ := Z3.out; have z8_ := GX1.out; have z9_ := GY1.out; have z10_ := N0.out; omega))) (.int .i64 x1_0)) (fun q hq => Nat.ne_of_lt (Nat.lt_of_lt_of_le hq (show w20.heap.size ≤ gx1 from by have z0_ := HA0.out; have z1_ := HA1.out; have z2_ := HABS.out; have z3_ := Z1.out; have z4_ := GX0.out; have z5_ := GY0.out; have z6_ := Z2.out; have z7_ := Z3.out; have z8_ := GX1.out; have z9_ := GY1.out; have z10_ := N0.out; omega))) (.slice Ax1_1 x1_1.length cx1_1))
   have HS1_ := Aside0.mk (Kd.S_far (p := ⟨gx1, 1, none⟩) (Kd.S_far (p := ⟨gx1, 0, none⟩) HS1.out (fun q hq => Nat.ne_of_lt (Nat.lt_of_lt_of_le hq (show w20.heap.size ≤ gx1 from by have z0_ := HA0.out; have z1_ := HA1.out; have z2_ := HABS.out; have z3_ := Z1.out; have z4_ := GX0.out; have z5_ := GY0.out; have z6_ := Z2.out; have z7_ := Z3.out; have z8_ := GX1.out; have z9_ := GY1.out; have z10_ := N0.out; omega))) (.int .i64 x1_0)) (fun q hq => Nat.ne_of_lt (Nat.lt_of_lt_of_le hq (show w20.heap.size ≤ gx1 from by have z0_ := HA0.out; have z1_ := HA1.out; have z2_ := HABS.out; have z3_ := Z1.out; have z4_ := GX0.out; have z5_ := GY0.out; have z6_ := Z2.out; have z7_ := Z3.out; have z8_ := GX1.out; have z9_ := GY1.out; have z10_ := N0.out; omega))) (.slice Ax1_1 x1_1.length cx1_1))
   have HY0_0_ := Aside0.mk (Kd.R_far (p := ⟨gx1, 1, none⟩) (Kd.R_far (p := ⟨gx1, 0, none⟩) HY0_0.out (fun q hq => Nat.ne_of_lt (Nat.lt_of_lt_of_le hq.1.2 (show w21.heap.size ≤ gx1 from by have z0_ := HA0.out; have z1_ := HA1.out; have z2_ := HABS.out; have z3_ := Z1.out; have z4_ := GX0.out; have z5_ := GY0.out; have z6_ := Z2.out; have z7_ := Z3.out; have z8_ := GX1.out; have z9_ := GY1.out; have z10_ := N0.out; omega))) (.int .i64 x1_0)) (fun q hq => Nat.ne_of_lt (Nat.lt_of_lt_of_le hq.1.2 (show w21.heap.size ≤ gx1 from by have z0_ := HA0.out; have z1_ := HA1.out; have z2_ := HABS.out; have z3_ := Z1.out; have z4_ := GX0.out; have z5_ := GY0.out; have z6_ := Z2.out; have z7_ := Z3.out; have z8_ := GX1.out; have z9_ := GY1.out; have z10_ := N0.out; omega))) (.slice Ax1_1 x1_1.length cx1_1))
   have HY0_1_ := Aside0.mk (Kd.S_far (p := ⟨gx1, 1, none⟩) (Kd.S_far (p := ⟨gx1, 0, none⟩) HY0_1.out (fun q hq => Nat.ne_of_lt (Nat.lt_of_lt_of_le hq.1.2 (show w21.heap.size ≤ gx1 from by have z0_ := HA0.out; have z1_ := HA1.out; have z2_ := HABS.out; have z3_ := Z1.out; have z4_ := GX0.out; have z5_ := GY0.out; have z6_ := Z2.out; have z7_ := Z3.out; have z8_ := GX1.out; have z9_ := GY1.out; have z10_ := N0.out; omega))) (.int .i64 x1_0)) (fun q hq => Nat.ne_of_lt (Nat.lt_of_lt_of_le hq.1.2 (show w21.heap.size ≤ gx1 from by have z0_ := HA0.out; have z1_ := HA1.out; have z2_ := HABS.out; have z3_ := Z1.out; have z4_ := GX0.out; have z5_ := GY0.out; have z6_ := Z2.out; have z7_ := Z3.out; have z8_ := GX1.out; have z9_ := GY1.out; have z10_ := N0.out; omega))) (.slice Ax1_1 x1_1.length cx1_1))
   have HY1_1_ := Aside0.mk (Kd.R_far (p := ⟨gx1, 1, none⟩) (Kd.R_far (p := ⟨gx1, 0, none⟩) HY1_1.out (fun q hq => Nat.ne_of_lt (Nat.lt_of_lt_of_le hq.1.2 (show w24.heap.size ≤ gx1 from by have z0_ := HA0.out; have z1_ := HA1.out; have z2_ := HABS.out; have z3_ := Z1.out; have z4_ := GX0.out; have z5_ := GY0.out; have z6_ := Z2.out; have z7_ := Z3.out; have z8_ := GX1.out; have z9_ := GY1.out; have z10_ := N0.out; omega))) (.int .i64 x1_0)) (fun q hq => Nat.ne_of_lt (Nat.lt_of_lt_of_le hq.1.2 (show w24.heap.size ≤ gx1 from by have z0_ := HA0.out; have z1_ := HA1.out; have z2_ := HABS.out; have z3_ := Z1.out; have z4_ := GX0.out; have z5_ := GY0.out; have z6_ := Z2.out; have z7_ := Z3.out; have z8_ := GX1.out; have z9_ := GY1.out; have z10_ := N0.out; omega))) (.slice Ax1_1 x1_1.length cx1_1))
   clear HB BA0 BA1 BS BX0 BX1 HS0 HS1 HY0_0 HY0_1 HY1_1
   have HB := HB_
   have BA0 := BA0_
   have BA1 := BA1_
   have BS := BS_
   have BX0 := BX0_
   have BX1 := BX1_
   have HS0 := HS0_
   have HS1 := HS1_
   have HY0_0 := HY0_0_
   have HY0_1 := HY0_1_
   have HY1_1 := HY1_1_
   clear HB_ BA0_ BA1_ BS_ BX0_ BX1_ HS0_ HS1_ HY0_0_ HY0_1_ HY1_1_
   clear hcBA00 hfBA00 hcBA01 hfBA01 hcBA10 hfBA10 hcBA11 hfBA11 hcBS0 hfBS0 hcBS1 hfBS1 hcBX00 hfBX00 hcBX01 hfBX01 hcBX10 hfBX10 hcBX11 hfBX11
   obtain ⟨w26, hw_⟩ : ∃ w_, w_ = ((w25.setCell ⟨gx1, 0, none⟩ (.int .i64 x1_0)).setCell ⟨gx1, 1, none⟩ (.slice Ax1_1 x1_1.length cx1_1)) := ⟨_, rfl⟩
   rw [← hw_] at HB BA0 BA1 BS BX0 BX1 HS0 HS1 HY0_0 HY0_1 HY1_1 ⊢
   have Z4 := Aside0.mk ((by rw [hw_]; simp) : w25.heap.size ≤ w26.heap.size)
   clear hw_
   have hcBA00 : w26.cell? ⟨ga0, 0, none⟩ = some (.slice A0_0 l0_0.length c0_0) := (blk_cell BA0.out 0).trans rfl
   have hfBA00 := blk_frozen BA0.out 0
   have hcBA01 : w26.cell? ⟨ga0, 1, none⟩ = some (.slice A0_1 l0_1.length c0_1) := (blk_cell BA0.out 1).trans rfl
   have hfBA01 := blk_frozen BA0.out 1
   have hcBA10 : w26.cell? ⟨ga1, 0, none⟩ = some (.int .i64 a1_0) := (blk_cell BA1.out 0).trans rfl
   have hfBA10 := blk_frozen BA1.out 0
   have hcBA11 : w26.cell? ⟨ga1, 1, none⟩ = some (.slice A1_1 l1_1.length c1_1) := (blk_cell BA1.out 1).trans rfl
   have hfBA11 := blk_frozen BA1.out 1
   have hcBS0 : w26.cell? ⟨gs, 0, none⟩ = some (.slice As0 s0.length cs0) := (blk_cell BS.out 0).trans rfl
   have hfBS0 := blk_frozen BS.out 0
   have hcBS1 : w26.cell? ⟨gs, 1, none⟩ = some (.slice As1 s1.length cs1) := (blk_cell BS.out 1).trans rfl
   have hfBS1 := blk_frozen BS.out 1
   have hcBX00 : w26.cell? ⟨gx0, 0, none⟩ = some (.slice Ax0_0 x0_0.length cx0_0) := (blk_cell BX0.out 0).trans rfl
   have hfBX00 := blk_frozen BX0.out 0
   have hcBX01 : w26.cell? ⟨gx0, 1, none⟩ = some (.slice Ax0_1 x0_1.length cx0_1) := (blk_cell BX0.out 1).trans rfl
   have hfBX01 := blk_frozen BX0.out 1
   have hcBX10 : w26.cell? ⟨gx1, 0, none⟩ = some (.int .i64 x1_0) := (blk_cell BX1.out 0).trans rfl
   have hfBX10 := blk_frozen BX1.out 0
   have hcBX11 : w26.cell? ⟨gx1, 1, none⟩ = some (.slice Ax1_1 x1_1.length cx1_1) := (blk_cell BX1.out 1).trans rfl
   have hfBX11 := blk_frozen BX1.out 1
   have NL0 := Aside0.mk ((by have z0_ := HA0.out; have z1_ := HA1.out; have z2_ := HABS.out; have z3_ := Z1.out; have z4_ := GX0.out; have z5_ := GY0.out; have z6_ := Z2.out; have z7_ := Z3.out; have z8_ := GX1.out; have z9_ := GY1.out; have z10_ := Z4.out; have z11_ := N0.out; omega) : w.heap.size ≤ w20.heap.size)
   have NL1 := Aside0.mk ((by have z0_ := HA0.out; have z1_ := HA1.out; have z2_ := HABS.out; have z3_ := Z1.out; have z4_ := GX0.out; have z5_ := GY0.out; have z6_ := Z2.out; have z7_ := Z3.out; have z8_ := GX1.out; have z9_ := GY1.out; have z10_ := Z4.out; have z11_ := N0.out; omega) : w.heap.size ≤ w23.heap.size)
   have NL2 := Aside0.mk ((by have z0_ := HA0.out; have z1_ := HA1.out; have z2_ := HABS.out; have z3_ := Z1.out; have z4_ := GX0.out; have z5_ := GY0.out; have z6_ := Z2.out; have z7_ := Z3.out; have z8_ := GX1.out; have z9_ := GY1.out; have z10_ := Z4.out; have z11_ := N0.out; omega) : w.heap.size ≤ w26.heap.size)
   go_wp2_with (first | (go_at_call 9; (with_reducible refine (impl_AddHole.calls k Ax0_0 cx0_0 x0_0 Ax0_1 cx0_1 x0_1 x1_0 Ax1_1 cx1_1 x1_1 g0 g1 g2 _ (Kd.R_reads' HY0_0.out).2.2 (Kd.R_reads' HY0_0.out).2.1 (Kd.S_reads' HY0_1.out).2.2 (Kd.S_reads' HY0_1.out).2.1 (Kd.R_reads' HY1_1.out).2.2 (Kd.R_reads' HY1_1.out).2.1 BG.out).mono ?_); rintro e w27 ⟨v0, v1, rfl, ho0, ho1, hb⟩; have Z5 := Aside0.mk (hb.size); obtain ⟨Agg0, cgg0, egg0⟩ := Kd.R_slice ho0; subst egg0; obtain ⟨Agg1, cgg1, egg1⟩ := Kd.S_slice ho1; subst egg1; have HY2_0 := Aside0.mk (Kd.R_mono (ok' := (fun q => (w26.heap.size ≤ q ∧ q < w27.heap.size) ∧ some q = (.slice Agg0 g0.length cgg0 : Value).ownBlock)) (Kd.R_bound (Kd.R_tight2 rfl ho0)) (fun q hq => ⟨⟨hq.2.1, hq.2.2.1⟩, hq.1.1⟩)); have HY2_1 := Aside0.mk (Kd.S_mono (ok' := (fun q => (w26.heap.size ≤ q ∧ q < w27.heap.size) ∧ some q ≠ (.slice Agg0 g0.length cgg0 : Value).ownBlock)) (Kd.S_bound ho1) (fun q hq => ⟨⟨hq.2.1, hq.2.2.1⟩, hq.1⟩)); clear ho0 ho1; have HB_ := Aside0.mk (below_step HB.out hb); have BA0_ := Aside0.mk (blk_below (g := ga0) (o := .cells #[.slice A0_0 l0_0.length c0_0, .slice A0_1 l0_1.length c0_1] 25 (0, 0)) BA0.out hb); have BA1_ := Aside0.mk (blk_below (g := ga1) (o := .cells #[.int .i64 a1_0, .slice A1_1 l1_1.length c1_1] 27 (0, 0)) BA1.out hb); have BS_ := Aside0.mk (blk_below (g := gs) (o := .cells #[.slice As0 s0.length cs0, .slice As1 s1.length cs1] 32 (0, 0)) BS.out hb); have BX0_ := Aside0.mk (blk_below (g := gx0) (o := .cells #[.slice Ax0_0 x0_0.length cx0_0, .slice Ax0_1 x0_1.length cx0_1] 32 (0, 0)) BX0.out hb); have BX1_ := Aside0.mk (blk_below (g := gx1) (o := .cells #[.int .i64 x1_0, .slice Ax1_1 x1_1.length cx1_1] 36 (0, 0)) BX1.out hb); have HS0_ := Aside0.mk (Kd.R_below HS0.out hb); have HS1_ := Aside0.mk (Kd.S_below HS1.out hb); have HY0_0_ := Aside0.mk (Kd.R_below HY0_0.out hb); have HY0_1_ := Aside0.mk (Kd.S_below HY0_1.out hb); have HY1_1_ := Aside0.mk (Kd.R_below HY1_1.out hb); clear hb; clear HB BA0 BA1 BS BX0 BX1 HS0 HS1 HY0_0 HY0_1 HY1_1; have HB := HB_; have BA0 := BA0_; have BA1 := BA1_; have BS := BS_; have BX0 := BX0_; have BX1 := BX1_; have HS0 := HS0_; have HS1 := HS1_; have HY0_0 := HY0_0_; have HY0_1 := HY0_1_; have HY1_1 := HY1_1_; clear HB_ BA0_ BA1_ BS_ BX0_ BX1_ HS0_ HS1_ HY0_0_ HY0_1_ HY1_1_; clear hcBA00 hfBA00 hcBA01 hfBA01 hcBA10 hfBA10 hcBA11 hfBA11 hcBS0 hfBS0 hcBS1 hfBS1 hcBX00 hfBX00 hcBX01 hfBX01 hcBX10 hfBX10 hcBX11 hfBX11; have hcBA00 : w27.cell? ⟨ga0, 0, none⟩ = some (.slice A0_0 l0_0.length c0_0) := (blk_cell BA0.out 0).trans rfl; have hfBA00 := blk_frozen BA0.out 0; have hcBA01 : w27.cell? ⟨ga0, 1, none⟩ = some (.slice A0_1 l0_1.length c0_1) := (blk_cell BA0.out 1).trans rfl; have hfBA01 := blk_frozen BA0.out 1; have hcBA10 : w27.cell? ⟨ga1, 0, none⟩ = some (.int .i64 a1_0) := (blk_cell BA1.out 0).trans rfl; have hfBA10 := blk_frozen BA1.out 0; have hcBA11 : w27.cell? ⟨ga1, 1, none⟩ = some (.slice A1_1 l1_1.length c1_1) := (blk_cell BA1.out 1).trans rfl; have hfBA11 := blk_frozen BA1.out 1; have hcBS0 : w27.cell? ⟨gs, 0, none⟩ = some (.slice As0 s0.length cs0) := (blk_cell BS.out 0).trans rfl; have hfBS0 := blk_frozen BS.out 0; have hcBS1 : w27.cell? ⟨gs, 1, none⟩ = some (.slice As1 s1.length cs1) := (blk_cell BS.out 1).trans rfl; have hfBS1 := blk_frozen BS.out 1; have hcBX00 : w27.cell? ⟨gx0, 0, none⟩ = some (.slice Ax0_0 x0_0.length cx0_0) := (blk_cell BX0.out 0).trans rfl; have hfBX00 := blk_frozen BX0.out 0; have hcBX01 : w27.cell? ⟨gx0, 1, none⟩ = some (.slice Ax0_1 x0_1.length cx0_1) := (blk_cell BX0.out 1).trans rfl; have hfBX01 := blk_frozen BX0.out 1; have hcBX10 : w27.cell? ⟨gx1, 0, none⟩ = some (.int .i64 x1_0) := (blk_cell BX1.out 0).trans rfl; have hfBX10 := blk_frozen BX1.out 0; have hcBX11 : w27.cell? ⟨gx1, 1, none⟩ = some (.slice Ax1_1 x1_1.length cx1_1) := (blk_cell BX1.out 1).trans rfl; have hfBX11 := blk_frozen BX1.out 1) | ((with_reducible refine gate_dst (N := 10) rfl ?_); refine box_event ?hg (N := 10) ?hd (cs := #[.slice none 0 0, .slice none 0 0]) (t := 32) ?hr ?_; (case hd => rfl); (case hg => rfl); (case hr => first | (go_simp; done) | (go_simp; rfl)); intro gg hgx w28 hbox hb; have NX2BA0 := Aside0.mk ((by rw [hgx]; exact Nat.ne_of_lt (blk_lt (g := ga0) (o := .cells #[.slice A0_0 l0_0.length c0_0, .slice A0_1 l0_1.length c0_1] 25 (0, 0)) BA0.out)) : ga0 ≠ gg); have NX2BA1 := Aside0.mk ((by rw [hgx]; exact Nat.ne_of_lt (blk_lt (g := ga1) (o := .cells #[.int .i64 a1_0, .slice A1_1 l1_1.length c1_1] 27 (0, 0)) BA1.out)) : ga1 ≠ gg); have NX2BS := Aside0.mk ((by rw [hgx]; exact Nat.ne_of_lt (blk_lt (g := gs) (o := .cells #[.slice As0 s0.length cs0, .slice As1 s1.length cs1] 32 (0, 0)) BS.out)) : gs ≠ gg); have NX2BX0 := Aside0.mk ((by rw [hgx]; exact Nat.ne_of_lt (blk_lt (g := gx0) (o := .cells #[.slice Ax0_0 x0_0.length cx0_0, .slice Ax0_1 x0_1.length cx0_1] 32 (0, 0)) BX0.out)) : gx0 ≠ gg); have NX2BX1 := Aside0.mk ((by rw [hgx]; exact Nat.ne_of_lt (blk_lt (g := gx1) (o := .cells #[.int .i64 x1_0, .slice Ax1_1 x1_1.length cx1_1] 36 (0, 0)) BX1.out)) : gx1 ≠ gg); have GX2 := Aside0.mk ((by rw [hgx]; exact Nat.le_refl _) : w27.heap.size ≤ gg); have GY2 := Aside0.mk ((blk_lt hbox) : gg < w28.heap.size); have BX2 := Aside0.mk hbox; have HB_ := Aside0.mk (below_step HB.out hb); have BA0_ := Aside0.mk (blk_below (g := ga0) (o := .cells #[.slice A0_0 l0_0.length c0_0, .slice A0_1 l0_1.length c0_1] 25 (0, 0)) BA0.out hb); have BA1_ := Aside0.mk (blk_below (g := ga1) (o := .cells #[.int .i64 a1_0, .slice A1_1 l1_1.length c1_1] 27 (0, 0)) BA1.out hb); have BS_ := Aside0.mk (blk_below (g := gs) (o := .cells #[.slice As0 s0.length cs0, .slice As1 s1.length cs1] 32 (0, 0)) BS.out hb); have BX0_ := Aside0.mk (blk_below (g := gx0) (o := .cells #[.slice Ax0_0 x0_0.length cx0_0, .slice Ax0_1 x0_1.length cx0_1] 32 (0, 0)) BX0.out hb); have BX1_ := Aside0.mk (blk_below (g := gx1) (o := .cells #[.int .i64 x1_0, .slice Ax1_1 x1_1.length cx1_1] 36 (0, 0)) BX1.out hb); have HS0_ := Aside0.mk (Kd.R_below HS0.out hb); have HS1_ := Aside0.mk (Kd.S_below HS1.out hb); have HY0_0_ := Aside0.mk (Kd.R_below HY0_0.out hb); have HY0_1_ := Aside0.mk (Kd.S_below HY0_1.out hb); have HY1_1_ := Aside0.mk (Kd.R_below HY1_1.out hb); have HY2_0_ := Aside0.mk (Kd.R_below HY2_0.out hb); have HY2_1_ := Aside0.mk (Kd.S_below HY2_1.out hb); clear hb hbox hgx; clear HB BA0 BA1 BS BX0 BX1 HS0 HS1 HY0_0 HY0_1 HY1_1 HY2_0 HY2_1; have HB := HB_; have BA0 := BA0_; have BA1 := BA1_; have BS := BS_; have BX0 := BX0_; have BX1 := BX1_; have HS0 := HS0_; have HS1 := HS1_; have HY0_0 := HY0_0_; have HY0_1 := HY0_1_; have HY1_1 := HY1_1_; have HY2_0 := HY2_0_; have HY2_1 := HY2_1_; clear HB_ BA0_ BA1_ BS_ BX0_ BX1_ HS0_ HS1_ HY0_0_ HY0_1_ HY1_1_ HY2_0_ HY2_1_; clear hcBA00 hfBA00 hcBA01 hfBA01 hcBA10 hfBA10 hcBA11 hfBA11 hcBS0 hfBS0 hcBS1 hfBS1 hcBX00 hfBX00 hcBX01 hfBX01 hcBX10 hfBX10 hcBX11 hfBX11; have hcBA00 : w28.cell? ⟨ga0, 0, none⟩ = some (.slice A0_0 l0_0.length c0_0) := (blk_cell BA0.out 0).trans rfl; have hfBA00 := blk_frozen BA0.out 0; have hcBA01 : w28.cell? ⟨ga0, 1, none⟩ = some (.slice A0_1 l0_1.length c0_1) := (blk_cell BA0.out 1).trans rfl; have hfBA01 := blk_frozen BA0.out 1; have hcBA10 : w28.cell? ⟨ga1, 0, none⟩ = some (.int .i64 a1_0) := (blk_cell BA1.out 0).trans rfl; have hfBA10 := blk_frozen BA1.out 0; have hcBA11 : w28.cell? ⟨ga1, 1, none⟩ = some (.slice A1_1 l1_1.length c1_1) := (blk_cell BA1.out 1).trans rfl; have hfBA11 := blk_frozen BA1.out 1; have hcBS0 : w28.cell? ⟨gs, 0, none⟩ = some (.slice As0 s0.length cs0) := (blk_cell BS.out 0).trans rfl; have hfBS0 := blk_frozen BS.out 0; have hcBS1 : w28.cell? ⟨gs, 1, none⟩ = some (.slice As1 s1.length cs1) := (blk_cell BS.out 1).trans rfl; have hfBS1 := blk_frozen BS.out 1; have hcBX00 : w28.cell? ⟨gx0, 0, none⟩ = some (.slice Ax0_0 x0_0.length cx0_0) := (blk_cell BX0.out 0).trans rfl; have hfBX00 := blk_frozen BX0.out 0; have hcBX01 : w28.cell? ⟨gx0, 1, none⟩ = some (.slice Ax0_1 x0_1.length cx0_1) := (blk_cell BX0.out 1).trans rfl; have hfBX01 := blk_frozen BX0.out 1; have hcBX10 : w28.cell? ⟨gx1, 0, none⟩ = some (.int .i64 x1_0) := (blk_cell BX1.out 0).trans rfl; have hfBX10 := blk_frozen BX1.out 0; have hcBX11 : w28.cell? ⟨gx1, 1, none⟩ = some (.slice Ax1_1 x1_1.length cx1_1) := (blk_cell BX1.out 1).trans rfl; have hfBX11 := blk_frozen BX1.out 1; have hcBX20 : w28.cell? ⟨gg, 0, none⟩ = some (.slice none 0 0) := (blk_cell BX2.out 0).trans rfl; have hfBX20 := blk_frozen BX2.out 0; have hcBX21 : w28.cell? ⟨gg, 1, none⟩ = some (.slice none 0 0) := (blk_cell BX2.out 1).trans rfl; have hfBX21 := blk_frozen BX2.out 1; have hn2BA0 := NX2BA0.out; have hn2BA1 := NX2BA1.out; have hn2BS := NX2BS.out; have hn2BX0 := NX2BX0.out; have hn2BX1 := NX2BX1.out; have hm2BA0 := NX2BA0.out.symm; have hm2BA1 := NX2BA1.out.symm; have hm2BS := NX2BS.out.symm; have hm2BX0 := NX2BX0.out.symm; have hm2BX1 := NX2BX1.out.symm))
   have HB_ : Aside0 (Below w.heap.size w ((w28.setCell ⟨gg, 0, none⟩ (.slice Agg0 g0.length cgg0)).setCell ⟨gg, 1, none⟩ (.slice Agg1 g1.length cgg1))) := Aside0.mk (below_set (j := 1) (v := .slice Agg1 g1.length cgg1) (below_set (j := 0) (v := .slice Agg0 g0.length cgg0) HB.out (by have z0_ := HA0.out; have z1_ := HA1.out; have z2_ := HABS.out; have z3_ := Z1.out; have z4_ := GX0.out; have z5_ := GY0.out; have z6_ := Z2.out; have z7_ := Z3.out; have z8_ := GX1.out; have z9_ := GY1.out; have z10_ := Z4.out; have z11_ := Z5.out; have z12_ := GX2.out; have z13_ := GY2.out; have z14_ := N0.out; omega)) (by have z0_ := HA0.out; have z1_ := HA1.out; have z2_ := HABS.out; have z3_ := Z1.out; have z4_ := GX0.out; have z5_ := GY0.out; have z6_ := Z2.out; have z7_ := Z3.out; have z8_ := GX1.out; have z9_ := GY1.out; have z10_ := Z4.out; have z11_ := Z5.out; have z12_ := GX2.out; have z13_ := GY2.out; have z14_ := N0.out; omega))
   have BA0_ := Aside0.mk (show (World.heap ((w28.setCell ⟨gg, 0, none⟩ (.slice Agg0 g0.length cgg0)).setCell ⟨gg, 1, none⟩ (.slice Agg1 g1.length cgg1)))[ga0]? = some (.cells #[.slice A0_0 l0_0.length c0_0, .slice A0_1 l0_1.length c0_1] 25 (0, 0)) from blk_far (blk_far BA0.out NX2BA0.out _) NX2BA0.out _)
   have BA1_ := Aside0.mk (show (World.heap ((w28.setCell ⟨gg, 0, none⟩ (.slice Agg0 g0.length cgg0)).setCell ⟨gg, 1, none⟩ (.slice Agg1 g1.length cgg1)))[ga1]? = some (.cells #[.int .i64 a1_0, .slice A1_1 l1_1.length c1_1] 27 (0, 0)) from blk_far (blk_far BA1.out NX2BA1.out _) NX2BA1.out _)
   have BS_ := Aside0.mk (show (World.heap ((w28.setCell ⟨gg, 0, none⟩ (.slice Agg0 g0.length cgg0)).setCell ⟨gg, 1, none⟩ (.slice Agg1 g1.length cgg1)))[gs]? = some (.cells #[.slice As0 s0.length cs0, .slice As1 s1.length cs1] 32 (0, 0)) from blk_far (blk_far BS.out NX2BS.out _) NX2BS.out _)
   have BX0_ := Aside0.mk (show (World.heap ((w28.setCell ⟨gg, 0, none⟩ (.slice Agg0 g0.length cgg0)).setCell ⟨gg, 1, none⟩ (.slice Agg1 g1.length cgg1)))[gx0]? = some (.cells #[.slice Ax0_0 x0_0.length cx0_0, .slice Ax0_1 x0_1.length cx0_1] 32 (0, 0)) from blk_far (blk_far BX0.out NX2BX0.out _) NX2BX0.out _)
   have BX1_ := Aside0.mk (show (World.heap ((w28.setCell ⟨gg, 0, none⟩ (.slice Agg0 g0.length cgg0)).setCell ⟨gg, 1, none⟩ (.slice Agg1 g1.length cgg1)))[gx1]? = some (.cells #[.int .i64 x1_0, .slice Ax1_1 x1_1.length cx1_1] 36 (0, 0)) from blk_far (blk_far BX1.out NX2BX1.out _) NX2BX1.out _)
   have BX2_ := Aside0.mk (show (World.heap ((w28.setCell ⟨gg, 0, none⟩ (.slice Agg0 g0.length cgg0)).setCell ⟨gg, 1, none⟩ (.slice Agg1 g1.length cgg1)))[gg]? = some (.cells #[.slice Agg0 g0.length cgg0, .slice Agg1 g1.length cgg1] 32 (0, 0)) from blk_put (cs := #[.slice Agg0 g0.length cgg0, .slice none 0 0]) (blk_put (cs := #[.slice none 0 0, .slice none 0 0]) BX2.out 0 (.slice Agg0 g0.length cgg0) rfl) 1 (.slice Agg1 g1.length cgg1) rfl)
   have HS0_ := Aside0.mk (Kd.R_far (p := ⟨gg, 1, none⟩) (Kd.R_far (p := ⟨gg, 0, none⟩) HS0.out (fun q hq => Nat.ne_of_lt (Nat.lt_of_lt_of_le hq (show w20.heap.size ≤ gg from by have z0_ := HA0.out; have z1_ := HA1.out; have z2_ := HABS.out; have z3_ := Z1.out; have z4_ := GX0.out; have z5_ := GY0.out; have z6_ := Z2.out; have z7_ := Z3.out; have z8_ := GX1.out; have z9_ := GY1.out; have z10_ := Z4.out; have z11_ := Z5.out; have z12_ := GX2.out; have z13_ := GY2.out; have z14_ := N0.out; omega))) (.slice Agg0 g0.length cgg0)) (fun q hq => Nat.ne_of_lt (Nat.lt_of_lt_of_le hq (show w20.heap.size ≤ gg from by have z0_ := HA0.out; have z1_ := HA1.out; have z2_ := HABS.out; have z3_ := Z1.out; have z4_ := GX0.out; have z5_ := GY0.out; have z6_ := Z2.out; have z7_ := Z3.out; have z8_ := GX1.out; have z9_ := GY1.out; have z10_ := Z4.out; have z11_ := Z5.out; have z12_ := GX2.out; have z13_ := GY2.out; have z14_ := N0.out; omega))) (.slice Agg1 g1.length cgg1))
   have HS1_ := Aside0.mk (Kd.S_far (p := ⟨gg, 1, none⟩) (Kd.S_far (p := ⟨gg, 0, none⟩) HS1.out (fun q hq => Nat.ne_of_lt (Nat.lt_of_lt_of_le hq (show w20.heap.size ≤ gg from by have z0_ := HA0.out; have z1_ := HA1.out; have z2_ := HABS.out; have z3_ := Z1.out; have z4_ := GX0.out; have z5_ := GY0.out; have z6_ := Z2.out; have z7_ := Z3.out; have z8_ := GX1.out; have z9_ := GY1.out; have z10_ := Z4.out; have z11_ := Z5.out; have z12_ := GX2.out; have z13_ := GY2.out; have z14_ := N0.out; omega))) (.slice Agg0 g0.length cgg0)) (fun q hq => Nat.ne_of_lt (Nat.lt_of_lt_of_le hq (show w20.heap.size ≤ gg from by have z0_ := HA0.out; have z1_ := HA1.out; have z2_ := HABS.out; have z3_ := Z1.out; have z4_ := GX0.out; have z5_ := GY0.out; have z6_ := Z2.out; have z7_ := Z3.out; have z8_ := GX1.out; have z9_ := GY1.out; have z10_ := Z4.out; have z11_ := Z5.out; have z12_ := GX2.out; have z13_ := GY2.out; have z14_ := N0.out; omega))) (.slice Agg1 g1.length cgg1))
   have HY0_0_ := Aside0.mk (Kd.R_far (p := ⟨gg, 1, none⟩) (Kd.R_far (p := ⟨gg, 0, none⟩) HY0_0.out (fun q hq => Nat.ne_of_lt (Nat.lt_of_lt_of_le hq.1.2 (show w21.heap.size ≤ gg from by have z0_ := HA0.out; have z1_ := HA1.out; have z2_ := HABS.out; have z3_ := Z1.out; have z4_ := GX0.out; have z5_ := GY0.out; have z6_ := Z2.out; have z7_ := Z3.out; have z8_ := GX1.out; have z9_ := GY1.out; have z10_ := Z4.out; have z11_ := Z5.out; have z12_ := GX2.out; have z13_ := GY2.out; have z14_ := N0.out; omega))) (.slice Agg0 g0.length cgg0)) (fun q hq => Nat.ne_of_lt (Nat.lt_of_lt_of_le hq.1.2 (show w21.heap.size ≤ gg from by have z0_ := HA0.out; have z1_ := HA1.out; have z2_ := HABS.out; have z3_ := Z1.out; have z4_ := GX0.out; have z5_ := GY0.out; have z6_ := Z2.out; have z7_ := Z3.out; have z8_ := GX1.out; have z9_ := GY1.out; have z10_ := Z4.out; have z11_ := Z5.out; have z12_ := GX2.out; have z13_ := GY2.out; have z14_ := N0.out; omega))) (.slice Agg1 g1.length cgg1))
   have HY0_1_ := Aside0.mk (Kd.S_far (p := ⟨gg, 1, none⟩) (Kd.S_far (p := ⟨gg, 0, none⟩) HY0_1.out (fun q hq => Nat.ne_of_lt (Nat.lt_of_lt_of_le hq.1.2 (show w21.heap.size ≤ gg from by have z0_ := HA0.out; have z1_ := HA1.out; have z2_ := HABS.out; have z3_ := Z1.out; have z4_ := GX0.out; have z5_ := GY0.out; have z6_ := Z2.out; have z7_ := Z3.out; have z8_ := GX1.out; have z9_ := GY1.out; have z10_ := Z4.out; have z11_ := Z5.out; have z12_ := GX2.out; have z13_ := GY2.out; have z14_ := N0.out; omega))) (.slice Agg0 g0.length cgg0)) (fun q hq => Nat.ne_of_lt (Nat.lt_of_lt_of_le hq.1.2 (show w21.heap.size ≤ gg from by have z0_ := HA0.out; have z1_ := HA1.out; have z2_ := HABS.out; have z3_ := Z1.out; have z4_ := GX0.out; have z5_ := GY0.out; have z6_ := Z2.out; have z7_ := Z3.out; have z8_ := GX1.out; have z9_ := GY1.out; have z10_ := Z4.out; have z11_ := Z5.out; have z12_ := GX2.out; have z13_ := GY2.out; have z14_ := N0.out; omega))) (.slice Agg1 g1.length cgg1))
   have HY1_1_ := Aside0.mk (Kd.R_far (p := ⟨gg, 1, none⟩) (Kd.R_far (p := ⟨gg, 0, none⟩) HY1_1.out (fun q hq => Nat.ne_of_lt (Nat.lt_of_lt_of_le hq.1.2 (show w24.heap.size ≤ gg from by have z0_ := HA0.out; have z1_ := HA1.out; have z2_ := HABS.out; have z3_ := Z1.out; have z4_ := GX0.out; have z5_ := GY0.out; have z6_ := Z2.out; have z7_ := Z3.out; have z8_ := GX1.out; have z9_ := GY1.out; have z10_ := Z4.out; have z11_ := Z5.out; have z12_ := GX2.out; have z13_ := GY2.out; have z14_ := N0.out; omega))) (.slice Agg0 g0.length cgg0)) (fun q hq => Nat.ne_of_lt (Nat.lt_of_lt_of_le hq.1.2 (show w24.heap.size ≤ gg from by have z0_ := HA0.out; have z1_ := HA1.out; have z2_ := HABS.out; have z3_ := Z1.out; have z4_ := GX0.out; have z5_ := GY0.out; have z6_ := Z2.out; have z7_ := Z3.out; have z8_ := GX1.out; have z9_ := GY1.out; have z10_ := Z4.out; have z11_ := Z5.out; have z12_ := GX2.out; have z13_ := GY2.out; have z14_ := N0.out; omega))) (.slice Agg1 g1.length cgg1))
   have HY2_0_ := Aside0.mk (Kd.R_far (p := ⟨gg, 1, none⟩) (Kd.R_far (p := ⟨gg, 0, none⟩) HY2_0.out (fun q hq => Nat.ne_of_lt (Nat.lt_of_lt_of_le hq.1.2 (show w27.heap.size ≤ gg from by have z0_ := HA0.out; have z1_ := HA1.out; have z2_ := HABS.out; have z3_ := Z1.out; have z4_ := GX0.out; have z5_ := GY0.out; have z6_ := Z2.out; have z7_ := Z3.out; have z8_ := GX1.out; have z9_ := GY1.out; have z10_ := Z4.out; have z11_ := Z5.out; have z12_ := GX2.out; have z13_ := GY2.out; have z14_ := N0.out; omega))) (.slice Agg0 g0.length cgg0)) (fun q hq => Nat.ne_of_lt (Nat.lt_of_lt_of_le hq.1.2 (show w27.heap.size ≤ gg from by have z0_ := HA0.out; have z1_ := HA1.out; have z2_ := HABS.out; have z3_ := Z1.out; have z4_ := GX0.out; have z5_ := GY0.out; have z6_ := Z2.out; have z7_ := Z3.out; have z8_ := GX1.out; have z9_ := GY1.out; have z10_ := Z4.out; have z11_ := Z5.out; have z12_ := GX2.out; have z13_ := GY2.out; have z14_ := N0.out; omega))) (.slice Agg1 g1.length cgg1))
   have HY2_1_ := Aside0.mk (Kd.S_far (p := ⟨gg, 1, none⟩) (Kd.S_far (p := ⟨gg, 0, none⟩) HY2_1.out (fun q hq => Nat.ne_of_lt (Nat.lt_of_lt_of_le hq.1.2 (show w27.heap.size ≤ gg from by have z0_ := HA0.out; have z1_ := HA1.out; have z2_ := HABS.out; have z3_ := Z1.out; have z4_ := GX0.out; have z5_ := GY0.out; have z6_ := Z2.out; have z7_ := Z3.out; have z8_ := GX1.out; have z9_ := GY1.out; have z10_ := Z4.out; have z11_ := Z5.out; have z12_ := GX2.out; have z13_ := GY2.out; have z14_ := N0.out; omega))) (.slice Agg0 g0.length cgg0)) (fun q hq => Nat.ne_of_lt (Nat.lt_of_lt_of_le hq.1.2 (show w27.heap.size ≤ gg from by have z0_ := HA0.out; have z1_ := HA1.out; have z2_ := HABS.out; have z3_ := Z1.out; have z4_ := GX0.out; have z5_ := GY0.out; have z6_ := Z2.out; have z7_ := Z3.out; have z8_ := GX1.out; have z9_ := GY1.out; have z10_ := Z4.out; have z11_ := Z5.out; have z12_ := GX2.out; have z13_ := GY2.out; have z14_ := N0.out; omega))) (.slice Agg1 g1.length cgg1))
   clear HB BA0 BA1 BS BX0 BX1 BX2 HS0 HS1 HY0_0 HY0_1 HY1_1 HY2_0 HY2_1
   have HB := HB_
   have BA0 := BA0_
   have BA1 := BA1_
   have BS := BS_
   have BX0 := BX0_
   have BX1 := BX1_
   have BX2 := BX2_
   have HS0 := HS0_
   have HS1 := HS1_
   have HY0_0 := HY0_0_
   have HY0_1 := HY0_1_
   have HY1_1 := HY1_1_
   have HY2_0 := HY2_0_
   have HY2_1 := HY2_1_
   clear HB_ BA0_ BA1_ BS_ BX0_ BX1_ BX2_ HS0_ HS1_ HY0_0_ HY0_1_ HY1_1_ HY2_0_ HY2_1_
   clear hcBA00 hfBA00 hcBA01 hfBA01 hcBA10 hfBA10 hcBA11 hfBA11 hcBS0 hfBS0 hcBS1 hfBS1 hcBX00 hfBX00 hcBX01 hfBX01 hcBX10 hfBX10 hcBX11 hfBX11 hcBX20 hfBX20 hcBX21 hfBX21
   obtain ⟨w29, hw_⟩ : ∃ w_, w_ = ((w28.setCell ⟨gg, 0, none⟩ (.slice Agg0 g0.length cgg0)).setCell ⟨gg, 1, none⟩ (.slice Agg1 g1.length cgg1)) := ⟨_, rfl⟩
   rw [← hw_] at HB BA0 BA1 BS BX0 BX1 BX2 HS0 HS1 HY0_0 HY0_1 HY1_1 HY2_0 HY2_1 ⊢
   have Z6 := Aside0.mk ((by rw [hw_]; simp) : w28.heap.size ≤ w29.heap.size)
   clear hw_
   have hcBA00 : w29.cell? ⟨ga0, 0, none⟩ = some (.slice A0_0 l0_0.length c0_0) := (blk_cell BA0.out 0).trans rfl
   have hfBA00 := blk_frozen BA0.out 0
   have hcBA01 : w29.cell? ⟨ga0, 1, none⟩ = some (.slice A0_1 l0_1.length c0_1) := (blk_cell BA0.out 1).trans rfl
   have hfBA01 := blk_frozen BA0.out 1
   have hcBA10 : w29.cell? ⟨ga1, 0, none⟩ = some (.int .i64 a1_0) := (blk_cell BA1.out 0).trans rfl
   have hfBA10 := blk_frozen BA1.out 0
   have hcBA11 : w29.cell? ⟨ga1, 1, none⟩ = some (.slice A1_1 l1_1.length c1_1) := (blk_cell BA1.out 1).trans rfl
   have hfBA11 := blk_frozen BA1.out 1
   have hcBS0 : w29.cell? ⟨gs, 0, none⟩ = some (.slice As0 s0.length cs0) := (blk_cell BS.out 0).trans rfl
   have hfBS0 := blk_frozen BS.out 0
   have hcBS1 : w29.cell? ⟨gs, 1, none⟩ = some (.slice As1 s1.length cs1) := (blk_cell BS.out 1).trans rfl
   have hfBS1 := blk_frozen BS.out 1
   have hcBX00 : w29.cell? ⟨gx0, 0, none⟩ = some (.slice Ax0_0 x0_0.length cx0_0) := (blk_cell BX0.out 0).trans rfl
   have hfBX00 := blk_frozen BX0.out 0
   have hcBX01 : w29.cell? ⟨gx0, 1, none⟩ = some (.slice Ax0_1 x0_1.length cx0_1) := (blk_cell BX0.out 1).trans rfl
   have hfBX01 := blk_frozen BX0.out 1
   have hcBX10 : w29.cell? ⟨gx1, 0, none⟩ = some (.int .i64 x1_0) := (blk_cell BX1.out 0).trans rfl
   have hfBX10 := blk_frozen BX1.out 0
   have hcBX11 : w29.cell? ⟨gx1, 1, none⟩ = some (.slice Ax1_1 x1_1.length cx1_1) := (blk_cell BX1.out 1).trans rfl
   have hfBX11 := blk_frozen BX1.out 1
   have hcBX20 : w29.cell? ⟨gg, 0, none⟩ = some (.slice Agg0 g0.length cgg0) := (blk_cell BX2.out 0).trans rfl
   have hfBX20 := blk_frozen BX2.out 0
   have hcBX21 : w29.cell? ⟨gg, 1, none⟩ = some (.slice Agg1 g1.length cgg1) := (blk_cell BX2.out 1).trans rfl
   have hfBX21 := blk_frozen BX2.out 1
   go_wp2_with (first | (go_at_call 10; (with_reducible refine (laws_eqGround.calls k Agg0 cgg0 g0 Agg1 cgg1 g1 As0 cs0 s0 As1 cs1 s1 true _ (Kd.R_reads' HY2_0.out).2.2 (Kd.R_reads' HY2_0.out).2.1 (Kd.S_reads' HY2_1.out).2.2 (Kd.S_reads' HY2_1.out).2.1 (Kd.R_reads' HS0.out).2.2 (Kd.R_reads' HS0.out).2.1 (Kd.S_reads' HS1.out).2.2 (Kd.S_reads' HS1.out).2.1 BE.out).mono ?_); rintro e w30 ⟨rfl, hb⟩; have Z7 := Aside0.mk (hb.size); have HB_ := Aside0.mk (below_step HB.out hb); have BA0_ := Aside0.mk (blk_below (g := ga0) (o := .cells #[.slice A0_0 l0_0.length c0_0, .slice A0_1 l0_1.length c0_1] 25 (0, 0)) BA0.out hb); have BA1_ := Aside0.mk (blk_below (g := ga1) (o := .cells #[.int .i64 a1_0, .slice A1_1 l1_1.length c1_1] 27 (0, 0)) BA1.out hb); have BS_ := Aside0.mk (blk_below (g := gs) (o := .cells #[.slice As0 s0.length cs0, .slice As1 s1.length cs1] 32 (0, 0)) BS.out hb); have BX0_ := Aside0.mk (blk_below (g := gx0) (o := .cells #[.slice Ax0_0 x0_0.length cx0_0, .slice Ax0_1 x0_1.length cx0_1] 32 (0, 0)) BX0.out hb); have BX1_ := Aside0.mk (blk_below (g := gx1) (o := .cells #[.int .i64 x1_0, .slice Ax1_1 x1_1.length cx1_1] 36 (0, 0)) BX1.out hb); have BX2_ := Aside0.mk (blk_below (g := gg) (o := .cells #[.slice Agg0 g0.length cgg0, .slice Agg1 g1.length cgg1] 32 (0, 0)) BX2.out hb); have HS0_ := Aside0.mk (Kd.R_below HS0.out hb); have HS1_ := Aside0.mk (Kd.S_below HS1.out hb); have HY0_0_ := Aside0.mk (Kd.R_below HY0_0.out hb); have HY0_1_ := Aside0.mk (Kd.S_below HY0_1.out hb); have HY1_1_ := Aside0.mk (Kd.R_below HY1_1.out hb); have HY2_0_ := Aside0.mk (Kd.R_below HY2_0.out hb); have HY2_1_ := Aside0.mk (Kd.S_below HY2_1.out hb); clear hb; clear HB BA0 BA1 BS BX0 BX1 BX2 HS0 HS1 HY0_0 HY0_1 HY1_1 HY2_0 HY2_1; have HB := HB_; have BA0 := BA0_; have BA1 := BA1_; have BS := BS_; have BX0 := BX0_; have BX1 := BX1_; have BX2 := BX2_; have HS0 := HS0_; have HS1 := HS1_; have HY0_0 := HY0_0_; have HY0_1 := HY0_1_; have HY1_1 := HY1_1_; have HY2_0 := HY2_0_; have HY2_1 := HY2_1_; clear HB_ BA0_ BA1_ BS_ BX0_ BX1_ BX2_ HS0_ HS1_ HY0_0_ HY0_1_ HY1_1_ HY2_0_ HY2_1_; clear hcBA00 hfBA00 hcBA01 hfBA01 hcBA10 hfBA10 hcBA11 hfBA11 hcBS0 hfBS0 hcBS1 hfBS1 hcBX00 hfBX00 hcBX01 hfBX01 hcBX10 hfBX10 hcBX11 hfBX11 hcBX20 hfBX20 hcBX21 hfBX21; have hcBA00 : w30.cell? ⟨ga0, 0, none⟩ = some (.slice A0_0 l0_0.length c0_0) := (blk_cell BA0.out 0).trans rfl; have hfBA00 := blk_frozen BA0.out 0; have hcBA01 : w30.cell? ⟨ga0, 1, none⟩ = some (.slice A0_1 l0_1.length c0_1) := (blk_cell BA0.out 1).trans rfl; have hfBA01 := blk_frozen BA0.out 1; have hcBA10 : w30.cell? ⟨ga1, 0, none⟩ = some (.int .i64 a1_0) := (blk_cell BA1.out 0).trans rfl; have hfBA10 := blk_frozen BA1.out 0; have hcBA11 : w30.cell? ⟨ga1, 1, none⟩ = some (.slice A1_1 l1_1.length c1_1) := (blk_cell BA1.out 1).trans rfl; have hfBA11 := blk_frozen BA1.out 1; have hcBS0 : w30.cell? ⟨gs, 0, none⟩ = some (.slice As0 s0.length cs0) := (blk_cell BS.out 0).trans rfl; have hfBS0 := blk_frozen BS.out 0; have hcBS1 : w30.cell? ⟨gs, 1, none⟩ = some (.slice As1 s1.length cs1) := (blk_cell BS.out 1).trans rfl; have hfBS1 := blk_frozen BS.out 1; have hcBX00 : w30.cell? ⟨gx0, 0, none⟩ = some (.slice Ax0_0 x0_0.length cx0_0) := (blk_cell BX0.out 0).trans rfl; have hfBX00 := blk_frozen BX0.out 0; have hcBX01 : w30.cell? ⟨gx0, 1, none⟩ = some (.slice Ax0_1 x0_1.length cx0_1) := (blk_cell BX0.out 1).trans rfl; have hfBX01 := blk_frozen BX0.out 1; have hcBX10 : w30.cell? ⟨gx1, 0, none⟩ = some (.int .i64 x1_0) := (blk_cell BX1.out 0).trans rfl; have hfBX10 := blk_frozen BX1.out 0; have hcBX11 : w30.cell? ⟨gx1, 1, none⟩ = some (.slice Ax1_1 x1_1.length cx1_1) := (blk_cell BX1.out 1).trans rfl; have hfBX11 := blk_frozen BX1.out 1; have hcBX20 : w30.cell? ⟨gg, 0, none⟩ = some (.slice Agg0 g0.length cgg0) := (blk_cell BX2.out 0).trans rfl; have hfBX20 := blk_frozen BX2.out 0; have hcBX21 : w30.cell? ⟨gg, 1, none⟩ = some (.slice Agg1 g1.length cgg1) := (blk_cell BX2.out 1).trans rfl; have hfBX21 := blk_frozen BX2.out 1))
   try go_wp2
   have HS0_ := Aside0.mk (Kd.R_drew HS0.out)
   have HS1_ := Aside0.mk (Kd.S_drew HS1.out)
   have HY0_0_ := Aside0.mk (Kd.R_drew HY0_0.out)
   have HY0_1_ := Aside0.mk (Kd.S_drew HY0_1.out)
   have HY1_1_ := Aside0.mk (Kd.R_drew HY1_1.out)
   have HY2_0_ := Aside0.mk (Kd.R_drew HY2_0.out)
   have HY2_1_ := Aside0.mk (Kd.S_drew HY2_1.out)
   have BA0_ := Aside0.mk (blk_drew BA0.out)
   have BA1_ := Aside0.mk (blk_drew BA1.out)
   have BS_ := Aside0.mk (blk_drew BS.out)
   have BX0_ := Aside0.mk (blk_drew BX0.out)
   have BX1_ := Aside0.mk (blk_drew BX1.out)
   have BX2_ := Aside0.mk (blk_drew BX2.out)
   have HB_ := Aside0.mk (below_drew1 HB.out)
   clear HS0 HS1 HY0_0 HY0_1 HY1_1 HY2_0 HY2_1 BA0 BA1 BS BX0 BX1 BX2 HB
   have HS0 := HS0_
   have HS1 := HS1_
   have HY0_0 := HY0_0_
   have HY0_1 := HY0_1_
   have HY1_1 := HY1_1_
   have HY2_0 := HY2_0_
   have HY2_1 := HY2_1_
   have BA0 := BA0_
   have BA1 := BA1_
   have BS := BS_
   have BX0 := BX0_
   have BX1 := BX1_
   have BX2 := BX2_
   have HB := HB_
   clear HS0_ HS1_ HY0_0_ HY0_1_ HY1_1_ HY2_0_ HY2_1_ BA0_ BA1_ BS_ BX0_ BX1_ BX2_ HB_
   clear hcBA00 hfBA00 hcBA01 hfBA01 hcBA10 hfBA10 hcBA11 hfBA11 hcBS0 hfBS0 hcBS1 hfBS1 hcBX00 hfBX00 hcBX01 hfBX01 hcBX10 hfBX10 hcBX11 hfBX11 hcBX20 hfBX20 hcBX21 hfBX21
   refine start_ (n := 5) (S := fun w' => w'.cell? ⟨gx0, 0, none⟩ = some (.slice Ax0_0 x0_0.length cx0_0) ∧ w'.cell? ⟨gx0, 1, none⟩ = some (.slice Ax0_1 x0_1.length cx0_1) ∧ w'.cell? ⟨ga0, 0, none⟩ = some (.slice A0_0 l0_0.length c0_0) ∧ w'.cell? ⟨ga0, 1, none⟩ = some (.slice A0_1 l0_1.length c0_1)) (ds := []) #[false, false, false, false, false] (by kernel_rfl) rfl rfl ⟨(blk_cell BX0.out 0).trans rfl, (blk_cell BX0.out 1).trans rfl, (blk_cell BA0.out 0).trans rfl, (blk_cell BA0.out 1).trans rfl⟩ (fun hHeld => ?_)
   generalize w30.drew = w31 at HS0 HS1 HY0_0 HY0_1 HY1_1 HY2_0 HY2_1 BA0 BA1 BS BX0 BX1 BX2 HB hHeld ⊢
   refine take_ (i := 0) (N := some 54) (v := ?_) (a' := ?_) #[true, false, false, false, false] rfl rfl (by kernel_rfl) (fun _ _ _ h => h) (Or.inl ⟨by rfl, ?_⟩) hHeld ?_ ?_
   rotate_left
   ·rintro w' ⟨s0_, s1_, s2_, s3_⟩
    go_simp
    with_reducible rfl
   rotate_left
   ·simp only [Act.put, qa_, qz_, qs_, i64_w, i32_w]
    rfl
   refine take_ (i := 1) (N := some 55) (v := ?_) (a' := ?_) #[true, true, false, false, false] rfl rfl (by kernel_rfl) (fun _ _ _ h => h) (Or.inl ⟨by rfl, ?_⟩) hHeld ?_ ?_
   rotate_left
   ·rintro w' ⟨s0_, s1_, s2_, s3_⟩
    go_simp
    with_reducible rfl
   rotate_left
   ·simp only [Act.put, qa_, qz_, qs_, i64_w, i32_w]
    rfl
   refine one_ (i := 2) (N := some 56) #[true, true, true, false, false] rfl rfl (by kernel_rfl) (by decide) (fun K hK => ?_)
   refine goes_ Try.func7 (by kernel_rfl) rfl #[.agg #[.slice A0_0 l0_0.length c0_0, .slice A0_1 l0_1.length c0_1]] (by rfl) rfl rfl (by (try simp only [List.map_toArray, List.map_cons, List.map_nil]); first | done | rfl | (simp only [List.length_drop, List.length_take]; rfl)) ?_
   (with_reducible refine (laws_toGround.calls k A0_0 c0_0 l0_0 A0_1 c0_1 l0_1 x0_0 x0_1 _ (Kd.C_below HR0_0.out HB.out) HC0_0.out (Kd.C_below HR0_1.out HB.out) HC0_1.out BT0.out).mono ?_)
   rintro e w32 ⟨v0, v1, rfl, ho0, ho1, hb⟩
   refine ⟨_, rfl, ?_⟩
   have HT0_0 := Aside0.mk ho0
   have HT0_1 := Aside0.mk ho1
   have HB_ := Aside0.mk (below_step HB.out hb)
   have BA0_ := Aside0.mk (blk_below (g := ga0) (o := .cells #[.slice A0_0 l0_0.length c0_0, .slice A0_1 l0_1.length c0_1] 25 (0, 0)) BA0.out hb)
   have BA1_ := Aside0.mk (blk_below (g := ga1) (o := .cells #[.int .i64 a1_0, .slice A1_1 l1_1.length c1_1] 27 (0, 0)) BA1.out hb)
   have BS_ := Aside0.mk (blk_below (g := gs) (o := .cells #[.slice As0 s0.length cs0, .slice As1 s1.length cs1] 32 (0, 0)) BS.out hb)
   have BX0_ := Aside0.mk (blk_below (g := gx0) (o := .cells #[.slice Ax0_0 x0_0.length cx0_0, .slice Ax0_1 x0_1.length cx0_1] 32 (0, 0)) BX0.out hb)
   have BX1_ := Aside0.mk (blk_below (g := gx1) (o := .cells #[.int .i64 x1_0, .slice Ax1_1 x1_1.length cx1_1] 36 (0, 0)) BX1.out hb)
   have BX2_ := Aside0.mk (blk_below (g := gg) (o := .cells #[.slice Agg0 g0.length cgg0, .slice Agg1 g1.length cgg1] 32 (0, 0)) BX2.out hb)
   have HS0_ := Aside0.mk (Kd.R_below HS0.out hb)
   have HS1_ := Aside0.mk (Kd.S_below HS1.out hb)
   have HY0_0_ := Aside0.mk (Kd.R_below HY0_0.out hb)
   have HY0_1_ := Aside0.mk (Kd.S_below HY0_1.out hb)
   have HY1_1_ := Aside0.mk (Kd.R_below HY1_1.out hb)
   have HY2_0_ := Aside0.mk (Kd.R_below HY2_0.out hb)
   have HY2_1_ := Aside0.mk (Kd.S_below HY2_1.out hb)
   clear hb ho0 ho1
   clear HB BA0 BA1 BS BX0 BX1 BX2 HS0 HS1 HY0_0 HY0_1 HY1_1 HY2_0 HY2_1
   have HB := HB_
   have BA0 := BA0_
   have BA1 := BA1_
   have BS := BS_
   have BX0 := BX0_
   have BX1 := BX1_
   have BX2 := BX2_
   have HS0 := HS0_
   have HS1 := HS1_
   have HY0_0 := HY0_0_
   have HY0_1 := HY0_1_
   have HY1_1 := HY1_1_
   have HY2_0 := HY2_0_
   have HY2_1 := HY2_1_
   clear HB_ BA0_ BA1_ BS_ BX0_ BX1_ BX2_ HS0_ HS1_ HY0_0_ HY0_1_ HY1_1_ HY2_0_ HY2_1_
   have hcBA00 : w32.cell? ⟨ga0, 0, none⟩ = some (.slice A0_0 l0_0.length c0_0) := (blk_cell BA0.out 0).trans rfl
   have hfBA00 := blk_frozen BA0.out 0
   have hcBA01 : w32.cell? ⟨ga0, 1, none⟩ = some (.slice A0_1 l0_1.length c0_1) := (blk_cell BA0.out 1).trans rfl
   have hfBA01 := blk_frozen BA0.out 1
   have hcBA10 : w32.cell? ⟨ga1, 0, none⟩ = some (.int .i64 a1_0) := (blk_cell BA1.out 0).trans rfl
   have hfBA10 := blk_frozen BA1.out 0
   have hcBA11 : w32.cell? ⟨ga1, 1, none⟩ = some (.slice A1_1 l1_1.length c1_1) := (blk_cell BA1.out 1).trans rfl
   have hfBA11 := blk_frozen BA1.out 1
   have hcBS0 : w32.cell? ⟨gs, 0, none⟩ = some (.slice As0 s0.length cs0) := (blk_cell BS.out 0).trans rfl
   have hfBS0 := blk_frozen BS.out 0
   have hcBS1 : w32.cell? ⟨gs, 1, none⟩ = some (.slice As1 s1.length cs1) := (blk_cell BS.out 1).trans rfl
   have hfBS1 := blk_frozen BS.out 1
   have hcBX00 : w32.cell? ⟨gx0, 0, none⟩ = some (.slice Ax0_0 x0_0.length cx0_0) := (blk_cell BX0.out 0).trans rfl
   have hfBX00 := blk_frozen BX0.out 0
   have hcBX01 : w32.cell? ⟨gx0, 1, none⟩ = some (.slice Ax0_1 x0_1.length cx0_1) := (blk_cell BX0.out 1).trans rfl
   have hfBX01 := blk_frozen BX0.out 1
   have hcBX10 : w32.cell? ⟨gx1, 0, none⟩ = some (.int .i64 x1_0) := (blk_cell BX1.out 0).trans rfl
   have hfBX10 := blk_frozen BX1.out 0
   have hcBX11 : w32.cell? ⟨gx1, 1, none⟩ = some (.slice Ax1_1 x1_1.length cx1_1) := (blk_cell BX1.out 1).trans rfl
   have hfBX11 := blk_frozen BX1.out 1
   have hcBX20 : w32.cell? ⟨gg, 0, none⟩ = some (.slice Agg0 g0.length cgg0) := (blk_cell BX2.out 0).trans rfl
   have hfBX20 := blk_frozen BX2.out 0
   have hcBX21 : w32.cell? ⟨gg, 1, none⟩ = some (.slice Agg1 g1.length cgg1) := (blk_cell BX2.out 1).trans rfl
   have hfBX21 := blk_frozen BX2.out 1
   clear hcBA00 hfBA00 hcBA01 hfBA01 hcBA10 hfBA10 hcBA11 hfBA11 hcBS0 hfBS0 hcBS1 hfBS1 hcBX00 hfBX00 hcBX01 hfBX01 hcBX10 hfBX10 hcBX11 hfBX11 hcBX20 hfBX20 hcBX21 hfBX21
   obtain ⟨Ar0_0, cr0_0, er0_0⟩ := Kd.R_slice HT0_0.out
   subst er0_0
   obtain ⟨Ar0_1, cr0_1, er0_1⟩ := Kd.S_slice HT0_1.out
   subst er0_1
   refine hK.out _ _ ⟨(blk_cell BX0.out 0).trans rfl, (blk_cell BX0.out 1).trans rfl, (blk_cell BA0.out 0).trans rfl, (blk_cell BA0.out 1).trans rfl⟩ (fun hHeld => ?_)
   clear hK K
   refine norm_ (a' := ?_) ?_ ?_
   rotate_left
   ·show Act.put _ (some 56) _ = _
    simp only [Act.put, qa_, qz_, qs_, i64_w, i32_w]
    rfl
   refine one_ (i := 3) (N := some 57) #[true, true, true, true, false] rfl rfl (by kernel_rfl) (by decide) (fun K hK => ?_)
   refine goes_ Try.func10 (by kernel_rfl) rfl #[.agg #[.slice Ax0_0 x0_0.length cx0_0, .slice Ax0_1 x0_1.length cx0_1], .agg #[.slice Ar0_0 x0_0.length cr0_0, .slice Ar0_1 x0_1.length cr0_1]] (by rfl) rfl rfl (by (try simp only [List.map_toArray, List.map_cons, List.map_nil]); first | done | rfl | (simp only [List.length_drop, List.length_take]; rfl)) ?_
   (with_reducible refine (laws_eqGround.calls k Ax0_0 cx0_0 x0_0 Ax0_1 cx0_1 x0_1 Ar0_0 cr0_0 x0_0 Ar0_1 cr0_1 x0_1 true _ (Kd.R_reads' HY0_0.out).2.2 (Kd.R_reads' HY0_0.out).2.1 (Kd.S_reads' HY0_1.out).2.2 (Kd.S_reads' HY0_1.out).2.1 (Kd.R_reads' HT0_0.out).2.2 (Kd.R_reads' HT0_0.out).2.1 (Kd.S_reads' HT0_1.out).2.2 (Kd.S_reads' HT0_1.out).2.1 BQ0.out).mono ?_)
   rintro e w33 ⟨rfl, hb⟩
   refine ⟨_, rfl, ?_⟩
   have HB_ := Aside0.mk (below_step HB.out hb)
   have BA0_ := Aside0.mk (blk_below (g := ga0) (o := .cells #[.slice A0_0 l0_0.length c0_0, .slice A0_1 l0_1.length c0_1] 25 (0, 0)) BA0.out hb)
   have BA1_ := Aside0.mk (blk_below (g := ga1) (o := .cells #[.int .i64 a1_0, .slice A1_1 l1_1.length c1_1] 27 (0, 0)) BA1.out hb)
   have BS_ := Aside0.mk (blk_below (g := gs) (o := .cells #[.slice As0 s0.length cs0, .slice As1 s1.length cs1] 32 (0, 0)) BS.out hb)
   have BX0_ := Aside0.mk (blk_below (g := gx0) (o := .cells #[.slice Ax0_0 x0_0.length cx0_0, .slice Ax0_1 x0_1.length cx0_1] 32 (0, 0)) BX0.out hb)
   have BX1_ := Aside0.mk (blk_below (g := gx1) (o := .cells #[.int .i64 x1_0, .slice Ax1_1 x1_1.length cx1_1] 36 (0, 0)) BX1.out hb)
   have BX2_ := Aside0.mk (blk_below (g := gg) (o := .cells #[.slice Agg0 g0.length cgg0, .slice Agg1 g1.length cgg1] 32 (0, 0)) BX2.out hb)
   have HS0_ := Aside0.mk (Kd.R_below HS0.out hb)
   have HS1_ := Aside0.mk (Kd.S_below HS1.out hb)
   have HY0_0_ := Aside0.mk (Kd.R_below HY0_0.out hb)
   have HY0_1_ := Aside0.mk (Kd.S_below HY0_1.out hb)
   have HY1_1_ := Aside0.mk (Kd.R_below HY1_1.out hb)
   have HY2_0_ := Aside0.mk (Kd.R_below HY2_0.out hb)
   have HY2_1_ := Aside0.mk (Kd.S_below HY2_1.out hb)
   clear hb HT0_0 HT0_1
   clear HB BA0 BA1 BS BX0 BX1 BX2 HS0 HS1 HY0_0 HY0_1 HY1_1 HY2_0 HY2_1
   have HB := HB_
   have BA0 := BA0_
   have BA1 := BA1_
   have BS := BS_
   have BX0 := BX0_
   have BX1 := BX1_
   have BX2 := BX2_
   have HS0 := HS0_
   have HS1 := HS1_
   have HY0_0 := HY0_0_
   have HY0_1 := HY0_1_
   have HY1_1 := HY1_1_
   have HY2_0 := HY2_0_
   have HY2_1 := HY2_1_
   clear HB_ BA0_ BA1_ BS_ BX0_ BX1_ BX2_ HS0_ HS1_ HY0_0_ HY0_1_ HY1_1_ HY2_0_ HY2_1_
   have hcBA00 : w33.cell? ⟨ga0, 0, none⟩ = some (.slice A0_0 l0_0.length c0_0) := (blk_cell BA0.out 0).trans rfl
   have hfBA00 := blk_frozen BA0.out 0
   have hcBA01 : w33.cell? ⟨ga0, 1, none⟩ = some (.slice A0_1 l0_1.length c0_1) := (blk_cell BA0.out 1).trans rfl
   have hfBA01 := blk_frozen BA0.out 1
   have hcBA10 : w33.cell? ⟨ga1, 0, none⟩ = some (.int .i64 a1_0) := (blk_cell BA1.out 0).trans rfl
   have hfBA10 := blk_frozen BA1.out 0
   have hcBA11 : w33.cell? ⟨ga1, 1, none⟩ = some (.slice A1_1 l1_1.length c1_1) := (blk_cell BA1.out 1).trans rfl
   have hfBA11 := blk_frozen BA1.out 1
   have hcBS0 : w33.cell? ⟨gs, 0, none⟩ = some (.slice As0 s0.length cs0) := (blk_cell BS.out 0).trans rfl
   have hfBS0 := blk_frozen BS.out 0
   have hcBS1 : w33.cell? ⟨gs, 1, none⟩ = some (.slice As1 s1.length cs1) := (blk_cell BS.out 1).trans rfl
   have hfBS1 := blk_frozen BS.out 1
   have hcBX00 : w33.cell? ⟨gx0, 0, none⟩ = some (.slice Ax0_0 x0_0.length cx0_0) := (blk_cell BX0.out 0).trans rfl
   have hfBX00 := blk_frozen BX0.out 0
   have hcBX01 : w33.cell? ⟨gx0, 1, none⟩ = some (.slice Ax0_1 x0_1.length cx0_1) := (blk_cell BX0.out 1).trans rfl
   have hfBX01 := blk_frozen BX0.out 1
   have hcBX10 : w33.cell? ⟨gx1, 0, none⟩ = some (.int .i64 x1_0) := (blk_cell BX1.out 0).trans rfl
   have hfBX10 := blk_frozen BX1.out 0
   have hcBX11 : w33.cell? ⟨gx1, 1, none⟩ = some (.slice Ax1_1 x1_1.length cx1_1) := (blk_cell BX1.out 1).trans rfl
   have hfBX11 := blk_frozen BX1.out 1
   have hcBX20 : w33.cell? ⟨gg, 0, none⟩ = some (.slice Agg0 g0.length cgg0) := (blk_cell BX2.out 0).trans rfl
   have hfBX20 := blk_frozen BX2.out 0
   have hcBX21 : w33.cell? ⟨gg, 1, none⟩ = some (.slice Agg1 g1.length cgg1) := (blk_cell BX2.out 1).trans rfl
   have hfBX21 := blk_frozen BX2.out 1
   clear hcBA00 hfBA00 hcBA01 hfBA01 hcBA10 hfBA10 hcBA11 hfBA11 hcBS0 hfBS0 hcBS1 hfBS1 hcBX00 hfBX00 hcBX01 hfBX01 hcBX10 hfBX10 hcBX11 hfBX11 hcBX20 hfBX20 hcBX21 hfBX21
   refine hK.out _ _ ⟨(blk_cell BX0.out 0).trans rfl, (blk_cell BX0.out 1).trans rfl, (blk_cell BA0.out 0).trans rfl, (blk_cell BA0.out 1).trans rfl⟩ (fun hHeld => ?_)
   clear hK K
   refine norm_ (a' := ?_) ?_ ?_
   rotate_left
   ·show Act.put _ (some 57) _ = _
    simp only [Act.put, qa_, qz_, qs_, i64_w, i32_w]
    rfl
   refine pure_ (i := 4) (N := some 58) (v := ?_) (a' := ?_) #[true, true, true, true, true] rfl rfl (by kernel_rfl) (fun _ _ _ h => h) (Or.inl ⟨by rfl, ?_⟩) ?_ ?_
   rotate_left
   ·intro w'
    go_simp
    with_reducible rfl
   rotate_left
   ·simp only [Act.put, qa_, qz_, qs_, i64_w, i32_w]
    rfl
   refine done_ (by kernel_rfl) ?_
   have hcBA00 : w33.cell? ⟨ga0, 0, none⟩ = some (.slice A0_0 l0_0.length c0_0) := (blk_cell BA0.out 0).trans rfl
   have hfBA00 := blk_frozen BA0.out 0
   have hcBA01 : w33.cell? ⟨ga0, 1, none⟩ = some (.slice A0_1 l0_1.length c0_1) := (blk_cell BA0.out 1).trans rfl
   have hfBA01 := blk_frozen BA0.out 1
   have hcBA10 : w33.cell? ⟨ga1, 0, none⟩ = some (.int .i64 a1_0) := (blk_cell BA1.out 0).trans rfl
   have hfBA10 := blk_frozen BA1.out 0
   have hcBA11 : w33.cell? ⟨ga1, 1, none⟩ = some (.slice A1_1 l1_1.length c1_1) := (blk_cell BA1.out 1).trans rfl
   have hfBA11 := blk_frozen BA1.out 1
   have hcBS0 : w33.cell? ⟨gs, 0, none⟩ = some (.slice As0 s0.length cs0) := (blk_cell BS.out 0).trans rfl
   have hfBS0 := blk_frozen BS.out 0
   have hcBS1 : w33.cell? ⟨gs, 1, none⟩ = some (.slice As1 s1.length cs1) := (blk_cell BS.out 1).trans rfl
   have hfBS1 := blk_frozen BS.out 1
   have hcBX00 : w33.cell? ⟨gx0, 0, none⟩ = some (.slice Ax0_0 x0_0.length cx0_0) := (blk_cell BX0.out 0).trans rfl
   have hfBX00 := blk_frozen BX0.out 0
   have hcBX01 : w33.cell? ⟨gx0, 1, none⟩ = some (.slice Ax0_1 x0_1.length cx0_1) := (blk_cell BX0.out 1).trans rfl
   have hfBX01 := blk_frozen BX0.out 1
   have hcBX10 : w33.cell? ⟨gx1, 0, none⟩ = some (.int .i64 x1_0) := (blk_cell BX1.out 0).trans rfl
   have hfBX10 := blk_frozen BX1.out 0
   have hcBX11 : w33.cell? ⟨gx1, 1, none⟩ = some (.slice Ax1_1 x1_1.length cx1_1) := (blk_cell BX1.out 1).trans rfl
   have hfBX11 := blk_frozen BX1.out 1
   have hcBX20 : w33.cell? ⟨gg, 0, none⟩ = some (.slice Agg0 g0.length cgg0) := (blk_cell BX2.out 0).trans rfl
   have hfBX20 := blk_frozen BX2.out 0
   have hcBX21 : w33.cell? ⟨gg, 1, none⟩ = some (.slice Agg1 g1.length cgg1) := (blk_cell BX2.out 1).trans rfl
   have hfBX21 := blk_frozen BX2.out 1
   try go_wp2
   have HS0_ := Aside0.mk (Kd.R_drew HS0.out)
   have HS1_ := Aside0.mk (Kd.S_drew HS1.out)
   have HY0_0_ := Aside0.mk (Kd.R_drew HY0_0.out)
   have HY0_1_ := Aside0.mk (Kd.S_drew HY0_1.out)
   have HY1_1_ := Aside0.mk (Kd.R_drew HY1_1.out)
   have HY2_0_ := Aside0.mk (Kd.R_drew HY2_0.out)
   have HY2_1_ := Aside0.mk (Kd.S_drew HY2_1.out)
   have BA0_ := Aside0.mk (blk_drew BA0.out)
   have BA1_ := Aside0.mk (blk_drew BA1.out)
   have BS_ := Aside0.mk (blk_drew BS.out)
   have BX0_ := Aside0.mk (blk_drew BX0.out)
   have BX1_ := Aside0.mk (blk_drew BX1.out)
   have BX2_ := Aside0.mk (blk_drew BX2.out)
   have HB_ := Aside0.mk (below_drew1 HB.out)
   clear HS0 HS1 HY0_0 HY0_1 HY1_1 HY2_0 HY2_1 BA0 BA1 BS BX0 BX1 BX2 HB
   have HS0 := HS0_
   have HS1 := HS1_
   have HY0_0 := HY0_0_
   have HY0_1 := HY0_1_
   have HY1_1 := HY1_1_
   have HY2_0 := HY2_0_
   have HY2_1 := HY2_1_
   have BA0 := BA0_
   have BA1 := BA1_
   have BS := BS_
   have BX0 := BX0_
   have BX1 := BX1_
   have BX2 := BX2_
   have HB := HB_
   clear HS0_ HS1_ HY0_0_ HY0_1_ HY1_1_ HY2_0_ HY2_1_ BA0_ BA1_ BS_ BX0_ BX1_ BX2_ HB_
   clear hcBA00 hfBA00 hcBA01 hfBA01 hcBA10 hfBA10 hcBA11 hfBA11 hcBS0 hfBS0 hcBS1 hfBS1 hcBX00 hfBX00 hcBX01 hfBX01 hcBX10 hfBX10 hcBX11 hfBX11 hcBX20 hfBX20 hcBX21 hfBX21
   refine start_ (n := 5) (S := fun w' => w'.cell? ⟨gx1, 0, none⟩ = some (.int .i64 x1_0) ∧ w'.cell? ⟨gx1, 1, none⟩ = some (.slice Ax1_1 x1_1.length cx1_1) ∧ w'.cell? ⟨ga1, 0, none⟩ = some (.int .i64 a1_0) ∧ w'.cell? ⟨ga1, 1, none⟩ = some (.slice A1_1 l1_1.length c1_1)) (ds := []) #[false, false, false, false, false] (by kernel_rfl) rfl rfl ⟨(blk_cell BX1.out 0).trans rfl, (blk_cell BX1.out 1).trans rfl, (blk_cell BA1.out 0).trans rfl, (blk_cell BA1.out 1).trans rfl⟩ (fun hHeld => ?_)
   generalize w33.drew = w34 at HS0 HS1 HY0_0 HY0_1 HY1_1 HY2_0 HY2_1 BA0 BA1 BS BX0 BX1 BX2 HB hHeld ⊢
   refine take_ (i := 0) (N := some 59) (v := ?_) (a' := ?_) #[true, false, false, false, false] rfl rfl (by kernel_rfl) (fun _ _ _ h => h) (Or.inl ⟨by rfl, ?_⟩) hHeld ?_ ?_
   rotate_left
   ·rintro w' ⟨s0_, s1_, s2_, s3_⟩
    go_simp
    with_reducible rfl
   rotate_left
   ·simp only [Act.put, qa_, qz_, qs_, i64_w, i32_w]
    rfl
   refine take_ (i := 1) (N := some 60) (v := ?_) (a' := ?_) #[true, true, false, false, false] rfl rfl (by kernel_rfl) (fun _ _ _ h => h) (Or.inl ⟨by rfl, ?_⟩) hHeld ?_ ?_
   rotate_left
   ·rintro w' ⟨s0_, s1_, s2_, s3_⟩
    go_simp
    with_reducible rfl
   rotate_left
   ·simp only [Act.put, qa_, qz_, qs_, i64_w, i32_w]
    rfl
   refine one_ (i := 2) (N := some 61) #[true, true, true, false, false] rfl rfl (by kernel_rfl) (by decide) (fun K hK => ?_)
   refine goes_ Try.func8 (by kernel_rfl) rfl #[.agg #[.int .i64 a1_0, .slice A1_1 l1_1.length c1_1]] (by rfl) rfl rfl (by (try simp only [List.map_toArray, List.map_cons, List.map_nil]); first | done | rfl | (simp only [List.length_drop, List.length_take]; rfl)) ?_
   (with_reducible refine (laws_toHole.calls k a1_0 A1_1 c1_1 l1_1 x1_0 x1_1 _ (Kd.C_below HR1_1.out HB.out) HC1_1.out BT1.out).mono ?_)
   rintro e w35 ⟨v0, rfl, ho0, hb⟩
   refine ⟨_, rfl, ?_⟩
   have HT1_1 := Aside0.mk ho0
   have HB_ := Aside0.mk (below_step HB.out hb)
   have BA0_ := Aside0.mk (blk_below (g := ga0) (o := .cells #[.slice A0_0 l0_0.length c0_0, .slice A0_1 l0_1.length c0_1] 25 (0, 0)) BA0.out hb)
   have BA1_ := Aside0.mk (blk_below (g := ga1) (o := .cells #[.int .i64 a1_0, .slice A1_1 l1_1.length c1_1] 27 (0, 0)) BA1.out hb)
   have BS_ := Aside0.mk (blk_below (g := gs) (o := .cells #[.slice As0 s0.length cs0, .slice As1 s1.length cs1] 32 (0, 0)) BS.out hb)
   have BX0_ := Aside0.mk (blk_below (g := gx0) (o := .cells #[.slice Ax0_0 x0_0.length cx0_0, .slice Ax0_1 x0_1.length cx0_1] 32 (0, 0)) BX0.out hb)
   have BX1_ := Aside0.mk (blk_below (g := gx1) (o := .cells #[.int .i64 x1_0, .slice Ax1_1 x1_1.length cx1_1] 36 (0, 0)) BX1.out hb)
   have BX2_ := Aside0.mk (blk_below (g := gg) (o := .cells #[.slice Agg0 g0.length cgg0, .slice Agg1 g1.length cgg1] 32 (0, 0)) BX2.out hb)
   have HS0_ := Aside0.mk (Kd.R_below HS0.out hb)
   have HS1_ := Aside0.mk (Kd.S_below HS1.out hb)
   have HY0_0_ := Aside0.mk (Kd.R_below HY0_0.out hb)
   have HY0_1_ := Aside0.mk (Kd.S_below HY0_1.out hb)
   have HY1_1_ := Aside0.mk (Kd.R_below HY1_1.out hb)
   have HY2_0_ := Aside0.mk (Kd.R_below HY2_0.out hb)
   have HY2_1_ := Aside0.mk (Kd.S_below HY2_1.out hb)
   clear hb ho0
   clear HB BA0 BA1 BS BX0 BX1 BX2 HS0 HS1 HY0_0 HY0_1 HY1_1 HY2_0 HY2_1
   have HB := HB_
   have BA0 := BA0_
   have BA1 := BA1_
   have BS := BS_
   have BX0 := BX0_
   have BX1 := BX1_
   have BX2 := BX2_
   have HS0 := HS0_
   have HS1 := HS1_
   have HY0_0 := HY0_0_
   have HY0_1 := HY0_1_
   have HY1_1 := HY1_1_
   have HY2_0 := HY2_0_
   have HY2_1 := HY2_1_
   clear HB_ BA0_ BA1_ BS_ BX0_ BX1_ BX2_ HS0_ HS1_ HY0_0_ HY0_1_ HY1_1_ HY2_0_ HY2_1_
   have hcBA00 : w35.cell? ⟨ga0, 0, none⟩ = some (.slice A0_0 l0_0.length c0_0) := (blk_cell BA0.out 0).trans rfl
   have hfBA00 := blk_frozen BA0.out 0
   have hcBA01 : w35.cell? ⟨ga0, 1, none⟩ = some (.slice A0_1 l0_1.length c0_1) := (blk_cell BA0.out 1).trans rfl
   have hfBA01 := blk_frozen BA0.out 1
   have hcBA10 : w35.cell? ⟨ga1, 0, none⟩ = some (.int .i64 a1_0) := (blk_cell BA1.out 0).trans rfl
   have hfBA10 := blk_frozen BA1.out 0
   have hcBA11 : w35.cell? ⟨ga1, 1, none⟩ = some (.slice A1_1 l1_1.length c1_1) := (blk_cell BA1.out 1).trans rfl
   have hfBA11 := blk_frozen BA1.out 1
   have hcBS0 : w35.cell? ⟨gs, 0, none⟩ = some (.slice As0 s0.length cs0) := (blk_cell BS.out 0).trans rfl
   have hfBS0 := blk_frozen BS.out 0
   have hcBS1 : w35.cell? ⟨gs, 1, none⟩ = some (.slice As1 s1.length cs1) := (blk_cell BS.out 1).trans rfl
   have hfBS1 := blk_frozen BS.out 1
   have hcBX00 : w35.cell? ⟨gx0, 0, none⟩ = some (.slice Ax0_0 x0_0.length cx0_0) := (blk_cell BX0.out 0).trans rfl
   have hfBX00 := blk_frozen BX0.out 0
   have hcBX01 : w35.cell? ⟨gx0, 1, none⟩ = some (.slice Ax0_1 x0_1.length cx0_1) := (blk_cell BX0.out 1).trans rfl
   have hfBX01 := blk_frozen BX0.out 1
   have hcBX10 : w35.cell? ⟨gx1, 0, none⟩ = some (.int .i64 x1_0) := (blk_cell BX1.out 0).trans rfl
   have hfBX10 := blk_frozen BX1.out 0
   have hcBX11 : w35.cell? ⟨gx1, 1, none⟩ = some (.slice Ax1_1 x1_1.length cx1_1) := (blk_cell BX1.out 1).trans rfl
   have hfBX11 := blk_frozen BX1.out 1
   have hcBX20 : w35.cell? ⟨gg, 0, none⟩ = some (.slice Agg0 g0.length cgg0) := (blk_cell BX2.out 0).trans rfl
   have hfBX20 := blk_frozen BX2.out 0
   have hcBX21 : w35.cell? ⟨gg, 1, none⟩ = some (.slice Agg1 g1.length cgg1) := (blk_cell BX2.out 1).trans rfl
   have hfBX21 := blk_frozen BX2.out 1
   clear hcBA00 hfBA00 hcBA01 hfBA01 hcBA10 hfBA10 hcBA11 hfBA11 hcBS0 hfBS0 hcBS1 hfBS1 hcBX00 hfBX00 hcBX01 hfBX01 hcBX10 hfBX10 hcBX11 hfBX11 hcBX20 hfBX20 hcBX21 hfBX21
   obtain ⟨Ar1_1, cr1_1, er1_1⟩ := Kd.R_slice HT1_1.out
   subst er1_1
   refine hK.out _ _ ⟨(blk_cell BX1.out 0).trans rfl, (blk_cell BX1.out 1).trans rfl, (blk_cell BA1.out 0).trans rfl, (blk_cell BA1.out 1).trans rfl⟩ (fun hHeld => ?_)
   clear hK K
   refine norm_ (a' := ?_) ?_ ?_
   rotate_left
   ·show Act.put _ (some 61) _ = _
    simp only [Act.put, qa_, qz_, qs_, i64_w, i32_w]
    rfl
   refine one_ (i := 3) (N := some 62) #[true, true, true, true, false] rfl rfl (by kernel_rfl) (by decide) (fun K hK => ?_)
   refine goes_ Try.func11 (by kernel_rfl) rfl #[.agg #[.int .i64 x1_0, .slice Ax1_1 x1_1.length cx1_1], .agg #[.int .i64 x1_0, .slice Ar1_1 x1_1.length cr1_1]] (by rfl) rfl rfl (by (try simp only [List.map_toArray, List.map_cons, List.map_nil]); first | done | rfl | (simp only [List.length_drop, List.length_take]; rfl)) ?_
   (with_reducible refine (laws_eqHole.calls k x1_0 Ax1_1 cx1_1 x1_1 x1_0 Ar1_1 cr1_1 x1_1 true _ (Kd.R_reads' HY1_1.out).2.2 (Kd.R_reads' HY1_1.out).2.1 (Kd.R_reads' HT1_1.out).2.2 (Kd.R_reads' HT1_1.out).2.1 BQ1.out).mono ?_)
   rintro e w36 ⟨rfl, hb⟩
   refine ⟨_, rfl, ?_⟩
   have HB_ := Aside0.mk (below_step HB.out hb)
   have BA0_ := Aside0.mk (blk_below (g := ga0) (o := .cells #[.slice A0_0 l0_0.length c0_0, .slice A0_1 l0_1.length c0_1] 25 (0, 0)) BA0.out hb)
   have BA1_ := Aside0.mk (blk_below (g := ga1) (o := .cells #[.int .i64 a1_0, .slice A1_1 l1_1.length c1_1] 27 (0, 0)) BA1.out hb)
   have BS_ := Aside0.mk (blk_below (g := gs) (o := .cells #[.slice As0 s0.length cs0, .slice As1 s1.length cs1] 32 (0, 0)) BS.out hb)
   have BX0_ := Aside0.mk (blk_below (g := gx0) (o := .cells #[.slice Ax0_0 x0_0.length cx0_0, .slice Ax0_1 x0_1.length cx0_1] 32 (0, 0)) BX0.out hb)
   have BX1_ := Aside0.mk (blk_below (g := gx1) (o := .cells #[.int .i64 x1_0, .slice Ax1_1 x1_1.length cx1_1] 36 (0, 0)) BX1.out hb)
   have BX2_ := Aside0.mk (blk_below (g := gg) (o := .cells #[.slice Agg0 g0.length cgg0, .slice Agg1 g1.length cgg1] 32 (0, 0)) BX2.out hb)
   have HS0_ := Aside0.mk (Kd.R_below HS0.out hb)
   have HS1_ := Aside0.mk (Kd.S_below HS1.out hb)
   have HY0_0_ := Aside0.mk (Kd.R_below HY0_0.out hb)
   have HY0_1_ := Aside0.mk (Kd.S_below HY0_1.out hb)
   have HY1_1_ := Aside0.mk (Kd.R_below HY1_1.out hb)
   have HY2_0_ := Aside0.mk (Kd.R_below HY2_0.out hb)
   have HY2_1_ := Aside0.mk (Kd.S_below HY2_1.out hb)
   clear hb HT1_1
   clear HB BA0 BA1 BS BX0 BX1 BX2 HS0 HS1 HY0_0 HY0_1 HY1_1 HY2_0 HY2_1
   have HB := HB_
   have BA0 := BA0_
   have BA1 := BA1_
   have BS := BS_
   have BX0 := BX0_
   have BX1 := BX1_
   have BX2 := BX2_
   have HS0 := HS0_
   have HS1 := HS1_
   have HY0_0 := HY0_0_
   have HY0_1 := HY0_1_
   have HY1_1 := HY1_1_
   have HY2_0 := HY2_0_
   have HY2_1 := HY2_1_
   clear HB_ BA0_ BA1_ BS_ BX0_ BX1_ BX2_ HS0_ HS1_ HY0_0_ HY0_1_ HY1_1_ HY2_0_ HY2_1_
   have hcBA00 : w36.cell? ⟨ga0, 0, none⟩ = some (.slice A0_0 l0_0.length c0_0) := (blk_cell BA0.out 0).trans rfl
   have hfBA00 := blk_frozen BA0.out 0
   have hcBA01 : w36.cell? ⟨ga0, 1, none⟩ = some (.slice A0_1 l0_1.length c0_1) := (blk_cell BA0.out 1).trans rfl
   have hfBA01 := blk_frozen BA0.out 1
   have hcBA10 : w36.cell? ⟨ga1, 0, none⟩ = some (.int .i64 a1_0) := (blk_cell BA1.out 0).trans rfl
   have hfBA10 := blk_frozen BA1.out 0
   have hcBA11 : w36.cell? ⟨ga1, 1, none⟩ = some (.slice A1_1 l1_1.length c1_1) := (blk_cell BA1.out 1).trans rfl
   have hfBA11 := blk_frozen BA1.out 1
   have hcBS0 : w36.cell? ⟨gs, 0, none⟩ = some (.slice As0 s0.length cs0) := (blk_cell BS.out 0).trans rfl
   have hfBS0 := blk_frozen BS.out 0
   have hcBS1 : w36.cell? ⟨gs, 1, none⟩ = some (.slice As1 s1.length cs1) := (blk_cell BS.out 1).trans rfl
   have hfBS1 := blk_frozen BS.out 1
   have hcBX00 : w36.cell? ⟨gx0, 0, none⟩ = some (.slice Ax0_0 x0_0.length cx0_0) := (blk_cell BX0.out 0).trans rfl
   have hfBX00 := blk_frozen BX0.out 0
   have hcBX01 : w36.cell? ⟨gx0, 1, none⟩ = some (.slice Ax0_1 x0_1.length cx0_1) := (blk_cell BX0.out 1).trans rfl
   have hfBX01 := blk_frozen BX0.out 1
   have hcBX10 : w36.cell? ⟨gx1, 0, none⟩ = some (.int .i64 x1_0) := (blk_cell BX1.out 0).trans rfl
   have hfBX10 := blk_frozen BX1.out 0
   have hcBX11 : w36.cell? ⟨gx1, 1, none⟩ = some (.slice Ax1_1 x1_1.length cx1_1) := (blk_cell BX1.out 1).trans rfl
   have hfBX11 := blk_frozen BX1.out 1
   have hcBX20 : w36.cell? ⟨gg, 0, none⟩ = some (.slice Agg0 g0.length cgg0) := (blk_cell BX2.out 0).trans rfl
   have hfBX20 := blk_frozen BX2.out 0
   have hcBX21 : w36.cell? ⟨gg, 1, none⟩ = some (.slice Agg1 g1.length cgg1) := (blk_cell BX2.out 1).trans rfl
   have hfBX21 := blk_frozen BX2.out 1
   clear hcBA00 hfBA00 hcBA01 hfBA01 hcBA10 hfBA10 hcBA11 hfBA11 hcBS0 hfBS0 hcBS1 hfBS1 hcBX00 hfBX00 hcBX01 hfBX01 hcBX10 hfBX10 hcBX11 hfBX11 hcBX20 hfBX20 hcBX21 hfBX21
   refine hK.out _ _ ⟨(blk_cell BX1.out 0).trans rfl, (blk_cell BX1.out 1).trans rfl, (blk_cell BA1.out 0).trans rfl, (blk_cell BA1.out 1).trans rfl⟩ (fun hHeld => ?_)
   clear hK K
   refine norm_ (a' := ?_) ?_ ?_
   rotate_left
   ·show Act.put _ (some 62) _ = _
    simp only [Act.put, qa_, qz_, qs_, i64_w, i32_w]
    rfl
   refine pure_ (i := 4) (N := some 63) (v := ?_) (a' := ?_) #[true, true, true, true, true] rfl rfl (by kernel_rfl) (fun _ _ _ h => h) (Or.inl ⟨by rfl, ?_⟩) ?_ ?_
   rotate_left
   ·intro w'
    go_simp
    with_reducible rfl
   rotate_left
   ·simp only [Act.put, qa_, qz_, qs_, i64_w, i32_w]
    rfl
   refine done_ (by kernel_rfl) ?_
   have hcBA00 : w36.cell? ⟨ga0, 0, none⟩ = some (.slice A0_0 l0_0.length c0_0) := (blk_cell BA0.out 0).trans rfl
   have hfBA00 := blk_frozen BA0.out 0
   have hcBA01 : w36.cell? ⟨ga0, 1, none⟩ = some (.slice A0_1 l0_1.length c0_1) := (blk_cell BA0.out 1).trans rfl
   have hfBA01 := blk_frozen BA0.out 1
   have hcBA10 : w36.cell? ⟨ga1, 0, none⟩ = some (.int .i64 a1_0) := (blk_cell BA1.out 0).trans rfl
   have hfBA10 := blk_frozen BA1.out 0
   have hcBA11 : w36.cell? ⟨ga1, 1, none⟩ = some (.slice A1_1 l1_1.length c1_1) := (blk_cell BA1.out 1).trans rfl
   have hfBA11 := blk_frozen BA1.out 1
   have hcBS0 : w36.cell? ⟨gs, 0, none⟩ = some (.slice As0 s0.length cs0) := (blk_cell BS.out 0).trans rfl
   have hfBS0 := blk_frozen BS.out 0
   have hcBS1 : w36.cell? ⟨gs, 1, none⟩ = some (.slice As1 s1.length cs1) := (blk_cell BS.out 1).trans rfl
   have hfBS1 := blk_frozen BS.out 1
   have hcBX00 : w36.cell? ⟨gx0, 0, none⟩ = some (.slice Ax0_0 x0_0.length cx0_0) := (blk_cell BX0.out 0).trans rfl
   have hfBX00 := blk_frozen BX0.out 0
   have hcBX01 : w36.cell? ⟨gx0, 1, none⟩ = some (.slice Ax0_1 x0_1.length cx0_1) := (blk_cell BX0.out 1).trans rfl
   have hfBX01 := blk_frozen BX0.out 1
   have hcBX10 : w36.cell? ⟨gx1, 0, none⟩ = some (.int .i64 x1_0) := (blk_cell BX1.out 0).trans rfl
   have hfBX10 := blk_frozen BX1.out 0
   have hcBX11 : w36.cell? ⟨gx1, 1, none⟩ = some (.slice Ax1_1 x1_1.length cx1_1) := (blk_cell BX1.out 1).trans rfl
   have hfBX11 := blk_frozen BX1.out 1
   have hcBX20 : w36.cell? ⟨gg, 0, none⟩ = some (.slice Agg0 g0.length cgg0) := (blk_cell BX2.out 0).trans rfl
   have hfBX20 := blk_frozen BX2.out 0
   have hcBX21 : w36.cell? ⟨gg, 1, none⟩ = some (.slice Agg1 g1.length cgg1) := (blk_cell BX2.out 1).trans rfl
   have hfBX21 := blk_frozen BX2.out 1
   go_wp2_with (first | (go_at_call 12; (with_reducible refine (laws_markGround.calls k (fun q => (w20.heap.size ≤ q ∧ q < w21.heap.size) ∧ some q = (.slice Ax0_0 x0_0.length cx0_0 : Value).ownBlock) _ x0_0 (fun q => (w20.heap.size ≤ q ∧ q < w21.heap.size) ∧ some q ≠ (.slice Ax0_0 x0_0.length cx0_0 : Value).ownBlock) _ x0_1 1 q0 m0_0 m0_1 w _ HB.out (Kd.R_lower HY0_0.out NL0.out) (Kd.S_lower HY0_1.out NL0.out) (fun q h1 h2 => absurd h1.2 h2.2) BM0.out).mono ?_); rintro e w37 ⟨rfl, hb, hk⟩; have HB_ := Aside0.mk hb; have BA0_ := Aside0.mk ((hk.2 ga0 (blk_lt BA0.out) (fun hs => by have i_ : w20.heap.size ≤ _ ∧ _ < w21.heap.size := hs.elim (fun h => h.1) (fun h => h.1); have z0_ := HA0.out; have z1_ := HA1.out; have z2_ := HABS.out; have z3_ := Z1.out; have z4_ := GX0.out; have z5_ := GY0.out; have z6_ := Z2.out; have z7_ := Z3.out; have z8_ := GX1.out; have z9_ := GY1.out; have z10_ := Z4.out; have z11_ := Z5.out; have z12_ := GX2.out; have z13_ := GY2.out; have z14_ := Z6.out; have z15_ := Z7.out; omega)).trans BA0.out); have BA1_ := Aside0.mk ((hk.2 ga1 (blk_lt BA1.out) (fun hs => by have i_ : w20.heap.size ≤ _ ∧ _ < w21.heap.size := hs.elim (fun h => h.1) (fun h => h.1); have z0_ := HA0.out; have z1_ := HA1.out; have z2_ := HABS.out; have z3_ := Z1.out; have z4_ := GX0.out; have z5_ := GY0.out; have z6_ := Z2.out; have z7_ := Z3.out; have z8_ := GX1.out; have z9_ := GY1.out; have z10_ := Z4.out; have z11_ := Z5.out; have z12_ := GX2.out; have z13_ := GY2.out; have z14_ := Z6.out; have z15_ := Z7.out; omega)).trans BA1.out); have BS_ := Aside0.mk ((hk.2 gs (blk_lt BS.out) (fun hs => by have i_ : w20.heap.size ≤ _ ∧ _ < w21.heap.size := hs.elim (fun h => h.1) (fun h => h.1); have z0_ := HA0.out; have z1_ := HA1.out; have z2_ := HABS.out; have z3_ := Z1.out; have z4_ := GX0.out; have z5_ := GY0.out; have z6_ := Z2.out; have z7_ := Z3.out; have z8_ := GX1.out; have z9_ := GY1.out; have z10_ := Z4.out; have z11_ := Z5.out; have z12_ := GX2.out; have z13_ := GY2.out; have z14_ := Z6.out; have z15_ := Z7.out; omega)).trans BS.out); have BX1_ := Aside0.mk ((hk.2 gx1 (blk_lt BX1.out) (fun hs => by have i_ : w20.heap.size ≤ _ ∧ _ < w21.heap.size := hs.elim (fun h => h.1) (fun h => h.1); have z0_ := HA0.out; have z1_ := HA1.out; have z2_ := HABS.out; have z3_ := Z1.out; have z4_ := GX0.out; have z5_ := GY0.out; have z6_ := Z2.out; have z7_ := Z3.out; have z8_ := GX1.out; have z9_ := GY1.out; have z10_ := Z4.out; have z11_ := Z5.out; have z12_ := GX2.out; have z13_ := GY2.out; have z14_ := Z6.out; have z15_ := Z7.out; omega)).trans BX1.out); have BX2_ := Aside0.mk ((hk.2 gg (blk_lt BX2.out) (fun hs => by have i_ : w20.heap.size ≤ _ ∧ _ < w21.heap.size := hs.elim (fun h => h.1) (fun h => h.1); have z0_ := HA0.out; have z1_ := HA1.out; have z2_ := HABS.out; have z3_ := Z1.out; have z4_ := GX0.out; have z5_ := GY0.out; have z6_ := Z2.out; have z7_ := Z3.out; have z8_ := GX1.out; have z9_ := GY1.out; have z10_ := Z4.out; have z11_ := Z5.out; have z12_ := GX2.out; have z13_ := GY2.out; have z14_ := Z6.out; have z15_ := Z7.out; omega)).trans BX2.out); have HS0_ := Aside0.mk (Kd.R_step HS0.out (fun q hq hlt => hk.2 q hlt (fun hs => by have i_ : w20.heap.size ≤ _ ∧ _ < w21.heap.size := hs.elim (fun h => h.1) (fun h => h.1); have y_ : q < w20.heap.size := hq; have z0_ := HA0.out; have z1_ := HA1.out; have z2_ := HABS.out; have z3_ := Z1.out; have z4_ := GX0.out; have z5_ := GY0.out; have z6_ := Z2.out; have z7_ := Z3.out; have z8_ := GX1.out; have z9_ := GY1.out; have z10_ := Z4.out; have z11_ := Z5.out; have z12_ := GX2.out; have z13_ := GY2.out; have z14_ := Z6.out; have z15_ := Z7.out; omega))); have HS1_ := Aside0.mk (Kd.S_step HS1.out (fun q hq hlt => hk.2 q hlt (fun hs => by have i_ : w20.heap.size ≤ _ ∧ _ < w21.heap.size := hs.elim (fun h => h.1) (fun h => h.1); have y_ : q < w20.heap.size := hq; have z0_ := HA0.out; have z1_ := HA1.out; have z2_ := HABS.out; have z3_ := Z1.out; have z4_ := GX0.out; have z5_ := GY0.out; have z6_ := Z2.out; have z7_ := Z3.out; have z8_ := GX1.out; have z9_ := GY1.out; have z10_ := Z4.out; have z11_ := Z5.out; have z12_ := GX2.out; have z13_ := GY2.out; have z14_ := Z6.out; have z15_ := Z7.out; omega))); have HY1_1_ := Aside0.mk (Kd.R_step HY1_1.out (fun q hq hlt => hk.2 q hlt (fun hs => by have i_ : w20.heap.size ≤ _ ∧ _ < w21.heap.size := hs.elim (fun h => h.1) (fun h => h.1); have y_ : w23.heap.size ≤ q ∧ q < w24.heap.size := hq.1; have z0_ := HA0.out; have z1_ := HA1.out; have z2_ := HABS.out; have z3_ := Z1.out; have z4_ := GX0.out; have z5_ := GY0.out; have z6_ := Z2.out; have z7_ := Z3.out; have z8_ := GX1.out; have z9_ := GY1.out; have z10_ := Z4.out; have z11_ := Z5.out; have z12_ := GX2.out; have z13_ := GY2.out; have z14_ := Z6.out; have z15_ := Z7.out; omega))); have HY2_0_ := Aside0.mk (Kd.R_step HY2_0.out (fun q hq hlt => hk.2 q hlt (fun hs => by have i_ : w20.heap.size ≤ _ ∧ _ < w21.heap.size := hs.elim (fun h => h.1) (fun h => h.1); have y_ : w26.heap.size ≤ q ∧ q < w27.heap.size := hq.1; have z0_ := HA0.out; have z1_ := HA1.out; have z2_ := HABS.out; have z3_ := Z1.out; have z4_ := GX0.out; have z5_ := GY0.out; have z6_ := Z2.out; have z7_ := Z3.out; have z8_ := GX1.out; have z9_ := GY1.out; have z10_ := Z4.out; have z11_ := Z5.out; have z12_ := GX2.out; have z13_ := GY2.out; have z14_ := Z6.out; have z15_ := Z7.out; omega))); have HY2_1_ := Aside0.mk (Kd.S_step HY2_1.out (fun q hq hlt => hk.2 q hlt (fun hs => by have i_ : w20.heap.size ≤ _ ∧ _ < w21.heap.size := hs.elim (fun h => h.1) (fun h => h.1); have y_ : w26.heap.size ≤ q ∧ q < w27.heap.size := hq.1; have z0_ := HA0.out; have z1_ := HA1.out; have z2_ := HABS.out; have z3_ := Z1.out; have z4_ := GX0.out; have z5_ := GY0.out; have z6_ := Z2.out; have z7_ := Z3.out; have z8_ := GX1.out; have z9_ := GY1.out; have z10_ := Z4.out; have z11_ := Z5.out; have z12_ := GX2.out; have z13_ := GY2.out; have z14_ := Z6.out; have z15_ := Z7.out; omega))); clear hb hk HY0_0 HY0_1 BX0; clear HB BA0 BA1 BS BX1 BX2 HS0 HS1 HY1_1 HY2_0 HY2_1; have HB := HB_; have BA0 := BA0_; have BA1 := BA1_; have BS := BS_; have BX1 := BX1_; have BX2 := BX2_; have HS0 := HS0_; have HS1 := HS1_; have HY1_1 := HY1_1_; have HY2_0 := HY2_0_; have HY2_1 := HY2_1_; clear HB_ BA0_ BA1_ BS_ BX1_ BX2_ HS0_ HS1_ HY1_1_ HY2_0_ HY2_1_; clear hcBA00 hfBA00 hcBA01 hfBA01 hcBA10 hfBA10 hcBA11 hfBA11 hcBS0 hfBS0 hcBS1 hfBS1 hcBX00 hfBX00 hcBX01 hfBX01 hcBX10 hfBX10 hcBX11 hfBX11 hcBX20 hfBX20 hcBX21 hfBX21; have hcBA00 : w37.cell? ⟨ga0, 0, none⟩ = some (.slice A0_0 l0_0.length c0_0) := (blk_cell BA0.out 0).trans rfl; have hfBA00 := blk_frozen BA0.out 0; have hcBA01 : w37.cell? ⟨ga0, 1, none⟩ = some (.slice A0_1 l0_1.length c0_1) := (blk_cell BA0.out 1).trans rfl; have hfBA01 := blk_frozen BA0.out 1; have hcBA10 : w37.cell? ⟨ga1, 0, none⟩ = some (.int .i64 a1_0) := (blk_cell BA1.out 0).trans rfl; have hfBA10 := blk_frozen BA1.out 0; have hcBA11 : w37.cell? ⟨ga1, 1, none⟩ = some (.slice A1_1 l1_1.length c1_1) := (blk_cell BA1.out 1).trans rfl; have hfBA11 := blk_frozen BA1.out 1; have hcBS0 : w37.cell? ⟨gs, 0, none⟩ = some (.slice As0 s0.length cs0) := (blk_cell BS.out 0).trans rfl; have hfBS0 := blk_frozen BS.out 0; have hcBS1 : w37.cell? ⟨gs, 1, none⟩ = some (.slice As1 s1.length cs1) := (blk_cell BS.out 1).trans rfl; have hfBS1 := blk_frozen BS.out 1; have hcBX10 : w37.cell? ⟨gx1, 0, none⟩ = some (.int .i64 x1_0) := (blk_cell BX1.out 0).trans rfl; have hfBX10 := blk_frozen BX1.out 0; have hcBX11 : w37.cell? ⟨gx1, 1, none⟩ = some (.slice Ax1_1 x1_1.length cx1_1) := (blk_cell BX1.out 1).trans rfl; have hfBX11 := blk_frozen BX1.out 1; have hcBX20 : w37.cell? ⟨gg, 0, none⟩ = some (.slice Agg0 g0.length cgg0) := (blk_cell BX2.out 0).trans rfl; have hfBX20 := blk_frozen BX2.out 0; have hcBX21 : w37.cell? ⟨gg, 1, none⟩ = some (.slice Agg1 g1.length cgg1) := (blk_cell BX2.out 1).trans rfl; have hfBX21 := blk_frozen BX2.out 1))
   go_wp2_with (first | (go_at_call 13; (with_reducible refine (laws_markHole.calls k x1_0 (fun q => (w23.heap.size ≤ q ∧ q < w24.heap.size) ∧ True) _ x1_1 q0 q1 m1_0 w _ HB.out (Kd.R_lower HY1_1.out NL1.out) BM1.out).mono ?_); rintro e w38 ⟨rfl, hy0, hb, hk⟩; have HB_ := Aside0.mk hb; have BA0_ := Aside0.mk ((hk.2 ga0 (blk_lt BA0.out) (fun hs => by have i_ : w23.heap.size ≤ _ ∧ _ < w24.heap.size := hs.1; have z0_ := HA0.out; have z1_ := HA1.out; have z2_ := HABS.out; have z3_ := Z1.out; have z4_ := GX0.out; have z5_ := GY0.out; have z6_ := Z2.out; have z7_ := Z3.out; have z8_ := GX1.out; have z9_ := GY1.out; have z10_ := Z4.out; have z11_ := Z5.out; have z12_ := GX2.out; have z13_ := GY2.out; have z14_ := Z6.out; have z15_ := Z7.out; omega)).trans BA0.out); have BA1_ := Aside0.mk ((hk.2 ga1 (blk_lt BA1.out) (fun hs => by have i_ : w23.heap.size ≤ _ ∧ _ < w24.heap.size := hs.1; have z0_ := HA0.out; have z1_ := HA1.out; have z2_ := HABS.out; have z3_ := Z1.out; have z4_ := GX0.out; have z5_ := GY0.out; have z6_ := Z2.out; have z7_ := Z3.out; have z8_ := GX1.out; have z9_ := GY1.out; have z10_ := Z4.out; have z11_ := Z5.out; have z12_ := GX2.out; have z13_ := GY2.out; have z14_ := Z6.out; have z15_ := Z7.out; omega)).trans BA1.out); have BS_ := Aside0.mk ((hk.2 gs (blk_lt BS.out) (fun hs => by have i_ : w23.heap.size ≤ _ ∧ _ < w24.heap.size := hs.1; have z0_ := HA0.out; have z1_ := HA1.out; have z2_ := HABS.out; have z3_ := Z1.out; have z4_ := GX0.out; have z5_ := GY0.out; have z6_ := Z2.out; have z7_ := Z3.out; have z8_ := GX1.out; have z9_ := GY1.out; have z10_ := Z4.out; have z11_ := Z5.out; have z12_ := GX2.out; have z13_ := GY2.out; have z14_ := Z6.out; have z15_ := Z7.out; omega)).trans BS.out); have BX2_ := Aside0.mk ((hk.2 gg (blk_lt BX2.out) (fun hs => by have i_ : w23.heap.size ≤ _ ∧ _ < w24.heap.size := hs.1; have z0_ := HA0.out; have z1_ := HA1.out; have z2_ := HABS.out; have z3_ := Z1.out; have z4_ := GX0.out; have z5_ := GY0.out; have z6_ := Z2.out; have z7_ := Z3.out; have z8_ := GX1.out; have z9_ := GY1.out; have z10_ := Z4.out; have z11_ := Z5.out; have z12_ := GX2.out; have z13_ := GY2.out; have z14_ := Z6.out; have z15_ := Z7.out; omega)).trans BX2.out); have HS0_ := Aside0.mk (Kd.R_step HS0.out (fun q hq hlt => hk.2 q hlt (fun hs => by have i_ : w23.heap.size ≤ _ ∧ _ < w24.heap.size := hs.1; have y_ : q < w20.heap.size := hq; have z0_ := HA0.out; have z1_ := HA1.out; have z2_ := HABS.out; have z3_ := Z1.out; have z4_ := GX0.out; have z5_ := GY0.out; have z6_ := Z2.out; have z7_ := Z3.out; have z8_ := GX1.out; have z9_ := GY1.out; have z10_ := Z4.out; have z11_ := Z5.out; have z12_ := GX2.out; have z13_ := GY2.out; have z14_ := Z6.out; have z15_ := Z7.out; omega))); have HS1_ := Aside0.mk (Kd.S_step HS1.out (fun q hq hlt => hk.2 q hlt (fun hs => by have i_ : w23.heap.size ≤ _ ∧ _ < w24.heap.size := hs.1; have y_ : q < w20.heap.size := hq; have z0_ := HA0.out; have z1_ := HA1.out; have z2_ := HABS.out; have z3_ := Z1.out; have z4_ := GX0.out; have z5_ := GY0.out; have z6_ := Z2.out; have z7_ := Z3.out; have z8_ := GX1.out; have z9_ := GY1.out; have z10_ := Z4.out; have z11_ := Z5.out; have z12_ := GX2.out; have z13_ := GY2.out; have z14_ := Z6.out; have z15_ := Z7.out; omega))); have HY2_0_ := Aside0.mk (Kd.R_step HY2_0.out (fun q hq hlt => hk.2 q hlt (fun hs => by have i_ : w23.heap.size ≤ _ ∧ _ < w24.heap.size := hs.1; have y_ : w26.heap.size ≤ q ∧ q < w27.heap.size := hq.1; have z0_ := HA0.out; have z1_ := HA1.out; have z2_ := HABS.out; have z3_ := Z1.out; have z4_ := GX0.out; have z5_ := GY0.out; have z6_ := Z2.out; have z7_ := Z3.out; have z8_ := GX1.out; have z9_ := GY1.out; have z10_ := Z4.out; have z11_ := Z5.out; have z12_ := GX2.out; have z13_ := GY2.out; have z14_ := Z6.out; have z15_ := Z7.out; omega))); have HY2_1_ := Aside0.mk (Kd.S_step HY2_1.out (fun q hq hlt => hk.2 q hlt (fun hs => by have i_ : w23.heap.size ≤ _ ∧ _ < w24.heap.size := hs.1; have y_ : w26.heap.size ≤ q ∧ q < w27.heap.size := hq.1; have z0_ := HA0.out; have z1_ := HA1.out; have z2_ := HABS.out; have z3_ := Z1.out; have z4_ := GX0.out; have z5_ := GY0.out; have z6_ := Z2.out; have z7_ := Z3.out; have z8_ := GX1.out; have z9_ := GY1.out; have z10_ := Z4.out; have z11_ := Z5.out; have z12_ := GX2.out; have z13_ := GY2.out; have z14_ := Z6.out; have z15_ := Z7.out; omega))); clear hy0 hb hk HY1_1 BX1; clear HB BA0 BA1 BS BX2 HS0 HS1 HY2_0 HY2_1; have HB := HB_; have BA0 := BA0_; have BA1 := BA1_; have BS := BS_; have BX2 := BX2_; have HS0 := HS0_; have HS1 := HS1_; have HY2_0 := HY2_0_; have HY2_1 := HY2_1_; clear HB_ BA0_ BA1_ BS_ BX2_ HS0_ HS1_ HY2_0_ HY2_1_; clear hcBA00 hfBA00 hcBA01 hfBA01 hcBA10 hfBA10 hcBA11 hfBA11 hcBS0 hfBS0 hcBS1 hfBS1 hcBX10 hfBX10 hcBX11 hfBX11 hcBX20 hfBX20 hcBX21 hfBX21; have hcBA00 : w38.cell? ⟨ga0, 0, none⟩ = some (.slice A0_0 l0_0.length c0_0) := (blk_cell BA0.out 0).trans rfl; have hfBA00 := blk_frozen BA0.out 0; have hcBA01 : w38.cell? ⟨ga0, 1, none⟩ = some (.slice A0_1 l0_1.length c0_1) := (blk_cell BA0.out 1).trans rfl; have hfBA01 := blk_frozen BA0.out 1; have hcBA10 : w38.cell? ⟨ga1, 0, none⟩ = some (.int .i64 a1_0) := (blk_cell BA1.out 0).trans rfl; have hfBA10 := blk_frozen BA1.out 0; have hcBA11 : w38.cell? ⟨ga1, 1, none⟩ = some (.slice A1_1 l1_1.length c1_1) := (blk_cell BA1.out 1).trans rfl; have hfBA11 := blk_frozen BA1.out 1; have hcBS0 : w38.cell? ⟨gs, 0, none⟩ = some (.slice As0 s0.length cs0) := (blk_cell BS.out 0).trans rfl; have hfBS0 := blk_frozen BS.out 0; have hcBS1 : w38.cell? ⟨gs, 1, none⟩ = some (.slice As1 s1.length cs1) := (blk_cell BS.out 1).trans rfl; have hfBS1 := blk_frozen BS.out 1; have hcBX20 : w38.cell? ⟨gg, 0, none⟩ = some (.slice Agg0 g0.length cgg0) := (blk_cell BX2.out 0).trans rfl; have hfBX20 := blk_frozen BX2.out 0; have hcBX21 : w38.cell? ⟨gg, 1, none⟩ = some (.slice Agg1 g1.length cgg1) := (blk_cell BX2.out 1).trans rfl; have hfBX21 := blk_frozen BX2.out 1))
   go_wp2_with (first | (go_at_call 10; (with_reducible refine (laws_eqGround.calls k Agg0 cgg0 g0 Agg1 cgg1 g1 As0 cs0 s0 As1 cs1 s1 true _ (Kd.R_reads' HY2_0.out).2.2 (Kd.R_reads' HY2_0.out).2.1 (Kd.S_reads' HY2_1.out).2.2 (Kd.S_reads' HY2_1.out).2.1 (Kd.R_reads' HS0.out).2.2 (Kd.R_reads' HS0.out).2.1 (Kd.S_reads' HS1.out).2.2 (Kd.S_reads' HS1.out).2.1 BE.out).mono ?_); rintro e w39 ⟨rfl, hb⟩; have Z8 := Aside0.mk (hb.size); have HB_ := Aside0.mk (below_step HB.out hb); have BA0_ := Aside0.mk (blk_below (g := ga0) (o := .cells #[.slice A0_0 l0_0.length c0_0, .slice A0_1 l0_1.length c0_1] 25 (0, 0)) BA0.out hb); have BA1_ := Aside0.mk (blk_below (g := ga1) (o := .cells #[.int .i64 a1_0, .slice A1_1 l1_1.length c1_1] 27 (0, 0)) BA1.out hb); have BS_ := Aside0.mk (blk_below (g := gs) (o := .cells #[.slice As0 s0.length cs0, .slice As1 s1.length cs1] 32 (0, 0)) BS.out hb); have BX2_ := Aside0.mk (blk_below (g := gg) (o := .cells #[.slice Agg0 g0.length cgg0, .slice Agg1 g1.length cgg1] 32 (0, 0)) BX2.out hb); have HS0_ := Aside0.mk (Kd.R_below HS0.out hb); have HS1_ := Aside0.mk (Kd.S_below HS1.out hb); have HY2_0_ := Aside0.mk (Kd.R_below HY2_0.out hb); have HY2_1_ := Aside0.mk (Kd.S_below HY2_1.out hb); clear hb; clear HB BA0 BA1 BS BX2 HS0 HS1 HY2_0 HY2_1; have HB := HB_; have BA0 := BA0_; have BA1 := BA1_; have BS := BS_; have BX2 := BX2_; have HS0 := HS0_; have HS1 := HS1_; have HY2_0 := HY2_0_; have HY2_1 := HY2_1_; clear HB_ BA0_ BA1_ BS_ BX2_ HS0_ HS1_ HY2_0_ HY2_1_; clear hcBA00 hfBA00 hcBA01 hfBA01 hcBA10 hfBA10 hcBA11 hfBA11 hcBS0 hfBS0 hcBS1 hfBS1 hcBX20 hfBX20 hcBX21 hfBX21; have hcBA00 : w39.cell? ⟨ga0, 0, none⟩ = some (.slice A0_0 l0_0.length c0_0) := (blk_cell BA0.out 0).trans rfl; have hfBA00 := blk_frozen BA0.out 0; have hcBA01 : w39.cell? ⟨ga0, 1, none⟩ = some (.slice A0_1 l0_1.length c0_1) := (blk_cell BA0.out 1).trans rfl; have hfBA01 := blk_frozen BA0.out 1; have hcBA10 : w39.cell? ⟨ga1, 0, none⟩ = some (.int .i64 a1_0) := (blk_cell BA1.out 0).trans rfl; have hfBA10 := blk_frozen BA1.out 0; have hcBA11 : w39.cell? ⟨ga1, 1, none⟩ = some (.slice A1_1 l1_1.length c1_1) := (blk_cell BA1.out 1).trans rfl; have hfBA11 := blk_frozen BA1.out 1; have hcBS0 : w39.cell? ⟨gs, 0, none⟩ = some (.slice As0 s0.length cs0) := (blk_cell BS.out 0).trans rfl; have hfBS0 := blk_frozen BS.out 0; have hcBS1 : w39.cell? ⟨gs, 1, none⟩ = some (.slice As1 s1.length cs1) := (blk_cell BS.out 1).trans rfl; have hfBS1 := blk_frozen BS.out 1; have hcBX20 : w39.cell? ⟨gg, 0, none⟩ = some (.slice Agg0 g0.length cgg0) := (blk_cell BX2.out 0).trans rfl; have hfBX20 := blk_frozen BX2.out 0; have hcBX21 : w39.cell? ⟨gg, 1, none⟩ = some (.slice Agg1 g1.length cgg1) := (blk_cell BX2.out 1).trans rfl; have hfBX21 := blk_frozen BX2.out 1))
   go_wp2_with (first | (go_at_call 12; (with_reducible refine (laws_markGround.calls2 k (fun q => (w26.heap.size ≤ q ∧ q < w27.heap.size) ∧ some q = (.slice Agg0 g0.length cgg0 : Value).ownBlock) _ g0 (fun q => (w26.heap.size ≤ q ∧ q < w27.heap.size) ∧ some q ≠ (.slice Agg0 g0.length cgg0 : Value).ownBlock) _ g1 1 th lk0 lk1 w _ HB.out (Kd.R_lower HY2_0.out NL2.out) (Kd.S_lower HY2_1.out NL2.out) (fun q h1 h2 => absurd h1.2 h2.2) BK.out).mono ?_); rintro e w40 ⟨rfl, hy0, hy1, hb, hk⟩; have HB_ := Aside0.mk hb; have e0_ := (Kd.R_reads' hy0).1; have e1_ := (Kd.S_reads' hy1).1; have BA0_ := Aside0.mk ((hk.2 ga0 (blk_lt BA0.out) (fun hs => by have i_ : w26.heap.size ≤ _ ∧ _ < w27.heap.size := hs.elim (fun h => h.1) (fun h => h.1); have z0_ := HA0.out; have z1_ := HA1.out; have z2_ := HABS.out; have z3_ := Z1.out; have z4_ := GX0.out; have z5_ := GY0.out; have z6_ := Z2.out; have z7_ := Z3.out; have z8_ := GX1.out; have z9_ := GY1.out; have z10_ := Z4.out; have z11_ := Z5.out; have z12_ := GX2.out; have z13_ := GY2.out; have z14_ := Z6.out; have z15_ := Z7.out; have z16_ := Z8.out; omega)).trans BA0.out); have BA1_ := Aside0.mk ((hk.2 ga1 (blk_lt BA1.out) (fun hs => by have i_ : w26.heap.size ≤ _ ∧ _ < w27.heap.size := hs.elim (fun h => h.1) (fun h => h.1); have z0_ := HA0.out; have z1_ := HA1.out; have z2_ := HABS.out; have z3_ := Z1.out; have z4_ := GX0.out; have z5_ := GY0.out; have z6_ := Z2.out; have z7_ := Z3.out; have z8_ := GX1.out; have z9_ := GY1.out; have z10_ := Z4.out; have z11_ := Z5.out; have z12_ := GX2.out; have z13_ := GY2.out; have z14_ := Z6.out; have z15_ := Z7.out; have z16_ := Z8.out; omega)).trans BA1.out); have BS_ := Aside0.mk ((hk.2 gs (blk_lt BS.out) (fun hs => by have i_ : w26.heap.size ≤ _ ∧ _ < w27.heap.size := hs.elim (fun h => h.1) (fun h => h.1); have z0_ := HA0.out; have z1_ := HA1.out; have z2_ := HABS.out; have z3_ := Z1.out; have z4_ := GX0.out; have z5_ := GY0.out; have z6_ := Z2.out; have z7_ := Z3.out; have z8_ := GX1.out; have z9_ := GY1.out; have z10_ := Z4.out; have z11_ := Z5.out; have z12_ := GX2.out; have z13_ := GY2.out; have z14_ := Z6.out; have z15_ := Z7.out; have z16_ := Z8.out; omega)).trans BS.out); have BX0_ := (hk.2 gg (blk_lt BX2.out) (fun hs => by have i_ : w26.heap.size ≤ _ ∧ _ < w27.heap.size := hs.elim (fun h => h.1) (fun h => h.1); have z0_ := HA0.out; have z1_ := HA1.out; have z2_ := HABS.out; have z3_ := Z1.out; have z4_ := GX0.out; have z5_ := GY0.out; have z6_ := Z2.out; have z7_ := Z3.out; have z8_ := GX1.out; have z9_ := GY1.out; have z10_ := Z4.out; have z11_ := Z5.out; have z12_ := GX2.out; have z13_ := GY2.out; have z14_ := Z6.out; have z15_ := Z7.out; have z16_ := Z8.out; omega)).trans BX2.out; rw [e0_, e1_] at BX0_; have BX2_ := Aside0.mk BX0_; clear BX0_; have HS0_ := Aside0.mk (Kd.R_step HS0.out (fun q hq hlt => hk.2 q hlt (fun hs => by have i_ : w26.heap.size ≤ _ ∧ _ < w27.heap.size := hs.elim (fun h => h.1) (fun h => h.1); have y_ : q < w20.heap.size := hq; have z0_ := HA0.out; have z1_ := HA1.out; have z2_ := HABS.out; have z3_ := Z1.out; have z4_ := GX0.out; have z5_ := GY0.out; have z6_ := Z2.out; have z7_ := Z3.out; have z8_ := GX1.out; have z9_ := GY1.out; have z10_ := Z4.out; have z11_ := Z5.out; have z12_ := GX2.out; have z13_ := GY2.out; have z14_ := Z6.out; have z15_ := Z7.out; have z16_ := Z8.out; omega))); have HS1_ := Aside0.mk (Kd.S_step HS1.out (fun q hq hlt => hk.2 q hlt (fun hs => by have i_ : w26.heap.size ≤ _ ∧ _ < w27.heap.size := hs.elim (fun h => h.1) (fun h => h.1); have y_ : q < w20.heap.size := hq; have z0_ := HA0.out; have z1_ := HA1.out; have z2_ := HABS.out; have z3_ := Z1.out; have z4_ := GX0.out; have z5_ := GY0.out; have z6_ := Z2.out; have z7_ := Z3.out; have z8_ := GX1.out; have z9_ := GY1.out; have z10_ := Z4.out; have z11_ := Z5.out; have z12_ := GX2.out; have z13_ := GY2.out; have z14_ := Z6.out; have z15_ := Z7.out; have z16_ := Z8.out; omega))); have Z9 := Aside0.mk (hk.1); rw [e0_] at hy0; rw [e1_] at hy1; have HM0 := Aside0.mk hy0; have HM1 := Aside0.mk hy1; clear hy0 hy1 hb hk HY2_0 HY2_1 e0_ e1_; clear HB BA0 BA1 BS BX2 HS0 HS1; have HB := HB_; have BA0 := BA0_; have BA1 := BA1_; have BS := BS_; have BX2 := BX2_; have HS0 := HS0_; have HS1 := HS1_; clear HB_ BA0_ BA1_ BS_ BX2_ HS0_ HS1_; clear hcBA00 hfBA00 hcBA01 hfBA01 hcBA10 hfBA10 hcBA11 hfBA11 hcBS0 hfBS0 hcBS1 hfBS1 hcBX20 hfBX20 hcBX21 hfBX21; have hcBA00 : w40.cell? ⟨ga0, 0, none⟩ = some (.slice A0_0 l0_0.length c0_0) := (blk_cell BA0.out 0).trans rfl; have hfBA00 := blk_frozen BA0.out 0; have hcBA01 : w40.cell? ⟨ga0, 1, none⟩ = some (.slice A0_1 l0_1.length c0_1) := (blk_cell BA0.out 1).trans rfl; have hfBA01 := blk_frozen BA0.out 1; have hcBA10 : w40.cell? ⟨ga1, 0, none⟩ = some (.int .i64 a1_0) := (blk_cell BA1.out 0).trans rfl; have hfBA10 := blk_frozen BA1.out 0; have hcBA11 : w40.cell? ⟨ga1, 1, none⟩ = some (.slice A1_1 l1_1.length c1_1) := (blk_cell BA1.out 1).trans rfl; have hfBA11 := blk_frozen BA1.out 1; have hcBS0 : w40.cell? ⟨gs, 0, none⟩ = some (.slice As0 s0.length cs0) := (blk_cell BS.out 0).trans rfl; have hfBS0 := blk_frozen BS.out 0; have hcBS1 : w40.cell? ⟨gs, 1, none⟩ = some (.slice As1 s1.length cs1) := (blk_cell BS.out 1).trans rfl; have hfBS1 := blk_frozen BS.out 1; have hcBX20 : w40.cell? ⟨gg, 0, none⟩ = some (.slice Agg0 lk0.length cgg0) := (blk_cell BX2.out 0).trans rfl; have hfBX20 := blk_frozen BX2.out 0; have hcBX21 : w40.cell? ⟨gg, 1, none⟩ = some (.slice Agg1 lk1.length cgg1) := (blk_cell BX2.out 1).trans rfl; have hfBX21 := blk_frozen BX2.out 1))
   go_wp2_with (first | (go_at_call 14; (with_reducible refine (laws_heldGround.calls k Agg0 cgg0 lk0 Agg1 cgg1 lk1 1 th _ (Kd.R_reads' HM0.out).2.2 (Kd.R_reads' HM0.out).2.1 (Kd.S_reads' HM1.out).2.2 (Kd.S_reads' HM1.out).2.1 BH.out).mono ?_); rintro e w41 ⟨rfl, hb⟩; have Z10 := Aside0.mk (hb.size); have HB_ := Aside0.mk (below_step HB.out hb); have BA0_ := Aside0.mk (blk_below (g := ga0) (o := .cells #[.slice A0_0 l0_0.length c0_0, .slice A0_1 l0_1.length c0_1] 25 (0, 0)) BA0.out hb); have BA1_ := Aside0.mk (blk_below (g := ga1) (o := .cells #[.int .i64 a1_0, .slice A1_1 l1_1.length c1_1] 27 (0, 0)) BA1.out hb); have BS_ := Aside0.mk (blk_below (g := gs) (o := .cells #[.slice As0 s0.length cs0, .slice As1 s1.length cs1] 32 (0, 0)) BS.out hb); have BX2_ := Aside0.mk (blk_below (g := gg) (o := .cells #[.slice Agg0 lk0.length cgg0, .slice Agg1 lk1.length cgg1] 32 (0, 0)) BX2.out hb); have HS0_ := Aside0.mk (Kd.R_below HS0.out hb); have HS1_ := Aside0.mk (Kd.S_below HS1.out hb); have HM0_ := Aside0.mk (Kd.R_below HM0.out hb); have HM1_ := Aside0.mk (Kd.S_below HM1.out hb); clear hb; clear HB BA0 BA1 BS BX2 HS0 HS1 HM0 HM1; have HB := HB_; have BA0 := BA0_; have BA1 := BA1_; have BS := BS_; have BX2 := BX2_; have HS0 := HS0_; have HS1 := HS1_; have HM0 := HM0_; have HM1 := HM1_; clear HB_ BA0_ BA1_ BS_ BX2_ HS0_ HS1_ HM0_ HM1_; clear hcBA00 hfBA00 hcBA01 hfBA01 hcBA10 hfBA10 hcBA11 hfBA11 hcBS0 hfBS0 hcBS1 hfBS1 hcBX20 hfBX20 hcBX21 hfBX21; have hcBA00 : w41.cell? ⟨ga0, 0, none⟩ = some (.slice A0_0 l0_0.length c0_0) := (blk_cell BA0.out 0).trans rfl; have hfBA00 := blk_frozen BA0.out 0; have hcBA01 : w41.cell? ⟨ga0, 1, none⟩ = some (.slice A0_1 l0_1.length c0_1) := (blk_cell BA0.out 1).trans rfl; have hfBA01 := blk_frozen BA0.out 1; have hcBA10 : w41.cell? ⟨ga1, 0, none⟩ = some (.int .i64 a1_0) := (blk_cell BA1.out 0).trans rfl; have hfBA10 := blk_frozen BA1.out 0; have hcBA11 : w41.cell? ⟨ga1, 1, none⟩ = some (.slice A1_1 l1_1.length c1_1) := (blk_cell BA1.out 1).trans rfl; have hfBA11 := blk_frozen BA1.out 1; have hcBS0 : w41.cell? ⟨gs, 0, none⟩ = some (.slice As0 s0.length cs0) := (blk_cell BS.out 0).trans rfl; have hfBS0 := blk_frozen BS.out 0; have hcBS1 : w41.cell? ⟨gs, 1, none⟩ = some (.slice As1 s1.length cs1) := (blk_cell BS.out 1).trans rfl; have hfBS1 := blk_frozen BS.out 1; have hcBX20 : w41.cell? ⟨gg, 0, none⟩ = some (.slice Agg0 lk0.length cgg0) := (blk_cell BX2.out 0).trans rfl; have hfBX20 := blk_frozen BX2.out 0; have hcBX21 : w41.cell? ⟨gg, 1, none⟩ = some (.slice Agg1 lk1.length cgg1) := (blk_cell BX2.out 1).trans rfl; have hfBX21 := blk_frozen BX2.out 1))
   try go_wp2
   obtain ⟨P, hP⟩ : ∃ P : World → Prop, P = (fun W_ => Below w.heap.size w W_ ∧ W_.heap[ga0]? = some (.cells #[.slice A0_0 l0_0.length c0_0, .slice A0_1 l0_1.length c0_1] 25 (0, 0)) ∧ W_.heap[ga1]? = some (.cells #[.int .i64 a1_0, .slice A1_1 l1_1.length c1_1] 27 (0, 0)) ∧ W_.heap[gs]? = some (.cells #[.slice As0 s0.length cs0, .slice As1 s1.length cs1] 32 (0, 0)) ∧ W_.heap[gg]? = some (.cells #[.slice Agg0 lk0.length cgg0, .slice Agg1 lk1.length cgg1] 32 (0, 0)) ∧ Kd.R (Kd.int .i64) 2  W_ w.heap.size (fun _ => True) (.slice As0 s0.length cs0) s0 ∧ Kd.S k36 36  W_ w.heap.size (fun _ => True) (.slice As1 s1.length cs1) s1 ∧ Kd.R (Kd.int .i64) 2  W_ w.heap.size (fun _ => True) (.slice Agg0 lk0.length cgg0) lk0 ∧ Kd.S k36 36  W_ w.heap.size (fun _ => True) (.slice Agg1 lk1.length cgg1) lk1) := ⟨_, rfl⟩
   have KP := Aside0.mk (show Keeps P by rw [hP]; exact (Keeps.and (keeps_below w) (Keeps.and (keeps_blk _ _) (Keeps.and (keeps_blk _ _) (Keeps.and (keeps_blk _ _) (Keeps.and (keeps_blk _ _) (Keeps.and (keeps_R _ _ _ _ _ _) (Keeps.and (keeps_S _ _ _ _ _ _) (Keeps.and (keeps_R _ _ _ _ _ _) (keeps_S _ _ _ _ _ _))))))))))
   have P1 := Aside0.mk (show ∀ W_, P W_ → Below w.heap.size w W_ by rw [hP]; exact fun _ h_ => h_.1)
   have P2 := Aside0.mk (show ∀ W_, P W_ → W_.heap[ga0]? = some (.cells #[.slice A0_0 l0_0.length c0_0, .slice A0_1 l0_1.length c0_1] 25 (0, 0)) by rw [hP]; exact fun _ h_ => h_.2.1)
   have P3 := Aside0.mk (show ∀ W_, P W_ → W_.heap[ga1]? = some (.cells #[.int .i64 a1_0, .slice A1_1 l1_1.length c1_1] 27 (0, 0)) by rw [hP]; exact fun _ h_ => h_.2.2.1)
   have ST := Aside0.mk (show P w41.drew by rw [hP]; exact ⟨below_drew1 HB.out, blk_drew BA0.out, blk_drew BA1.out, blk_drew BS.out, blk_drew BX2.out, Kd.R_drew (Kd.R_mono HS0.out (fun _ _ => trivial)), Kd.S_drew (Kd.S_mono HS1.out (fun _ _ => trivial)), Kd.R_drew (Kd.R_mono HM0.out (fun _ _ => trivial)), Kd.S_drew (Kd.S_mono HM1.out (fun _ _ => trivial))⟩)
   obtain ⟨N0, hN0⟩ : ∃ N0, N0 = w41.heap.size := ⟨_, rfl⟩
   have LBA0 := Aside0.mk (show ga0 < N0 by rw [hN0]; exact blk_lt BA0.out)
   have LBA1 := Aside0.mk (show ga1 < N0 by rw [hN0]; exact blk_lt BA1.out)
   have LBS := Aside0.mk (show gs < N0 by rw [hN0]; exact blk_lt BS.out)
   have LBX2 := Aside0.mk (show gg < N0 by rw [hN0]; exact blk_lt BX2.out)
   have LW := Aside0.mk (show w.heap.size ≤ N0 by rw [hN0]; exact HB.out.size)
   have SN := Aside0.mk (show N0 ≤ w41.drew.heap.size by rw [hN0]; exact Nat.le_refl _)
   have HPQ := Aside0.mk hP
   clear hP hN0 HB BA0 BA1 BS BX2 HS0 HS1 HM0 HM1
   clear hcBA00 hfBA00 hcBA01 hfBA01 hcBA10 hfBA10 hcBA11 hfBA11 hcBS0 hfBS0 hcBS1 hfBS1 hcBX20 hfBX20 hcBX21 hfBX21
   refine start_ (n := 11) (S := fun w' => w'.cell? ⟨ga0, 0, none⟩ = some (.slice A0_0 l0_0.length c0_0) ∧ w'.cell? ⟨ga0, 1, none⟩ = some (.slice A0_1 l0_1.length c0_1) ∧ w'.cell? ⟨ga1, 0, none⟩ = some (.int .i64 a1_0) ∧ w'.cell? ⟨ga1, 1, none⟩ = some (.slice A1_1 l1_1.length c1_1)) (ds := []) p11_19000 (by kernel_rfl) rfl rfl ⟨(blk_cell (P2.out _ ST.out) 0).trans rfl, (blk_cell (P2.out _ ST.out) 1).trans rfl, (blk_cell (P3.out _ ST.out) 0).trans rfl, (blk_cell (P3.out _ ST.out) 1).trans rfl⟩ (fun hHeld => ?_)
   generalize w41.drew = w42 at ST SN hHeld ⊢
   refine take_ (i := 0) (N := some 95) (v := ?_) (a' := ?_) p11_19001 rfl rfl (by kernel_rfl) (fun _ _ _ h => h) (Or.inl ⟨by rfl, ?_⟩) hHeld ?_ ?_
   rotate_left
   ·rintro w' ⟨s0_, s1_, s2_, s3_⟩
    go_simp
    with_reducible rfl
   rotate_left
   ·simp only [Act.put, qa_, qz_, qs_, i64_w, i32_w]
    rfl
   refine take_ (i := 2) (N := some 97) (v := ?_) (a' := ?_) p11_19002 rfl rfl (by kernel_rfl) (fun _ _ _ h => h) (Or.inl ⟨by rfl, ?_⟩) hHeld ?_ ?_
   rotate_left
   ·rintro w' ⟨s0_, s1_, s2_, s3_⟩
    go_simp
    with_reducible rfl
   rotate_left
   ·simp only [Act.put, qa_, qz_, qs_, i64_w, i32_w]
    rfl
   refine join_ (σ := Value × Value × Value × Value × Value × Nat) 2 p11_19003 (fun s_ => [(96, .agg #[s_.1, s_.2.1]), (98, .agg #[.int .i64 x1_0, s_.2.2.1]), (99, .tuple #[.agg #[s_.2.2.2.1, s_.2.2.2.2.1], .bool g2]), (15, .pointer (some ⟨s_.2.2.2.2.2, 0, none⟩)), (94, .tuple #[.agg #[s_.2.2.2.1, s_.2.2.2.2.1], .bool g2]), (100, .agg #[s_.2.2.2.1, s_.2.2.2.2.1]), (101, .bool g2)]) (fun s_ w' => (w'.cell? ⟨ga0, 0, none⟩ = some (.slice A0_0 l0_0.length c0_0) ∧ w'.cell? ⟨ga0, 1, none⟩ = some (.slice A0_1 l0_1.length c0_1) ∧ w'.cell? ⟨ga1, 0, none⟩ = some (.int .i64 a1_0) ∧ w'.cell? ⟨ga1, 1, none⟩ = some (.slice A1_1 l1_1.length c1_1)) ∧ P w' ∧ Kd.R (Kd.int .i64) 2 w' w.heap.size (fun _ => True) s_.2.2.2.1 g0 ∧ Kd.S k36 36 w' w.heap.size (fun _ => True) s_.2.2.2.2.1 g1 ∧ w'.heap[s_.2.2.2.2.2]? = some (.cells #[.slice none 0 0, .slice none 0 0] 32 (0, 0)) ∧ N0 ≤ s_.2.2.2.2.2) ?_ (fun hCont => ?_)
   rotate_left
   ·skip
    refine two_ (i := 1) (j := 8) (Ni := some 96) (Nj := some 15) p11_19004 p11_19005 rfl rfl rfl rfl (by kernel_rfl) (by decide) (by decide) (fun K hK => ?_) (fun K hK => ?_)
    ·skip
     refine goes_ Try.func7 (by kernel_rfl) rfl #[.agg #[.slice A0_0 l0_0.length c0_0, .slice A0_1 l0_1.length c0_1]] (by rfl) rfl rfl (by (try simp only [List.map_toArray, List.map_cons, List.map_nil]); first | done | rfl | (simp only [List.length_drop, List.length_take]; rfl)) ?_
     refine (laws_toGround.calls k A0_0 c0_0 l0_0 A0_1 c0_1 l0_1 x0_0 x0_1 _ (Kd.C_below HR0_0.out (P1.out _ ST.out)) HC0_0.out (Kd.C_below HR0_1.out (P1.out _ ST.out)) HC0_1.out BT0.out).mono ?_
     rintro e w43 ⟨vx0, vx1, rfl, ho0, ho1, hb⟩
     refine ⟨_, rfl, ?_⟩
     have ST_ := Aside0.mk (KP.out _ _ ST.out hb)
     have SN_ := Aside0.mk (Nat.le_trans SN.out hb.size)
     have HX0 := Aside0.mk ho0
     have HX1 := Aside0.mk ho1
     clear hb ho0 ho1
     clear ST SN
     have ST := ST_
     have SN := SN_
     clear ST_ SN_
     refine hK.out _ _ ⟨(blk_cell (P2.out _ ST.out) 0).trans rfl, (blk_cell (P2.out _ ST.out) 1).trans rfl, (blk_cell (P3.out _ ST.out) 0).trans rfl, (blk_cell (P3.out _ ST.out) 1).trans rfl⟩ (fun hHeld => ?_)
     clear hK K
     refine norm_ (a' := ?_) ?_ ?_
     rotate_left
     ·show Act.put _ (some 96) _ = _
      simp only [Act.put, qa_, qz_, qs_, i64_w, i32_w]
      rfl
     refine two_ (i := 3) (j := 8) (Ni := some 98) (Nj := some 15) p11_19006 p11_19007 rfl rfl rfl rfl (by kernel_rfl) (by decide) (by decide) (fun K hK => ?_) (fun K hK => ?_)
     ·skip
      refine goes_ Try.func8 (by kernel_rfl) rfl #[.agg #[.int .i64 a1_0, .slice A1_1 l1_1.length c1_1]] (by rfl) rfl rfl (by (try simp only [List.map_toArray, List.map_cons, List.map_nil]); first | done | rfl | (simp only [List.length_drop, List.length_take]; rfl)) ?_
      refine (laws_toHole.calls k a1_0 A1_1 c1_1 l1_1 x1_0 x1_1 _ (Kd.C_below HR1_1.out (P1.out _ ST.out)) HC1_1.out BT1.out).mono ?_
      rintro e w44 ⟨vx2, rfl, ho0, hb⟩
      refine ⟨_, rfl, ?_⟩
      have ST_ := Aside0.mk (KP.out _ _ ST.out hb)
      have SN_ := Aside0.mk (Nat.le_trans SN.out hb.size)
      have HX0_ := Aside0.mk (Kd.R_below HX0.out hb)
      have HX1_ := Aside0.mk (Kd.S_below HX1.out hb)
      have HX2 := Aside0.mk ho0
      clear hb ho0
      clear ST SN HX0 HX1
      have ST := ST_
      have SN := SN_
      have HX0 := HX0_
      have HX1 := HX1_
      clear ST_ SN_ HX0_ HX1_
      refine hK.out _ _ ⟨(blk_cell (P2.out _ ST.out) 0).trans rfl, (blk_cell (P2.out _ ST.out) 1).trans rfl, (blk_cell (P3.out _ ST.out) 0).trans rfl, (blk_cell (P3.out _ ST.out) 1).trans rfl⟩ (fun hHeld => ?_)
      clear hK K
      refine norm_ (a' := ?_) ?_ ?_
      rotate_left
      ·show Act.put _ (some 98) _ = _
       simp only [Act.put, qa_, qz_, qs_, i64_w, i32_w]
       rfl
      refine two_ (i := 4) (j := 8) (Ni := some 99) (Nj := some 15) p11_19008 p11_19009 rfl rfl rfl rfl (by kernel_rfl) (by decide) (by decide) (fun K hK => ?_) (fun K hK => ?_)
      ·skip
       obtain ⟨Ar0, cr0, er0⟩ := Kd.R_slice HX0.out
       subst er0
       obtain ⟨Ar1, cr1, er1⟩ := Kd.S_slice HX1.out
       subst er1
       obtain ⟨Ar2, cr2, er2⟩ := Kd.R_slice HX2.out
       subst er2
       refine goes_ Try.func9 (by kernel_rfl) rfl #[.agg #[.slice Ar0 x0_0.length cr0, .slice Ar1 x0_1.length cr1], .agg #[.int .i64 x1_0, .slice Ar2 x1_1.length cr2]] (by rfl) rfl rfl (by (try simp only [List.map_toArray, List.map_cons, List.map_nil]); first | done | rfl | (simp only [List.length_drop, List.length_take]; rfl)) ?_
       refine (impl_AddHole.calls k Ar0 cr0 x0_0 Ar1 cr1 x0_1 x1_0 Ar2 cr2 x1_1 g0 g1 g2 _ (Kd.R_reads' HX0.out).2.2 (Kd.R_reads' HX0.out).2.1 (Kd.S_reads' HX1.out).2.2 (Kd.S_reads' HX1.out).2.1 (Kd.R_reads' HX2.out).2.2 (Kd.R_reads' HX2.out).2.1 BG.out).mono ?_
       rintro e w45 ⟨v0, v1, rfl, ho0, ho1, hb⟩
       refine ⟨_, rfl, ?_⟩
       have ST_ := Aside0.mk (KP.out _ _ ST.out hb)
       have SN_ := Aside0.mk (Nat.le_trans SN.out hb.size)
       have HV0 := Aside0.mk (Kd.R_lower ho0 (P1.out _ ST.out).size)
       have HV1 := Aside0.mk (Kd.S_mono (ok' := fun _ => True) (Kd.S_lower ho1 (P1.out _ ST.out).size) (fun _ _ => trivial))
       clear hb ho0 ho1 HX0 HX1 HX2
       clear ST SN
       have ST := ST_
       have SN := SN_
       clear ST_ SN_
       refine hK.out _ _ ⟨(blk_cell (P2.out _ ST.out) 0).trans rfl, (blk_cell (P2.out _ ST.out) 1).trans rfl, (blk_cell (P3.out _ ST.out) 0).trans rfl, (blk_cell (P3.out _ ST.out) 1).trans rfl⟩ (fun hHeld => ?_)
       clear hK K
       refine norm_ (a' := ?_) ?_ ?_
       rotate_left
       ·show Act.put _ (some 99) _ = _
        simp only [Act.put, qa_, qz_, qs_, i64_w, i32_w]
        rfl
       refine pure_ (i := 5) (N := some 94) (v := ?_) (a' := ?_) p11_19010 rfl rfl (by kernel_rfl) (fun _ _ _ h => h) (Or.inl ⟨by rfl, ?_⟩) ?_ ?_
       rotate_left
       ·intro w'
        go_simp
        with_reducible rfl
       rotate_left
       ·simp only [Act.put, qa_, qz_, qs_, i64_w, i32_w]
        rfl
       refine pure_ (i := 6) (N := some 100) (v := ?_) (a' := ?_) p11_19011 rfl rfl (by kernel_rfl) (fun _ _ _ h => h) (Or.inl ⟨by rfl, ?_⟩) ?_ ?_
       rotate_left
       ·intro w'
        go_simp
        with_reducible rfl
       rotate_left
       ·simp only [Act.put, qa_, qz_, qs_, i64_w, i32_w]
        rfl
       refine pure_ (i := 7) (N := some 101) (v := ?_) (a' := ?_) p11_19012 rfl rfl (by kernel_rfl) (fun _ _ _ h => h) (Or.inl ⟨by rfl, ?_⟩) ?_ ?_
       rotate_left
       ·intro w'
        go_simp
        with_reducible rfl
       rotate_left
       ·simp only [Act.put, qa_, qz_, qs_, i64_w, i32_w]
        rfl
       refine one_ (i := 8) (N := some 15) p11_19003 rfl rfl (by kernel_rfl) (by decide) (fun K hK => ?_)
       refine box_step ?hg (N := 15) ?hd (cs := #[.slice none 0 0, .slice none 0 0]) (t := 32) ?hr ?_; (case hd => rfl); (case hg => rfl); (case hr => first | (go_simp; done) | (go_simp; rfl))
       intro gA hgA w46 hbox hb
       have NA := Aside0.mk (show N0 ≤ gA by rw [hgA]; exact SN.out)
       have ST_ := Aside0.mk (KP.out _ _ ST.out hb)
       have SN_ := Aside0.mk (Nat.le_trans SN.out hb.size)
       have HV0_ := Aside0.mk (Kd.R_below HV0.out hb)
       have HV1_ := Aside0.mk (Kd.S_below HV1.out hb)
       have HA := Aside0.mk hbox
       clear hb hbox hgA
       clear ST SN HV0 HV1
       have ST := ST_
       have SN := SN_
       have HV0 := HV0_
       have HV1 := HV1_
       clear ST_ SN_ HV0_ HV1_
       refine hK.out _ _ ⟨(blk_cell (P2.out _ ST.out) 0).trans rfl, (blk_cell (P2.out _ ST.out) 1).trans rfl, (blk_cell (P3.out _ ST.out) 0).trans rfl, (blk_cell (P3.out _ ST.out) 1).trans rfl⟩ (fun hHeld => ?_)
       clear hK K
       refine norm_ (a' := ?_) ?_ ?_
       rotate_left
       ·show Act.put _ (some 15) _ = _
        simp only [Act.put, qa_, qz_, qs_, i64_w, i32_w]
        rfl
       exact norm_ (by simp only [putAll, Act.put, qa_, qz_, qs_]) (hCont (.slice Ar0 x0_0.length cr0, .slice Ar1 x0_1.length cr1, .slice Ar2 x1_1.length cr2, v0, v1, gA) _ ⟨hHeld, ST.out, HV0.out, HV1.out, HA.out, NA.out⟩)
      ·skip
       refine box_step ?hg (N := 15) ?hd (cs := #[.slice none 0 0, .slice none 0 0]) (t := 32) ?hr ?_; (case hd => rfl); (case hg => rfl); (case hr => first | (go_simp; done) | (go_simp; rfl))
       intro gA hgA w47 hbox hb
       have NA := Aside0.mk (show N0 ≤ gA by rw [hgA]; exact SN.out)
       have ST_ := Aside0.mk (KP.out _ _ ST.out hb)
       have SN_ := Aside0.mk (Nat.le_trans SN.out hb.size)
       have HX0_ := Aside0.mk (Kd.R_below HX0.out hb)
       have HX1_ := Aside0.mk (Kd.S_below HX1.out hb)
       have HX2_ := Aside0.mk (Kd.R_below HX2.out hb)
       have HA := Aside0.mk hbox
       clear hb hbox hgA
       clear ST SN HX0 HX1 HX2
       have ST := ST_
       have SN := SN_
       have HX0 := HX0_
       have HX1 := HX1_
       have HX2 := HX2_
       clear ST_ SN_ HX0_ HX1_ HX2_
       refine hK.out _ _ ⟨(blk_cell (P2.out _ ST.out) 0).trans rfl, (blk_cell (P2.out _ ST.out) 1).trans rfl, (blk_cell (P3.out _ ST.out) 0).trans rfl, (blk_cell (P3.out _ ST.out) 1).trans rfl⟩ (fun hHeld => ?_)
       clear hK K
       refine norm_ (a' := ?_) ?_ ?_
       rotate_left
       ·show Act.put _ (some 15) _ = _
        simp only [Act.put, qa_, qz_, qs_, i64_w, i32_w]
        rfl
       refine one_ (i := 4) (N := some 99) p11_19013 rfl rfl (by kernel_rfl) (by decide) (fun K hK => ?_)
       obtain ⟨Ar0, cr0, er0⟩ := Kd.R_slice HX0.out
       subst er0
       obtain ⟨Ar1, cr1, er1⟩ := Kd.S_slice HX1.out
       subst er1
       obtain ⟨Ar2, cr2, er2⟩ := Kd.R_slice HX2.out
       subst er2
       refine goes_ Try.func9 (by kernel_rfl) rfl #[.agg #[.slice Ar0 x0_0.length cr0, .slice Ar1 x0_1.length cr1], .agg #[.int .i64 x1_0, .slice Ar2 x1_1.length cr2]] (by rfl) rfl rfl (by (try simp only [List.map_toArray, List.map_cons, List.map_nil]); first | done | rfl | (simp only [List.length_drop, List.length_take]; rfl)) ?_
       refine (impl_AddHole.calls k Ar0 cr0 x0_0 Ar1 cr1 x0_1 x1_0 Ar2 cr2 x1_1 g0 g1 g2 _ (Kd.R_reads' HX0.out).2.2 (Kd.R_reads' HX0.out).2.1 (Kd.S_reads' HX1.out).2.2 (Kd.S_reads' HX1.out).2.1 (Kd.R_reads' HX2.out).2.2 (Kd.R_reads' HX2.out).2.1 BG.out).mono ?_
       rintro e w48 ⟨v0, v1, rfl, ho0, ho1, hb⟩
       refine ⟨_, rfl, ?_⟩
       have ST_ := Aside0.mk (KP.out _ _ ST.out hb)
       have SN_ := Aside0.mk (Nat.le_trans SN.out hb.size)
       have HA_ := Aside0.mk (blk_below HA.out hb)
       have HV0 := Aside0.mk (Kd.R_lower ho0 (P1.out _ ST.out).size)
       have HV1 := Aside0.mk (Kd.S_mono (ok' := fun _ => True) (Kd.S_lower ho1 (P1.out _ ST.out).size) (fun _ _ => trivial))
       clear hb ho0 ho1 HX0 HX1 HX2
       clear ST SN HA
       have ST := ST_
       have SN := SN_
       have HA := HA_
       clear ST_ SN_ HA_
       refine hK.out _ _ ⟨(blk_cell (P2.out _ ST.out) 0).trans rfl, (blk_cell (P2.out _ ST.out) 1).trans rfl, (blk_cell (P3.out _ ST.out) 0).trans rfl, (blk_cell (P3.out _ ST.out) 1).trans rfl⟩ (fun hHeld => ?_)
       clear hK K
       refine norm_ (a' := ?_) ?_ ?_
       rotate_left
       ·show Act.put _ (some 99) _ = _
        simp only [Act.put, qa_, qz_, qs_, i64_w, i32_w]
        rfl
       refine pure_ (i := 5) (N := some 94) (v := ?_) (a' := ?_) p11_19014 rfl rfl (by kernel_rfl) (fun _ _ _ h => h) (Or.inl ⟨by rfl, ?_⟩) ?_ ?_
       rotate_left
       ·intro w'
        go_simp
        with_reducible rfl
       rotate_left
       ·simp only [Act.put, qa_, qz_, qs_, i64_w, i32_w]
        rfl
       refine pure_ (i := 6) (N := some 100) (v := ?_) (a' := ?_) p11_19015 rfl rfl (by kernel_rfl) (fun _ _ _ h => h) (Or.inl ⟨by rfl, ?_⟩) ?_ ?_
       rotate_left
       ·intro w'
        go_simp
        with_reducible rfl
       rotate_left
       ·simp only [Act.put, qa_, qz_, qs_, i64_w, i32_w]
        rfl
       refine pure_ (i := 7) (N := some 101) (v := ?_) (a' := ?_) p11_19003 rfl rfl (by kernel_rfl) (fun _ _ _ h => h) (Or.inl ⟨by rfl, ?_⟩) ?_ ?_
       rotate_left
       ·intro w'
        go_simp
        with_reducible rfl
       rotate_left
       ·simp only [Act.put, qa_, qz_, qs_, i64_w, i32_w]
        rfl
       exact norm_ (by simp only [putAll, Act.put, qa_, qz_, qs_]) (hCont (.slice Ar0 x0_0.length cr0, .slice Ar1 x0_1.length cr1, .slice Ar2 x1_1.length cr2, v0, v1, gA) _ ⟨hHeld, ST.out, HV0.out, HV1.out, HA.out, NA.out⟩)
     ·skip
      refine box_step ?hg (N := 15) ?hd (cs := #[.slice none 0 0, .slice none 0 0]) (t := 32) ?hr ?_; (case hd => rfl); (case hg => rfl); (case hr => first | (go_simp; done) | (go_simp; rfl))
      intro gA hgA w49 hbox hb
      have NA := Aside0.mk (show N0 ≤ gA by rw [hgA]; exact SN.out)
      have ST_ := Aside0.mk (KP.out _ _ ST.out hb)
      have SN_ := Aside0.mk (Nat.le_trans SN.out hb.size)
      have HX0_ := Aside0.mk (Kd.R_below HX0.out hb)
      have HX1_ := Aside0.mk (Kd.S_below HX1.out hb)
      have HA := Aside0.mk hbox
      clear hb hbox hgA
      clear ST SN HX0 HX1
      have ST := ST_
      have SN := SN_
      have HX0 := HX0_
      have HX1 := HX1_
      clear ST_ SN_ HX0_ HX1_
      refine hK.out _ _ ⟨(blk_cell (P2.out _ ST.out) 0).trans rfl, (blk_cell (P2.out _ ST.out) 1).trans rfl, (blk_cell (P3.out _ ST.out) 0).trans rfl, (blk_cell (P3.out _ ST.out) 1).trans rfl⟩ (fun hHeld => ?_)
      clear hK K
      refine norm_ (a' := ?_) ?_ ?_
      rotate_left
      ·show Act.put _ (some 15) _ = _
       simp only [Act.put, qa_, qz_, qs_, i64_w, i32_w]
       rfl
      refine one_ (i := 3) (N := some 98) p11_19009 rfl rfl (by kernel_rfl) (by decide) (fun K hK => ?_)
      refine goes_ Try.func8 (by kernel_rfl) rfl #[.agg #[.int .i64 a1_0, .slice A1_1 l1_1.length c1_1]] (by rfl) rfl rfl (by (try simp only [List.map_toArray, List.map_cons, List.map_nil]); first | done | rfl | (simp only [List.length_drop, List.length_take]; rfl)) ?_
      refine (laws_toHole.calls k a1_0 A1_1 c1_1 l1_1 x1_0 x1_1 _ (Kd.C_below HR1_1.out (P1.out _ ST.out)) HC1_1.out BT1.out).mono ?_
      rintro e w50 ⟨vx2, rfl, ho0, hb⟩
      refine ⟨_, rfl, ?_⟩
      have ST_ := Aside0.mk (KP.out _ _ ST.out hb)
      have SN_ := Aside0.mk (Nat.le_trans SN.out hb.size)
      have HX0_ := Aside0.mk (Kd.R_below HX0.out hb)
      have HX1_ := Aside0.mk (Kd.S_below HX1.out hb)
      have HA_ := Aside0.mk (blk_below HA.out hb)
      have HX2 := Aside0.mk ho0
      clear hb ho0
      clear ST SN HX0 HX1 HA
      have ST := ST_
      have SN := SN_
      have HX0 := HX0_
      have HX1 := HX1_
      have HA := HA_
      clear ST_ SN_ HX0_ HX1_ HA_
      refine hK.out _ _ ⟨(blk_cell (P2.out _ ST.out) 0).trans rfl, (blk_cell (P2.out _ ST.out) 1).trans rfl, (blk_cell (P3.out _ ST.out) 0).trans rfl, (blk_cell (P3.out _ ST.out) 1).trans rfl⟩ (fun hHeld => ?_)
      clear hK K
      refine norm_ (a' := ?_) ?_ ?_
      rotate_left
      ·show Act.put _ (some 98) _ = _
       simp only [Act.put, qa_, qz_, qs_, i64_w, i32_w]
       rfl
      refine one_ (i := 4) (N := some 99) p11_19013 rfl rfl (by kernel_rfl) (by decide) (fun K hK => ?_)
      obtain ⟨Ar0, cr0, er0⟩ := Kd.R_slice HX0.out
      subst er0
      obtain ⟨Ar1, cr1, er1⟩ := Kd.S_slice HX1.out
      subst er1
      obtain ⟨Ar2, cr2, er2⟩ := Kd.R_slice HX2.out
      subst er2
      refine goes_ Try.func9 (by kernel_rfl) rfl #[.agg #[.slice Ar0 x0_0.length cr0, .slice Ar1 x0_1.length cr1], .agg #[.int .i64 x1_0, .slice Ar2 x1_1.length cr2]] (by rfl) rfl rfl (by (try simp only [List.map_toArray, List.map_cons, List.map_nil]); first | done | rfl | (simp only [List.length_drop, List.length_take]; rfl)) ?_
      refine (impl_AddHole.calls k Ar0 cr0 x0_0 Ar1 cr1 x0_1 x1_0 Ar2 cr2 x1_1 g0 g1 g2 _ (Kd.R_reads' HX0.out).2.2 (Kd.R_reads' HX0.out).2.1 (Kd.S_reads' HX1.out).2.2 (Kd.S_reads' HX1.out).2.1 (Kd.R_reads' HX2.out).2.2 (Kd.R_reads' HX2.out).2.1 BG.out).mono ?_
      rintro e w51 ⟨v0, v1, rfl, ho0, ho1, hb⟩
      refine ⟨_, rfl, ?_⟩
      have ST_ := Aside0.mk (KP.out _ _ ST.out hb)
      have SN_ := Aside0.mk (Nat.le_trans SN.out hb.size)
      have HA_ := Aside0.mk (blk_below HA.out hb)
      have HV0 := Aside0.mk (Kd.R_lower ho0 (P1.out _ ST.out).size)
      have HV1 := Aside0.mk (Kd.S_mono (ok' := fun _ => True) (Kd.S_lower ho1 (P1.out _ ST.out).size) (fun _ _ => trivial))
      clear hb ho0 ho1 HX0 HX1 HX2
      clear ST SN HA
      have ST := ST_
      have SN := SN_
      have HA := HA_
      clear ST_ SN_ HA_
      refine hK.out _ _ ⟨(blk_cell (P2.out _ ST.out) 0).trans rfl, (blk_cell (P2.out _ ST.out) 1).trans rfl, (blk_cell (P3.out _ ST.out) 0).trans rfl, (blk_cell (P3.out _ ST.out) 1).trans rfl⟩ (fun hHeld => ?_)
      clear hK K
      refine norm_ (a' := ?_) ?_ ?_
      rotate_left
      ·show Act.put _ (some 99) _ = _
       simp only [Act.put, qa_, qz_, qs_, i64_w, i32_w]
       rfl
      refine pure_ (i := 5) (N := some 94) (v := ?_) (a' := ?_) p11_19014 rfl rfl (by kernel_rfl) (fun _ _ _ h => h) (Or.inl ⟨by rfl, ?_⟩) ?_ ?_
      rotate_left
      ·intro w'
       go_simp
       with_reducible rfl
      rotate_left
      ·simp only [Act.put, qa_, qz_, qs_, i64_w, i32_w]
       rfl
      refine pure_ (i := 6) (N := some 100) (v := ?_) (a' := ?_) p11_19015 rfl rfl (by kernel_rfl) (fun _ _ _ h => h) (Or.inl ⟨by rfl, ?_⟩) ?_ ?_
      rotate_left
      ·intro w'
       go_simp
       with_reducible rfl
      rotate_left
      ·simp only [Act.put, qa_, qz_, qs_, i64_w, i32_w]
       rfl
      refine pure_ (i := 7) (N := some 101) (v := ?_) (a' := ?_) p11_19003 rfl rfl (by kernel_rfl) (fun _ _ _ h => h) (Or.inl ⟨by rfl, ?_⟩) ?_ ?_
      rotate_left
      ·intro w'
       go_simp
       with_reducible rfl
      rotate_left
      ·simp only [Act.put, qa_, qz_, qs_, i64_w, i32_w]
       rfl
      exact norm_ (by simp only [putAll, Act.put, qa_, qz_, qs_]) (hCont (.slice Ar0 x0_0.length cr0, .slice Ar1 x0_1.length cr1, .slice Ar2 x1_1.length cr2, v0, v1, gA) _ ⟨hHeld, ST.out, HV0.out, HV1.out, HA.out, NA.out⟩)
    ·skip
     refine box_step ?hg (N := 15) ?hd (cs := #[.slice none 0 0, .slice none 0 0]) (t := 32) ?hr ?_; (case hd => rfl); (case hg => rfl); (case hr => first | (go_simp; done) | (go_simp; rfl))
     intro gA hgA w52 hbox hb
     have NA := Aside0.mk (show N0 ≤ gA by rw [hgA]; exact SN.out)
     have ST_ := Aside0.mk (KP.out _ _ ST.out hb)
     have SN_ := Aside0.mk (Nat.le_trans SN.out hb.size)
     have HA := Aside0.mk hbox
     clear hb hbox hgA
     clear ST SN
     have ST := ST_
     have SN := SN_
     clear ST_ SN_
     refine hK.out _ _ ⟨(blk_cell (P2.out _ ST.out) 0).trans rfl, (blk_cell (P2.out _ ST.out) 1).trans rfl, (blk_cell (P3.out _ ST.out) 0).trans rfl, (blk_cell (P3.out _ ST.out) 1).trans rfl⟩ (fun hHeld => ?_)
     clear hK K
     refine norm_ (a' := ?_) ?_ ?_
     rotate_left
     ·show Act.put _ (some 15) _ = _
      simp only [Act.put, qa_, qz_, qs_, i64_w, i32_w]
      rfl
     refine one_ (i := 1) (N := some 96) p11_19007 rfl rfl (by kernel_rfl) (by decide) (fun K hK => ?_)
     refine goes_ Try.func7 (by kernel_rfl) rfl #[.agg #[.slice A0_0 l0_0.length c0_0, .slice A0_1 l0_1.length c0_1]] (by rfl) rfl rfl (by (try simp only [List.map_toArray, List.map_cons, List.map_nil]); first | done | rfl | (simp only [List.length_drop, List.length_take]; rfl)) ?_
     refine (laws_toGround.calls k A0_0 c0_0 l0_0 A0_1 c0_1 l0_1 x0_0 x0_1 _ (Kd.C_below HR0_0.out (P1.out _ ST.out)) HC0_0.out (Kd.C_below HR0_1.out (P1.out _ ST.out)) HC0_1.out BT0.out).mono ?_
     rintro e w53 ⟨vx0, vx1, rfl, ho0, ho1, hb⟩
     refine ⟨_, rfl, ?_⟩
     have ST_ := Aside0.mk (KP.out _ _ ST.out hb)
     have SN_ := Aside0.mk (Nat.le_trans SN.out hb.size)
     have HA_ := Aside0.mk (blk_below HA.out hb)
     have HX0 := Aside0.mk ho0
     have HX1 := Aside0.mk ho1
     clear hb ho0 ho1
     clear ST SN HA
     have ST := ST_
     have SN := SN_
     have HA := HA_
     clear ST_ SN_ HA_
     refine hK.out _ _ ⟨(blk_cell (P2.out _ ST.out) 0).trans rfl, (blk_cell (P2.out _ ST.out) 1).trans rfl, (blk_cell (P3.out _ ST.out) 0).trans rfl, (blk_cell (P3.out _ ST.out) 1).trans rfl⟩ (fun hHeld => ?_)
     clear hK K
     refine norm_ (a' := ?_) ?_ ?_
     rotate_left
     ·show Act.put _ (some 96) _ = _
      simp only [Act.put, qa_, qz_, qs_, i64_w, i32_w]
      rfl
     refine one_ (i := 3) (N := some 98) p11_19009 rfl rfl (by kernel_rfl) (by decide) (fun K hK => ?_)
     refine goes_ Try.func8 (by kernel_rfl) rfl #[.agg #[.int .i64 a1_0, .slice A1_1 l1_1.length c1_1]] (by rfl) rfl rfl (by (try simp only [List.map_toArray, List.map_cons, List.map_nil]); first | done | rfl | (simp only [List.length_drop, List.length_take]; rfl)) ?_
     refine (laws_toHole.calls k a1_0 A1_1 c1_1 l1_1 x1_0 x1_1 _ (Kd.C_below HR1_1.out (P1.out _ ST.out)) HC1_1.out BT1.out).mono ?_
     rintro e w54 ⟨vx2, rfl, ho0, hb⟩
     refine ⟨_, rfl, ?_⟩
     have ST_ := Aside0.mk (KP.out _ _ ST.out hb)
     have SN_ := Aside0.mk (Nat.le_trans SN.out hb.size)
     have HX0_ := Aside0.mk (Kd.R_below HX0.out hb)
     have HX1_ := Aside0.mk (Kd.S_below HX1.out hb)
     have HA_ := Aside0.mk (blk_below HA.out hb)
     have HX2 := Aside0.mk ho0
     clear hb ho0
     clear ST SN HX0 HX1 HA
     have ST := ST_
     have SN := SN_
     have HX0 := HX0_
     have HX1 := HX1_
     have HA := HA_
     clear ST_ SN_ HX0_ HX1_ HA_
     refine hK.out _ _ ⟨(blk_cell (P2.out _ ST.out) 0).trans rfl, (blk_cell (P2.out _ ST.out) 1).trans rfl, (blk_cell (P3.out _ ST.out) 0).trans rfl, (blk_cell (P3.out _ ST.out) 1).trans rfl⟩ (fun hHeld => ?_)
     clear hK K
     refine norm_ (a' := ?_) ?_ ?_
     rotate_left
     ·show Act.put _ (some 98) _ = _
      simp only [Act.put, qa_, qz_, qs_, i64_w, i32_w]
      rfl
     refine one_ (i := 4) (N := some 99) p11_19013 rfl rfl (by kernel_rfl) (by decide) (fun K hK => ?_)
     obtain ⟨Ar0, cr0, er0⟩ := Kd.R_slice HX0.out
     subst er0
     obtain ⟨Ar1, cr1, er1⟩ := Kd.S_slice HX1.out
     subst er1
     obtain ⟨Ar2, cr2, er2⟩ := Kd.R_slice HX2.out
     subst er2
     refine goes_ Try.func9 (by kernel_rfl) rfl #[.agg #[.slice Ar0 x0_0.length cr0, .slice Ar1 x0_1.length cr1], .agg #[.int .i64 x1_0, .slice Ar2 x1_1.length cr2]] (by rfl) rfl rfl (by (try simp only [List.map_toArray, List.map_cons, List.map_nil]); first | done | rfl | (simp only [List.length_drop, List.length_take]; rfl)) ?_
     refine (impl_AddHole.calls k Ar0 cr0 x0_0 Ar1 cr1 x0_1 x1_0 Ar2 cr2 x1_1 g0 g1 g2 _ (Kd.R_reads' HX0.out).2.2 (Kd.R_reads' HX0.out).2.1 (Kd.S_reads' HX1.out).2.2 (Kd.S_reads' HX1.out).2.1 (Kd.R_reads' HX2.out).2.2 (Kd.R_reads' HX2.out).2.1 BG.out).mono ?_
     rintro e w55 ⟨v0, v1, rfl, ho0, ho1, hb⟩
     refine ⟨_, rfl, ?_⟩
     have ST_ := Aside0.mk (KP.out _ _ ST.out hb)
     have SN_ := Aside0.mk (Nat.le_trans SN.out hb.size)
     have HA_ := Aside0.mk (blk_below HA.out hb)
     have HV0 := Aside0.mk (Kd.R_lower ho0 (P1.out _ ST.out).size)
     have HV1 := Aside0.mk (Kd.S_mono (ok' := fun _ => True) (Kd.S_lower ho1 (P1.out _ ST.out).size) (fun _ _ => trivial))
     clear hb ho0 ho1 HX0 HX1 HX2
     clear ST SN HA
     have ST := ST_
     have SN := SN_
     have HA := HA_
     clear ST_ SN_ HA_
     refine hK.out _ _ ⟨(blk_cell (P2.out _ ST.out) 0).trans rfl, (blk_cell (P2.out _ ST.out) 1).trans rfl, (blk_cell (P3.out _ ST.out) 0).trans rfl, (blk_cell (P3.out _ ST.out) 1).trans rfl⟩ (fun hHeld => ?_)
     clear hK K
     refine norm_ (a' := ?_) ?_ ?_
     rotate_left
     ·show Act.put _ (some 99) _ = _
      simp only [Act.put, qa_, qz_, qs_, i64_w, i32_w]
      rfl
     refine pure_ (i := 5) (N := some 94) (v := ?_) (a' := ?_) p11_19014 rfl rfl (by kernel_rfl) (fun _ _ _ h => h) (Or.inl ⟨by rfl, ?_⟩) ?_ ?_
     rotate_left
     ·intro w'
      go_simp
      with_reducible rfl
     rotate_left
     ·simp only [Act.put, qa_, qz_, qs_, i64_w, i32_w]
      rfl
     refine pure_ (i := 6) (N := some 100) (v := ?_) (a' := ?_) p11_19015 rfl rfl (by kernel_rfl) (fun _ _ _ h => h) (Or.inl ⟨by rfl, ?_⟩) ?_ ?_
     rotate_left
     ·intro w'
      go_simp
      with_reducible rfl
     rotate_left
     ·simp only [Act.put, qa_, qz_, qs_, i64_w, i32_w]
      rfl
     refine pure_ (i := 7) (N := some 101) (v := ?_) (a' := ?_) p11_19003 rfl rfl (by kernel_rfl) (fun _ _ _ h => h) (Or.inl ⟨by rfl, ?_⟩) ?_ ?_
     rotate_left
     ·intro w'
      go_simp
      with_reducible rfl
     rotate_left
     ·simp only [Act.put, qa_, qz_, qs_, i64_w, i32_w]
      rfl
     exact norm_ (by simp only [putAll, Act.put, qa_, qz_, qs_]) (hCont (.slice Ar0 x0_0.length cr0, .slice Ar1 x0_1.length cr1, .slice Ar2 x1_1.length cr2, v0, v1, gA) _ ⟨hHeld, ST.out, HV0.out, HV1.out, HA.out, NA.out⟩)
   rintro ⟨vx0, vx1, vx2, v0, v1, gp⟩ w56 ⟨hHeld, hst, hv0, hv1, ha, hna⟩
   dsimp only at hst hv0 hv1 ha hna
   rw [HPQ.out] at hst
   obtain ⟨hb_, hb_BA0, hb_BA1, hb_BS, hb_BX2, hr_HS0, hr_HS1, hr_HM0, hr_HM1⟩ := hst
   have HB := Aside0.mk hb_
   have BA0 := Aside0.mk hb_BA0
   have BA1 := Aside0.mk hb_BA1
   have BS := Aside0.mk hb_BS
   have BX2 := Aside0.mk hb_BX2
   have HS0 := Aside0.mk hr_HS0
   have HS1 := Aside0.mk hr_HS1
   have HM0 := Aside0.mk hr_HM0
   have HM1 := Aside0.mk hr_HM1
   have HV0 := Aside0.mk hv0
   have HV1 := Aside0.mk hv1
   have HA := Aside0.mk ha
   have NA := Aside0.mk hna
   clear hb_ hv0 hv1 ha hna ST SN KP P1 P2 P3 HPQ hb_BA0 hb_BA1 hb_BS hb_BX2 hr_HS0 hr_HS1 hr_HM0 hr_HM1
   refine norm_ (a' := ?_) ?_ ?_
   rotate_left
   ·simp only [putAll, Act.put, qa_, qz_, qs_]
    rfl
   obtain ⟨Ap0, cp0, ep0⟩ := Kd.R_slice HV0.out
   subst ep0
   obtain ⟨Ap1, cp1, ep1⟩ := Kd.S_slice HV1.out
   subst ep1
   refine one_ (i := 9) (N := none) p11_19016 rfl rfl (by kernel_rfl) (by decide) (fun K hK => ?_)
   have hs0 : w56.cell? ⟨gp, 0, none⟩ = some (.slice none 0 0) := (blk_cell HA.out 0).trans rfl
   have hfs0 := blk_frozen HA.out 0
   have hs1 : w56.cell? ⟨gp, 1, none⟩ = some (.slice none 0 0) := (blk_cell HA.out 1).trans rfl
   have hfs1 := blk_frozen HA.out 1
   have hn_BA0 : ga0 ≠ gp := by have h1 := LBA0.out; have h2 := NA.out; omega
   have hn_BA1 : ga1 ≠ gp := by have h1 := LBA1.out; have h2 := NA.out; omega
   have hn_BS : gs ≠ gp := by have h1 := LBS.out; have h2 := NA.out; omega
   have hn_BX2 : gg ≠ gp := by have h1 := LBX2.out; have h2 := NA.out; omega
   refine skip_ (w1 := ?_) (by rfl) rfl ?_ ?_
   rotate_left
   ·go_simp
    rfl
   refine hK.out _ _ ⟨((cell_far (p := ⟨gp, _, none⟩) hn_BA0 _).trans ((cell_far (p := ⟨gp, _, none⟩) hn_BA0 _).trans (hHeld.1))), ((cell_far (p := ⟨gp, _, none⟩) hn_BA0 _).trans ((cell_far (p := ⟨gp, _, none⟩) hn_BA0 _).trans (hHeld.2.1))), ((cell_far (p := ⟨gp, _, none⟩) hn_BA1 _).trans ((cell_far (p := ⟨gp, _, none⟩) hn_BA1 _).trans (hHeld.2.2.1))), ((cell_far (p := ⟨gp, _, none⟩) hn_BA1 _).trans ((cell_far (p := ⟨gp, _, none⟩) hn_BA1 _).trans (hHeld.2.2.2)))⟩ (fun hHeld => ?_)
   clear hK K
   refine pure_ (i := 10) (N := some 16) (v := ?_) (a' := ?_) p11_19017 rfl rfl (by kernel_rfl) (fun _ _ _ h => h) (Or.inl ⟨by rfl, ?_⟩) ?_ ?_
   rotate_left
   ·intro w'
    go_simp
    with_reducible rfl
   rotate_left
   ·simp only [Act.put, qa_, qz_, qs_, i64_w, i32_w]
    rfl
   refine done_ (by kernel_rfl) ?_
   have HB_ := Aside0.mk (show Below w.heap.size w ((w56.setCell ⟨gp, 0, none⟩ (.slice Ap0 g0.length cp0)).setCell ⟨gp, 1, none⟩ (.slice Ap1 g1.length cp1)) from below_set (below_set HB.out (by have h1 := LW.out; have h2 := NA.out; omega)) (by have h1 := LW.out; have h2 := NA.out; omega))
   have BA0_ := Aside0.mk (show (World.heap ((w56.setCell ⟨gp, 0, none⟩ (.slice Ap0 g0.length cp0)).setCell ⟨gp, 1, none⟩ (.slice Ap1 g1.length cp1)))[ga0]? = some (.cells #[.slice A0_0 l0_0.length c0_0, .slice A0_1 l0_1.length c0_1] 25 (0, 0)) from blk_far (blk_far BA0.out hn_BA0 _) hn_BA0 _)
   have BA1_ := Aside0.mk (show (World.heap ((w56.setCell ⟨gp, 0, none⟩ (.slice Ap0 g0.length cp0)).setCell ⟨gp, 1, none⟩ (.slice Ap1 g1.length cp1)))[ga1]? = some (.cells #[.int .i64 a1_0, .slice A1_1 l1_1.length c1_1] 27 (0, 0)) from blk_far (blk_far BA1.out hn_BA1 _) hn_BA1 _)
   have BS_ := Aside0.mk (show (World.heap ((w56.setCell ⟨gp, 0, none⟩ (.slice Ap0 g0.length cp0)).setCell ⟨gp, 1, none⟩ (.slice Ap1 g1.length cp1)))[gs]? = some (.cells #[.slice As0 s0.length cs0, .slice As1 s1.length cs1] 32 (0, 0)) from blk_far (blk_far BS.out hn_BS _) hn_BS _)
   have BX2_ := Aside0.mk (show (World.heap ((w56.setCell ⟨gp, 0, none⟩ (.slice Ap0 g0.length cp0)).setCell ⟨gp, 1, none⟩ (.slice Ap1 g1.length cp1)))[gg]? = some (.cells #[.slice Agg0 lk0.length cgg0, .slice Agg1 lk1.length cgg1] 32 (0, 0)) from blk_far (blk_far BX2.out hn_BX2 _) hn_BX2 _)
   have HS0_ := Aside0.mk (show Kd.R (Kd.int .i64) 2  ((w56.setCell ⟨gp, 0, none⟩ (.slice Ap0 g0.length cp0)).setCell ⟨gp, 1, none⟩ (.slice Ap1 g1.length cp1)) w.heap.size (fun _ => True) (.slice As0 s0.length cs0) s0 from Kd.R_mono (Kd.R_far (p := ⟨gp, 1, none⟩) (Kd.R_far (p := ⟨gp, 0, none⟩) (Kd.R_types HS0.out HA.out (by decide)) (fun _ hk => hk.2) _) (fun _ hk => hk.2) _) (fun _ _ => trivial))
   have HS1_ := Aside0.mk (show Kd.S k36 36  ((w56.setCell ⟨gp, 0, none⟩ (.slice Ap0 g0.length cp0)).setCell ⟨gp, 1, none⟩ (.slice Ap1 g1.length cp1)) w.heap.size (fun _ => True) (.slice As1 s1.length cs1) s1 from Kd.S_mono (Kd.S_far (p := ⟨gp, 1, none⟩) (Kd.S_far (p := ⟨gp, 0, none⟩) (Kd.S_types HS1.out HA.out (by decide)) (fun _ hk => hk.2) _) (fun _ hk => hk.2) _) (fun _ _ => trivial))
   have HM0_ := Aside0.mk (show Kd.R (Kd.int .i64) 2  ((w56.setCell ⟨gp, 0, none⟩ (.slice Ap0 g0.length cp0)).setCell ⟨gp, 1, none⟩ (.slice Ap1 g1.length cp1)) w.heap.size (fun _ => True) (.slice Agg0 lk0.length cgg0) lk0 from Kd.R_mono (Kd.R_far (p := ⟨gp, 1, none⟩) (Kd.R_far (p := ⟨gp, 0, none⟩) (Kd.R_types HM0.out HA.out (by decide)) (fun _ hk => hk.2) _) (fun _ hk => hk.2) _) (fun _ _ => trivial))
   have HM1_ := Aside0.mk (show Kd.S k36 36  ((w56.setCell ⟨gp, 0, none⟩ (.slice Ap0 g0.length cp0)).setCell ⟨gp, 1, none⟩ (.slice Ap1 g1.length cp1)) w.heap.size (fun _ => True) (.slice Agg1 lk1.length cgg1) lk1 from Kd.S_mono (Kd.S_far (p := ⟨gp, 1, none⟩) (Kd.S_far (p := ⟨gp, 0, none⟩) (Kd.S_types HM1.out HA.out (by decide)) (fun _ hk => hk.2) _) (fun _ hk => hk.2) _) (fun _ _ => trivial))
   have HP0_ := Aside0.mk (show Kd.R (Kd.int .i64) 2  ((w56.setCell ⟨gp, 0, none⟩ (.slice Ap0 g0.length cp0)).setCell ⟨gp, 1, none⟩ (.slice Ap1 g1.length cp1)) w.heap.size (fun _ => True) (.slice Ap0 g0.length cp0) g0 from Kd.R_mono (Kd.R_far (p := ⟨gp, 1, none⟩) (Kd.R_far (p := ⟨gp, 0, none⟩) (Kd.R_types HV0.out HA.out (by decide)) (fun _ hk => hk.2) _) (fun _ hk => hk.2) _) (fun _ _ => trivial))
   have HP1_ := Aside0.mk (show Kd.S k36 36  ((w56.setCell ⟨gp, 0, none⟩ (.slice Ap0 g0.length cp0)).setCell ⟨gp, 1, none⟩ (.slice Ap1 g1.length cp1)) w.heap.size (fun _ => True) (.slice Ap1 g1.length cp1) g1 from Kd.S_mono (Kd.S_far (p := ⟨gp, 1, none⟩) (Kd.S_far (p := ⟨gp, 0, none⟩) (Kd.S_types HV1.out HA.out (by decide)) (fun _ hk => hk.2) _) (fun _ hk => hk.2) _) (fun _ _ => trivial))
   have BP_ := Aside0.mk (show (World.heap ((w56.setCell ⟨gp, 0, none⟩ (.slice Ap0 g0.length cp0)).setCell ⟨gp, 1, none⟩ (.slice Ap1 g1.length cp1)))[gp]? = some (.cells #[.slice Ap0 g0.length cp0, .slice Ap1 g1.length cp1] 32 (0, 0)) from blk_put (cs := #[.slice Ap0 g0.length cp0, .slice none 0 0]) (blk_put (cs := #[.slice none 0 0, .slice none 0 0]) HA.out 0 (.slice Ap0 g0.length cp0) rfl) 1 (.slice Ap1 g1.length cp1) rfl)
   have NBPBA0 := Aside0.mk hn_BA0
   have NBPBA1 := Aside0.mk hn_BA1
   have NBPBS := Aside0.mk hn_BS
   have NBPBX2 := Aside0.mk hn_BX2
   clear HB BA0 BA1 BS BX2 HS0 HS1 HM0 HM1
   have HB := HB_
   have BA0 := BA0_
   have BA1 := BA1_
   have BS := BS_
   have BX2 := BX2_
   have BP := BP_
   have HS0 := HS0_
   have HS1 := HS1_
   have HM0 := HM0_
   have HM1 := HM1_
   have HP0 := HP0_
   have HP1 := HP1_
   clear HB_ BA0_ BA1_ BS_ BX2_ BP_ HS0_ HS1_ HM0_ HM1_ HP0_ HP1_
   clear HV0 HV1 HA NA LW hHeld hs0 hs1 hfs0 hfs1 hn_BA0 hn_BA1 hn_BS hn_BX2 LBA0 LBA1 LBS LBX2
   obtain ⟨w57, hw_⟩ : ∃ w_, w_ = ((w56.setCell ⟨gp, 0, none⟩ (.slice Ap0 g0.length cp0)).setCell ⟨gp, 1, none⟩ (.slice Ap1 g1.length cp1)) := ⟨_, rfl⟩
   rw [← hw_] at HB BA0 BA1 BS BX2 BP HS0 HS1 HM0 HM1 HP0 HP1 ⊢
   clear hw_
   have hcBA00 : w57.cell? ⟨ga0, 0, none⟩ = some (.slice A0_0 l0_0.length c0_0) := (blk_cell BA0.out 0).trans rfl
   have hfBA00 := blk_frozen BA0.out 0
   have hcBA01 : w57.cell? ⟨ga0, 1, none⟩ = some (.slice A0_1 l0_1.length c0_1) := (blk_cell BA0.out 1).trans rfl
   have hfBA01 := blk_frozen BA0.out 1
   have hcBA10 : w57.cell? ⟨ga1, 0, none⟩ = some (.int .i64 a1_0) := (blk_cell BA1.out 0).trans rfl
   have hfBA10 := blk_frozen BA1.out 0
   have hcBA11 : w57.cell? ⟨ga1, 1, none⟩ = some (.slice A1_1 l1_1.length c1_1) := (blk_cell BA1.out 1).trans rfl
   have hfBA11 := blk_frozen BA1.out 1
   have hcBS0 : w57.cell? ⟨gs, 0, none⟩ = some (.slice As0 s0.length cs0) := (blk_cell BS.out 0).trans rfl
   have hfBS0 := blk_frozen BS.out 0
   have hcBS1 : w57.cell? ⟨gs, 1, none⟩ = some (.slice As1 s1.length cs1) := (blk_cell BS.out 1).trans rfl
   have hfBS1 := blk_frozen BS.out 1
   have hcBX20 : w57.cell? ⟨gg, 0, none⟩ = some (.slice Agg0 lk0.length cgg0) := (blk_cell BX2.out 0).trans rfl
   have hfBX20 := blk_frozen BX2.out 0
   have hcBX21 : w57.cell? ⟨gg, 1, none⟩ = some (.slice Agg1 lk1.length cgg1) := (blk_cell BX2.out 1).trans rfl
   have hfBX21 := blk_frozen BX2.out 1
   have hcBP0 : w57.cell? ⟨gp, 0, none⟩ = some (.slice Ap0 g0.length cp0) := (blk_cell BP.out 0).trans rfl
   have hfBP0 := blk_frozen BP.out 0
   have hcBP1 : w57.cell? ⟨gp, 1, none⟩ = some (.slice Ap1 g1.length cp1) := (blk_cell BP.out 1).trans rfl
   have hfBP1 := blk_frozen BP.out 1
   have hnBPBA0 := NBPBA0.out
   have hmBPBA0 := NBPBA0.out.symm
   have hnBPBA1 := NBPBA1.out
   have hmBPBA1 := NBPBA1.out.symm
   have hnBPBS := NBPBS.out
   have hmBPBS := NBPBS.out.symm
   have hnBPBX2 := NBPBX2.out
   have hmBPBX2 := NBPBX2.out.symm
   go_wp2_with (first | (go_at_call 10; (with_reducible refine (laws_eqGround.calls k Ap0 cp0 g0 Ap1 cp1 g1 As0 cs0 s0 As1 cs1 s1 true _ (Kd.R_reads' HP0.out).2.2 (Kd.R_reads' HP0.out).2.1 (Kd.S_reads' HP1.out).2.2 (Kd.S_reads' HP1.out).2.1 (Kd.R_reads' HS0.out).2.2 (Kd.R_reads' HS0.out).2.1 (Kd.S_reads' HS1.out).2.2 (Kd.S_reads' HS1.out).2.1 BE.out).mono ?_); rintro e w58 ⟨rfl, hb⟩; have HB_ := Aside0.mk (below_step HB.out hb); have BA0_ := Aside0.mk (blk_below (g := ga0) (o := .cells #[.slice A0_0 l0_0.length c0_0, .slice A0_1 l0_1.length c0_1] 25 (0, 0)) BA0.out hb); have BA1_ := Aside0.mk (blk_below (g := ga1) (o := .cells #[.int .i64 a1_0, .slice A1_1 l1_1.length c1_1] 27 (0, 0)) BA1.out hb); have BS_ := Aside0.mk (blk_below (g := gs) (o := .cells #[.slice As0 s0.length cs0, .slice As1 s1.length cs1] 32 (0, 0)) BS.out hb); have BX2_ := Aside0.mk (blk_below (g := gg) (o := .cells #[.slice Agg0 lk0.length cgg0, .slice Agg1 lk1.length cgg1] 32 (0, 0)) BX2.out hb); have BP_ := Aside0.mk (blk_below (g := gp) (o := .cells #[.slice Ap0 g0.length cp0, .slice Ap1 g1.length cp1] 32 (0, 0)) BP.out hb); have HS0_ := Aside0.mk (Kd.R_below HS0.out hb); have HS1_ := Aside0.mk (Kd.S_below HS1.out hb); have HM0_ := Aside0.mk (Kd.R_below HM0.out hb); have HM1_ := Aside0.mk (Kd.S_below HM1.out hb); have HP0_ := Aside0.mk (Kd.R_below HP0.out hb); have HP1_ := Aside0.mk (Kd.S_below HP1.out hb); clear hb; clear HB BA0 BA1 BS BX2 BP HS0 HS1 HM0 HM1 HP0 HP1; have HB := HB_; have BA0 := BA0_; have BA1 := BA1_; have BS := BS_; have BX2 := BX2_; have BP := BP_; have HS0 := HS0_; have HS1 := HS1_; have HM0 := HM0_; have HM1 := HM1_; have HP0 := HP0_; have HP1 := HP1_; clear HB_ BA0_ BA1_ BS_ BX2_ BP_ HS0_ HS1_ HM0_ HM1_ HP0_ HP1_; clear hcBA00 hfBA00 hcBA01 hfBA01 hcBA10 hfBA10 hcBA11 hfBA11 hcBS0 hfBS0 hcBS1 hfBS1 hcBX20 hfBX20 hcBX21 hfBX21 hcBP0 hfBP0 hcBP1 hfBP1; have hcBA00 : w58.cell? ⟨ga0, 0, none⟩ = some (.slice A0_0 l0_0.length c0_0) := (blk_cell BA0.out 0).trans rfl; have hfBA00 := blk_frozen BA0.out 0; have hcBA01 : w58.cell? ⟨ga0, 1, none⟩ = some (.slice A0_1 l0_1.length c0_1) := (blk_cell BA0.out 1).trans rfl; have hfBA01 := blk_frozen BA0.out 1; have hcBA10 : w58.cell? ⟨ga1, 0, none⟩ = some (.int .i64 a1_0) := (blk_cell BA1.out 0).trans rfl; have hfBA10 := blk_frozen BA1.out 0; have hcBA11 : w58.cell? ⟨ga1, 1, none⟩ = some (.slice A1_1 l1_1.length c1_1) := (blk_cell BA1.out 1).trans rfl; have hfBA11 := blk_frozen BA1.out 1; have hcBS0 : w58.cell? ⟨gs, 0, none⟩ = some (.slice As0 s0.length cs0) := (blk_cell BS.out 0).trans rfl; have hfBS0 := blk_frozen BS.out 0; have hcBS1 : w58.cell? ⟨gs, 1, none⟩ = some (.slice As1 s1.length cs1) := (blk_cell BS.out 1).trans rfl; have hfBS1 := blk_frozen BS.out 1; have hcBX20 : w58.cell? ⟨gg, 0, none⟩ = some (.slice Agg0 lk0.length cgg0) := (blk_cell BX2.out 0).trans rfl; have hfBX20 := blk_frozen BX2.out 0; have hcBX21 : w58.cell? ⟨gg, 1, none⟩ = some (.slice Agg1 lk1.length cgg1) := (blk_cell BX2.out 1).trans rfl; have hfBX21 := blk_frozen BX2.out 1; have hcBP0 : w58.cell? ⟨gp, 0, none⟩ = some (.slice Ap0 g0.length cp0) := (blk_cell BP.out 0).trans rfl; have hfBP0 := blk_frozen BP.out 0; have hcBP1 : w58.cell? ⟨gp, 1, none⟩ = some (.slice Ap1 g1.length cp1) := (blk_cell BP.out 1).trans rfl; have hfBP1 := blk_frozen BP.out 1))
   go_wp2_with (first | (go_at_call 14; (with_reducible refine (laws_heldGround.calls k Agg0 cgg0 lk0 Agg1 cgg1 lk1 1 th _ (Kd.R_reads' HM0.out).2.2 (Kd.R_reads' HM0.out).2.1 (Kd.S_reads' HM1.out).2.2 (Kd.S_reads' HM1.out).2.1 BH.out).mono ?_); rintro e w59 ⟨rfl, hb⟩; have Z11 := Aside0.mk (hb.size); have HB_ := Aside0.mk (below_step HB.out hb); have BA0_ := Aside0.mk (blk_below (g := ga0) (o := .cells #[.slice A0_0 l0_0.length c0_0, .slice A0_1 l0_1.length c0_1] 25 (0, 0)) BA0.out hb); have BA1_ := Aside0.mk (blk_below (g := ga1) (o := .cells #[.int .i64 a1_0, .slice A1_1 l1_1.length c1_1] 27 (0, 0)) BA1.out hb); have BS_ := Aside0.mk (blk_below (g := gs) (o := .cells #[.slice As0 s0.length cs0, .slice As1 s1.length cs1] 32 (0, 0)) BS.out hb); have BX2_ := Aside0.mk (blk_below (g := gg) (o := .cells #[.slice Agg0 lk0.length cgg0, .slice Agg1 lk1.length cgg1] 32 (0, 0)) BX2.out hb); have BP_ := Aside0.mk (blk_below (g := gp) (o := .cells #[.slice Ap0 g0.length cp0, .slice Ap1 g1.length cp1] 32 (0, 0)) BP.out hb); have HS0_ := Aside0.mk (Kd.R_below HS0.out hb); have HS1_ := Aside0.mk (Kd.S_below HS1.out hb); have HM0_ := Aside0.mk (Kd.R_below HM0.out hb); have HM1_ := Aside0.mk (Kd.S_below HM1.out hb); have HP0_ := Aside0.mk (Kd.R_below HP0.out hb); have HP1_ := Aside0.mk (Kd.S_below HP1.out hb); clear hb; clear HB BA0 BA1 BS BX2 BP HS0 HS1 HM0 HM1 HP0 HP1; have HB := HB_; have BA0 := BA0_; have BA1 := BA1_; have BS := BS_; have BX2 := BX2_; have BP := BP_; have HS0 := HS0_; have HS1 := HS1_; have HM0 := HM0_; have HM1 := HM1_; have HP0 := HP0_; have HP1 := HP1_; clear HB_ BA0_ BA1_ BS_ BX2_ BP_ HS0_ HS1_ HM0_ HM1_ HP0_ HP1_; clear hcBA00 hfBA00 hcBA01 hfBA01 hcBA10 hfBA10 hcBA11 hfBA11 hcBS0 hfBS0 hcBS1 hfBS1 hcBX20 hfBX20 hcBX21 hfBX21 hcBP0 hfBP0 hcBP1 hfBP1; have hcBA00 : w59.cell? ⟨ga0, 0, none⟩ = some (.slice A0_0 l0_0.length c0_0) := (blk_cell BA0.out 0).trans rfl; have hfBA00 := blk_frozen BA0.out 0; have hcBA01 : w59.cell? ⟨ga0, 1, none⟩ = some (.slice A0_1 l0_1.length c0_1) := (blk_cell BA0.out 1).trans rfl; have hfBA01 := blk_frozen BA0.out 1; have hcBA10 : w59.cell? ⟨ga1, 0, none⟩ = some (.int .i64 a1_0) := (blk_cell BA1.out 0).trans rfl; have hfBA10 := blk_frozen BA1.out 0; have hcBA11 : w59.cell? ⟨ga1, 1, none⟩ = some (.slice A1_1 l1_1.length c1_1) := (blk_cell BA1.out 1).trans rfl; have hfBA11 := blk_frozen BA1.out 1; have hcBS0 : w59.cell? ⟨gs, 0, none⟩ = some (.slice As0 s0.length cs0) := (blk_cell BS.out 0).trans rfl; have hfBS0 := blk_frozen BS.out 0; have hcBS1 : w59.cell? ⟨gs, 1, none⟩ = some (.slice As1 s1.length cs1) := (blk_cell BS.out 1).trans rfl; have hfBS1 := blk_frozen BS.out 1; have hcBX20 : w59.cell? ⟨gg, 0, none⟩ = some (.slice Agg0 lk0.length cgg0) := (blk_cell BX2.out 0).trans rfl; have hfBX20 := blk_frozen BX2.out 0; have hcBX21 : w59.cell? ⟨gg, 1, none⟩ = some (.slice Agg1 lk1.length cgg1) := (blk_cell BX2.out 1).trans rfl; have hfBX21 := blk_frozen BX2.out 1; have hcBP0 : w59.cell? ⟨gp, 0, none⟩ = some (.slice Ap0 g0.length cp0) := (blk_cell BP.out 0).trans rfl; have hfBP0 := blk_frozen BP.out 0; have hcBP1 : w59.cell? ⟨gp, 1, none⟩ = some (.slice Ap1 g1.length cp1) := (blk_cell BP.out 1).trans rfl; have hfBP1 := blk_frozen BP.out 1))
   go_ret
   exact ⟨by first | rfl | (simp; done) | (simp [*]; done) | (simp [tz_, *]; done), by repeat (first | (with_reducible first | exact HB.out | apply below_alloc | apply pw_below_drewN | apply below_drew1) | exact HB.out)⟩

def W27 (x : S27) : Prop := (Lit.int .i64 x.f0).wf = true ∧ Opn.WfL (fun a_ => (Lit.int .i64 a_).wf = true) x.f1
theorem cut27 {α : Type} (cs : List α) (h : cs.length = 2) : cs = (cs.drop 0).take 1 ++ ((cs.drop 1).take 1) := by
 match cs, h with
 | [c0, c1], _ => rfl
theorem open27 : Opn.Opens Try.prog 27 k27 W27 := by
 intro H enc w base sp held fuel cs x h
 obtain ⟨xs, n, rfl, _, hl, hlen, hf⟩ := DataW.trod_struct Try.underlying27 h
 obtain ⟨y0, h0⟩ := Opn.field_at hlen hf 0 2 0 1 ⟨_, rfl, rfl, rfl⟩ (by kernel_rfl)
 obtain ⟨y1, h1⟩ := Opn.field_at hlen hf 1 22 1 1 ⟨_, rfl, rfl, rfl⟩ (by kernel_rfl)
 have hm : cs.length = 2 := hl.trans (by kernel_rfl)
 obtain ⟨a0, K0, w0⟩ := (Opn.opens_int Try.underlying2) h0
 obtain ⟨a1, K1, w1⟩ := (Opn.opens_slice (0 : Int) Try.underlying22 (by kernel_rfl) (Opn.opens_int Try.underlying2)) h1
 have hcs := cut27 cs hm
 exact ⟨⟨a0, a1⟩, ⟨_, _, hcs, K0, K1⟩, ⟨w0, w1⟩⟩
def W25 (x : S25) : Prop := Opn.WfL (fun a_ => (Lit.int .i64 a_).wf = true) x.f0 ∧ Opn.WfL W27 x.f1
theorem cut25 {α : Type} (cs : List α) (h : cs.length = 2) : cs = (cs.drop 0).take 1 ++ ((cs.drop 1).take 1) := by
 match cs, h with
 | [c0, c1], _ => rfl
theorem open25 : Opn.Opens Try.prog 25 k25 W25 := by
 intro H enc w base sp held fuel cs x h
 obtain ⟨xs, n, rfl, _, hl, hlen, hf⟩ := DataW.trod_struct Try.underlying25 h
 obtain ⟨y0, h0⟩ := Opn.field_at hlen hf 0 22 0 1 ⟨_, rfl, rfl, rfl⟩ (by kernel_rfl)
 obtain ⟨y1, h1⟩ := Opn.field_at hlen hf 1 23 1 1 ⟨_, rfl, rfl, rfl⟩ (by kernel_rfl)
 have hm : cs.length = 2 := hl.trans (by kernel_rfl)
 obtain ⟨a0, K0, w0⟩ := (Opn.opens_slice (0 : Int) Try.underlying22 (by kernel_rfl) (Opn.opens_int Try.underlying2)) h0
 obtain ⟨a1, K1, w1⟩ := (Opn.opens_slice z27 Try.underlying23 (by kernel_rfl) open27) h1
 have hcs := cut25 cs hm
 exact ⟨⟨a0, a1⟩, ⟨_, _, hcs, K0, K1⟩, ⟨w0, w1⟩⟩
def laws_FnExactAddHole.Pure : Prop := ∀ (l0_0 : List Int) (l0_1 : List (S27)) (a1_0 : Int) (l1_1 : List Int), Opn.WfL (fun a_ => (Lit.int .i64 a_).wf = true) l0_0 → Opn.WfL W27 l0_1 → (Lit.int .i64 a1_0).wf = true → Opn.WfL (fun a_ => (Lit.int .i64 a_).wf = true) l1_1 → ∃ k, laws_FnExactAddHole.f k l0_0 l0_1 a1_0 l1_1 = some true
theorem laws_FnExactAddHole.walk (P : laws_FnExactAddHole.Pure) (A0_0 : Option Addr) (c0_0 : Nat) (l0_0 : List Int) (A0_1 : Option Addr) (c0_1 : Nat) (l0_1 : List (S27)) (a1_0 : Int) (A1_1 : Option Addr) (c1_1 : Nat) (l1_1 : List Int) (w : World) (hr0_0 : Kd.C (Kd.int .i64) w A0_0 l0_0.length l0_0) (hc0_0 : l0_0.length ≤ c0_0) (hr0_1 : Kd.C k27 w A0_1 l0_1.length l0_1) (hc0_1 : l0_1.length ≤ c0_1) (hr1_1 : Kd.C (Kd.int .i64) w A1_1 l1_1.length l1_1) (hc1_1 : l1_1.length ≤ c1_1) (w0_0 : Opn.WfL (fun a_ => (Lit.int .i64 a_).wf = true) l0_0) (w0_1 : Opn.WfL W27 l0_1) (w1_0 : (Lit.int .i64 a1_0).wf = true) (w1_1 : Opn.WfL (fun a_ => (Lit.int .i64 a_).wf = true) l1_1) :
  Calls Try.prog 3 #[.agg #[.slice A0_0 l0_0.length c0_0, .slice A0_1 l0_1.length c0_1], .agg #[.int .i64 a1_0, .slice A1_1 l1_1.length c1_1]] w fun e w' => e = .returned (.bool true) ∧ Below w.heap.size w w' := by
 obtain ⟨k, h⟩ := P l0_0 l0_1 a1_0 l1_1 w0_0 w0_1 w1_0 w1_1
 refine (laws_FnExactAddHole.calls k A0_0 c0_0 l0_0 A0_1 c0_1 l0_1 a1_0 A1_1 c1_1 l1_1 true w hr0_0 hc0_0 hr0_1 hc0_1 hr1_1 hc1_1 h).mono ?_
 rintro e w' ⟨rfl, hd⟩
 exact ⟨rfl, hd⟩

end Go.Proofs.Ytcfkpljmihijiaa.P



