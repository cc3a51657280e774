import Derived.Test.YtcfkpljmihijiaaPx0
import Derived.Test.YtcfkpljmihijiaaPx6
import Derived.Test.YtcfkpljmihijiaaPx7
namespace Go.Proofs.Ytcfkpljmihijiaa.P
open Go.RowKit Go.Proofs.YtcfkpljmihijiaaW.PrintWords Go.Proofs.YtcfkpljmihijiaaW.PrintLast Go.Proofs.YtcfkpljmihijiaaW.PrintMore
attribute [local go_sem] max2_int min2_int max_two min_two max_three min_three max_four min_four   -- for this text's walks alone
set_option linter.unusedVariables false
set_option linter.unusedSimpArgs false

theorem ins_get {α : Type} (l : List α) (i : Nat) (x : α) (hi : i ≤ l.length) (j : Nat) : (l.take i ++ x :: l.drop i)[j]? = if j < i then l[j]? else if j = i then some x else l[j - 1]? := by
 rw [List.getElem?_append, List.length_take, Nat.min_eq_left hi]
 by_cases c : j < i
 ·rw [if_pos c, if_pos c, List.getElem?_take, if_pos c]
 ·rw [if_neg c, if_neg c]
  by_cases d : j = i
  ·rw [if_pos d, d, Nat.sub_self]
   rfl
  ·rw [if_neg d]
   obtain ⟨m, hm⟩ : ∃ m, j - i = m + 1 := ⟨j - i - 1, by omega⟩
   rw [hm, List.getElem?_cons_succ, List.getElem?_drop]
   congr 1
   omega
theorem reps_ins {α : Type} {R : α → List Value → Prop} {xs : List α} {inner cc : List Value} {c : α} (h : Reps R 2 xs inner) (hc : R c cc) (hl : cc.length = 2) (i : Nat) (hi : i ≤ xs.length) : Reps R 2 (xs.take i ++ c :: xs.drop i) (inner.take (i * 2) ++ (cc ++ inner.drop (i * 2))) := by
 obtain ⟨h1, h2⟩ := h
 have hle : i * 2 ≤ inner.length := by omega
 refine ⟨by simp only [List.length_append, List.length_take, List.length_drop, List.length_cons]; omega, fun j p hj => ?_⟩
 rw [ins_get xs i c hi j] at hj
 by_cases c1 : j < i
 ·rw [if_pos c1] at hj
  have := h2 j p hj
  have e : ((inner.take (i * 2) ++ (cc ++ inner.drop (i * 2))).drop (j * 2)).take 2 = (inner.drop (j * 2)).take 2 := by
   apply List.ext_getElem?
   intro k
   simp only [List.getElem?_take, List.getElem?_drop, List.getElem?_append, List.length_take]
   by_cases k2 : k < 2
   ·rw [if_pos k2, if_pos k2, if_pos (by omega), if_pos (by omega)]
   ·rw [if_neg k2, if_neg k2]
  rw [e]
  exact this
 ·rw [if_neg c1] at hj
  by_cases c2 : j = i
  ·rw [if_pos c2] at hj
   have hp := Option.some.inj hj
   subst hp c2
   have e : ((inner.take (j * 2) ++ (cc ++ inner.drop (j * 2))).drop (j * 2)).take 2 = cc := by
    rw [List.drop_append_of_le_length (by rw [List.length_take]; omega), List.drop_of_length_le (by rw [List.length_take]; omega), List.nil_append, ← hl, List.take_left']
    rfl
   rw [e]
   exact hc
  ·rw [if_neg c2] at hj
   have := h2 (j - 1) p hj
   have e : ((inner.take (i * 2) ++ (cc ++ inner.drop (i * 2))).drop (j * 2)).take 2 = (inner.drop ((j - 1) * 2)).take 2 := by
    apply List.ext_getElem?
    intro k
    simp only [List.getElem?_take, List.getElem?_drop, List.getElem?_append, List.length_take, hl]
    by_cases k2 : k < 2
    ·rw [if_pos k2, if_pos k2, if_neg (by omega), if_neg (by omega)]
     congr 1
     omega
    ·rw [if_neg k2, if_neg k2]
   rw [e]
   exact this
theorem room_list (L inner c : List Value) (i n : Nat) (hL : L.take (n * 2) = inner) (hlen : (n + 1) * 2 ≤ L.length) (hc : c.length = 2) (hi : i ≤ n) :
  (((L.take ((i + 1) * 2) ++ inner.drop (i * 2) ++ L.drop ((i + 1) * 2 + (inner.drop (i * 2)).length)).take (i * 2) ++ c ++ (L.take ((i + 1) * 2) ++ inner.drop (i * 2) ++ L.drop ((i + 1) * 2 + (inner.drop (i * 2)).length)).drop (i * 2 + c.length)).take ((n + 1) * 2)) = inner.take (i * 2) ++ (c ++ inner.drop (i * 2)) := by
 have hil : inner.length = n * 2 := by rw [← hL, List.length_take]; omega
 have hLa : L.take (i * 2) = inner.take (i * 2) := by rw [← hL, List.take_take, Nat.min_eq_left (by omega)]
 have ha : (inner.take (i * 2)).length = i * 2 := by rw [List.length_take]; omega
 have hb : (inner.drop (i * 2)).length = n * 2 - i * 2 := by rw [List.length_drop]; omega
 have ht : ((L.drop (i * 2)).take 2).length = 2 := by rw [List.length_take, List.length_drop]; omega
 rw [show (i + 1) * 2 = i * 2 + 2 by omega, List.take_add, hLa]
 generalize inner.take (i * 2) = a at *
 generalize inner.drop (i * 2) = b at *
 generalize (L.drop (i * 2)).take 2 = t at *
 generalize L.drop (i * 2 + 2 + b.length) = z
 have e1 : (a ++ t ++ b ++ z).take (i * 2) = a := by rw [List.append_assoc, List.append_assoc]; exact List.take_left' ha
 have e2 : (a ++ t ++ b ++ z).drop (i * 2 + c.length) = b ++ z := by
  rw [show a ++ t ++ b ++ z = (a ++ t) ++ (b ++ z) by simp]
  exact List.drop_left' (by rw [List.length_append]; omega)
 rw [e1, e2, show a ++ c ++ (b ++ z) = (a ++ (c ++ b)) ++ z by simp]
 exact List.take_left' (by rw [List.length_append, List.length_append]; omega)
theorem grow_list (L inner c : List Value) (i n : Nat) (hL : L.take (i * 2) = inner.take (i * 2)) (hin : inner.length = n * 2) (hlen : (n + 1) * 2 ≤ L.length) (hc : c.length = 2) (hi : i ≤ n) :
  (((L.take (i * 2) ++ c ++ L.drop (i * 2 + c.length)).take ((i + 1) * 2) ++ inner.drop (i * 2) ++ (L.take (i * 2) ++ c ++ L.drop (i * 2 + c.length)).drop ((i + 1) * 2 + (inner.drop (i * 2)).length)).take ((n + 1) * 2)) = inner.take (i * 2) ++ (c ++ inner.drop (i * 2)) := by
 have ha : (inner.take (i * 2)).length = i * 2 := by rw [List.length_take]; omega
 have hb : (inner.drop (i * 2)).length = n * 2 - i * 2 := by rw [List.length_drop]; omega
 rw [hL]
 generalize inner.take (i * 2) = a at *
 generalize inner.drop (i * 2) = b at *
 generalize L.drop (i * 2 + c.length) = z
 have e1 : (a ++ c ++ z).take ((i + 1) * 2) = a ++ c := List.take_left' (by rw [List.length_append]; omega)
 rw [e1]
 generalize (a ++ c ++ z).drop ((i + 1) * 2 + b.length) = y
 rw [show a ++ c ++ b ++ y = (a ++ (c ++ b)) ++ y by simp]
 exact List.take_left' (by rw [List.length_append, List.length_append]; omega)
theorem run_copy_row_sz (w : World) (dT sT ty elem : TypeId) (g o dLen dCap : Nat) (a : Addr) (sLen sCap : Nat) (cur : Array Value) (t : TypeId) (cs : List Value) (sz : Nat)
  (hu : Try.prog.underlying dT = some (.slice elem)) (hs : (Try.prog.info? elem).map (·.size) = some sz)
  (hg : w.heap[g]? = some (.cells cur t (0, 0))) (hn : cs.length = Nat.min sLen dLen * sz)
  (hsrc : ∀ j v, cs[j]? = some v → w.cell? (a.add j) = some v) (hfit : o + cs.length ≤ cur.size) (h1 : ∀ v ∈ cs, v.oneCell' = true) :
  (Builtin.copy_ #[dT, sT] ty #[.slice (some ⟨g, o, none⟩) dLen dCap, .slice (some a) sLen sCap]).run Try.prog w =
   .ok (goInt (Nat.min sLen dLen)) (w.setRow g (cur.toList.take o ++ cs ++ cur.toList.drop (o + cs.length)).toArray) := by
 have hl := run_loadCells_list (P := Try.prog) w a cs hsrc
 have hst := run_storeCells_at Try.prog g o t cs 0 cur w hg (by simpa using hfit) h1
 cases hq : Try.prog.info? elem with
 | none => simp [hq] at hs
 | some i =>
  have hi : i.size = sz := by simpa [hq] using hs
  simp [Builtin.copy_, run_underlying hu, Builtin.lenOf, Builtin.firstCells, sizeOf, typeInfo, hq, hi, ← hn, hl, hst]
theorem raw_of {w : World} {A : Option Addr} {l : List S36} (h : Kd.C k36 w A l.length l) : ∃ xs : List (List Value), xs.length = l.length ∧ Kd.C (Kd.raw 2) w A xs.length xs ∧ ∀ (j : Nat) (x : S36) (c : List Value), l[j]? = some x → xs[j]? = some c → k36.K w x c := by
 by_cases hp : 0 < l.length
 ·obtain ⟨ad, e, hc⟩ := h.2.2 hp
  have key : ∀ j (hj : j < l.length), ∃ c : List Value, c.length = 2 ∧ k36.K w l[j] c ∧ ∀ i u, c[i]? = some u → w.cell? (ad.add (j * 2 + i)) = some u := fun j hj => by
   obtain ⟨c, h1, h2, h3⟩ := hc j l[j] (List.getElem?_eq_getElem hj)
   exact ⟨c, h1, h2, h3⟩
  obtain ⟨f, hf⟩ : ∃ f : Nat → List Value, ∀ j (hj : j < l.length), (f j).length = 2 ∧ k36.K w l[j] (f j) ∧ ∀ i u, (f j)[i]? = some u → w.cell? (ad.add (j * 2 + i)) = some u := by
   refine ⟨fun j => [(w.cell? (ad.add (j * 2 + 0))).getD (.int .i64 0), (w.cell? (ad.add (j * 2 + 1))).getD (.int .i64 0)], fun j hj => ?_⟩
   obtain ⟨c, h1, h2, h3⟩ := key j hj
   match c, h1 with
   | [u0, u1], _ =>
    have q0 := h3 0 u0 rfl
    have q1 := h3 1 u1 rfl
    dsimp only
    rw [q0, q1]
    exact ⟨rfl, h2, h3⟩
  have hget : ∀ j c, ((List.range l.length).map f)[j]? = some c → ∃ hj : j < l.length, c = f j := fun j c hj => by
   rw [List.getElem?_map] at hj
   obtain ⟨q, hq, rfl⟩ := Option.map_eq_some_iff.mp hj
   obtain ⟨hlt, he⟩ := List.getElem?_eq_some_iff.mp hq
   rw [List.length_range] at hlt
   rw [List.getElem_range] at he
   exact ⟨hlt, by rw [he]⟩
  refine ⟨(List.range l.length).map f, by simp, ⟨rfl, by simpa using h.2.1, fun _ => ⟨ad, e, fun j p hj => ?_⟩⟩, fun j x c hx hcj => ?_⟩
  ·obtain ⟨hlt, rfl⟩ := hget j p hj
   obtain ⟨h1, h2, h3⟩ := hf j hlt
   exact ⟨f j, h1, ⟨rfl, h1, fun u hu => k36.K_one h2 u hu⟩, h3⟩
  ·obtain ⟨hlt, rfl⟩ := hget j c hcj
   obtain ⟨hl2, he⟩ := List.getElem?_eq_some_iff.mp hx
   rw [← he]
   exact (hf j hlt).2.1
 ·have e : l = [] := List.eq_nil_of_length_eq_zero (by omega)
  subst e
  exact ⟨[], rfl, ⟨rfl, by simp, fun h0 => absurd h0 (by simp)⟩, fun j x c hx => by simp at hx⟩
theorem raw_back {w : World} {A : Option Addr} {n : Nat} {xs : List (List Value)} {l : List S36} (h : Kd.C (Kd.raw 2) w A n xs) (hl : l.length = xs.length) (hk : ∀ (j : Nat) (x : S36) (c : List Value), l[j]? = some x → xs[j]? = some c → k36.K w x c) : Kd.C k36 w A n l :=
 ⟨hl.trans h.1, h.2.1, fun h0 => by
  obtain ⟨ad, e, hc⟩ := h.2.2 h0
  refine ⟨ad, e, fun j p hj => ?_⟩
  have hlt : j < xs.length := by rw [← hl]; exact (List.getElem?_eq_some_iff.mp hj).1
  obtain ⟨c, h1, h2, h3⟩ := hc j xs[j] (List.getElem?_eq_getElem hlt)
  have h2' : c = xs[j] := h2.1
  exact ⟨c, h1, by rw [h2']; exact hk j p xs[j] hj (List.getElem?_eq_getElem hlt), h3⟩⟩
theorem slices_Clone_Hole.eql (a : Option Addr) (l c : Nat) (w : World) : (binOp .eql 30 (.slice a l c) (.slice none 0 0)).run Try.prog w = .ok (.bool a.isNone) w := by
 cases a <;> kernel_rfl
set_option maxHeartbeats 4000000 in
set_option maxRecDepth 100000 in
theorem slices_Clone_Hole.calls (ad : Addr) (c0 : Nat) (l0 : List (List Value)) (w : World) (hr0 : Kd.C (Kd.raw 2) w (some ad) l0.length l0) (hc0 : l0.length ≤ c0) (h1 : 1 ≤ l0.length) (h2 : l0.length ≤ 1000) :
  Calls Try.prog 27 #[.slice (some ad) l0.length c0] w fun e w' => ∃ v0_ : Value, e = .returned (v0_) ∧ Kd.R (Kd.raw 2) 36 w' w.heap.size (fun _ => True) v0_ l0 ∧ Below w.heap.size w w' := by
 have heq := slices_Clone_Hole.eql
 have HB := Aside0.mk (Below.refl w.heap.size w)
 have HR0 := Aside0.mk hr0
 have HC0 := Aside0.mk hc0
 have HL := Aside0.mk h2
 clear hr0 hc0 h2 h1
 go_enter Try.func27, Try.ntmps27
 go_wp2_with (first | ((with_reducible refine gate_dst (N := 5) rfl ?_); refine Kd.R_lit (Kd.raw 2) _ 36 ?hg (N := 5) ?hd (xs := ([] : List (List Value))) (inner := []) (ok := fun _ => True) (okp := fun _ => True) ?hr ?hp (fun _ hk => hk) trivial (Below.refl _ _) (Nat.le_refl _) (by simp) ?_; (case hd => rfl); (case hg => rfl); (case hr => first | (go_simp; done) | (go_simp; rfl)); (case hp => exact (Reps.none _ _)); intro v125 w3 ho4 hb hg_ hnew_; clear hg_ hnew_; have n0_ := Aside0.mk (Kd.R_lower ho4 (below_size HB.out)); have n1_ := Aside0.mk (below_step HB.out hb); clear HB; have HO126 := n0_; have HB := n1_; clear n0_ n1_; clear hb ho4) | ((with_reducible refine gate_builtin (b := .append) (xs := #[.tmp 5, .tmp 6]) rfl ?_); at_builtin; refine Kd.R_append_rows (Kd.raw 2) (w0 := w) w.heap.size rfl (.tmp 5) (.tmp 6) 30 36 (.agg #[(.int .i64 0), (.slice none 0 0)]) 32 rfl Try.underlying30 info36 rfl (by decide) (by omega) v125 [] l0 _ _ _ (fun _ => True) (fun _ => False) rfl rfl ?aO ?aR (fun _ _ h => h) (fun _ h => h.elim) ?aF ?aB ?aS ?aL ?_; (case aR => exact (Kd.C_below HR0.out HB.out)); (case aB => exact HB.out); (case aF => exact (fun _ _ => trivial)); (case aO => exact HO126.out); (case aS => exact (below_size HB.out)); (case aL => have h1_ := HL.out; simp; omega); intro v128 w5 ho hb hg hat; have n0_ := Aside0.mk (hb); have n1_ := Aside0.mk (ho); clear HB; clear HO126; have HB := n0_; have HO129 := n1_; clear n0_ n1_; clear ho hb hg hat))
 go_ret
 exact ⟨_, by first | rfl | (simp; done) | (simp [*]; done) | (simp [tz_, *]; done), by have h3_ := HO129.out; rw [List.nil_append] at h3_; exact h3_, by repeat (first | (with_reducible first | exact HB.out | apply below_alloc | apply pw_below_drewN | apply below_drew1) | exact HB.out)⟩

def holeAt (a : Int) : List S36 → Int → Int
 | [], _ => -1
 | h :: l, i => if h.f0 ≥ a then i else holeAt a l (i + 1)
theorem impl_AddHole_1.clo (b : Nat) (x : Int) (A1 : Option Addr) (n1 c1 : Nat) (a : Int) (vt : Value) (w : World) (hb1 : w.heap[b]? = some (.cells #[.int .i64 a, vt] 36 (0, 0))) :
  Calls Try.prog 24 #[.agg #[.int .i64 x, .slice A1 n1 c1], .pointer (some ⟨b, 0, none⟩)] w fun e w' => e = .returned (.bool (decide (a ≤ x))) ∧ Below w.heap.size w w' := by
 have hu := Try.underlying36
 have HK := Aside0.mk hb1
 clear hb1
 go_enter Try.func24, Try.ntmps24
 go_wp2_with (first | ((with_reducible refine gate_dst (N := 2) rfl ?_); refine box_event ?hg (N := 2) ?hd (cs := #[.int .i64 x, .slice A1 n1 c1]) (t := 36) ?hr ?_; (case hd => rfl); (case hg => rfl); (case hr => first | (go_simp; done) | (go_simp; rfl)); intro gb hg w3 hbox hb; have HB := Aside0.mk hb; have BX := Aside0.mk hbox; have BY := Aside0.mk (blk_below (g := b) (o := .cells #[.int .i64 a, vt] 36 (0, 0)) HK.out hb); clear hg hb hbox; have hc0 : w3.cell? ⟨gb, 0, none⟩ = some (.int .i64 x) := (blk_cell BX.out 0).trans rfl; have hc1 : w3.cell? ⟨b, 0, none⟩ = some (.int .i64 a) := (blk_cell BY.out 0).trans rfl; have hf0 := blk_frozen BX.out 0; have hf1 := blk_frozen BY.out 0))
 go_ret
 exact ⟨by first | rfl | (simp [*]; done), by repeat (first | (with_reducible first | exact HB.out | apply below_alloc | apply pw_below_drewN | apply below_drew1) | exact HB.out)⟩
set_option maxHeartbeats 1000000 in
set_option maxRecDepth 100000 in
theorem impl_AddHole_1.calls (A0 : Option Addr) (c0 : Nat) (l0 : List S36) (b : Nat) (a : Int) (vt : Value) (r : Int) (w : World) (hr0 : Kd.C k36 w A0 l0.length l0) (hc0 : l0.length ≤ c0) (hb1 : w.heap[b]? = some (.cells #[.int .i64 a, vt] 36 (0, 0))) (h : holeAt a l0 0 = r) :
  Calls Try.prog 23 #[.slice A0 l0.length c0, .func (.func 24) #[] #[.pointer (some ⟨b, 0, none⟩)]] w fun e w' => e = .returned (.int .i64 r) ∧ Below w.heap.size w w' := by
 have HR0 := Aside0.mk hr0
 have HC0 := Aside0.mk hc0
 have HK := Aside0.mk hb1
 have HH : Aside0 (holeAt a l0 0 = r) := ⟨h⟩
 have HL : Aside0 (l0.length ≤ 9223372036854775807) := ⟨by have := hr0.2.1; unfold maxLen at this; omega⟩
 clear hr0 hc0 hb1 h
 have hlen : l0.length ≤ 9223372036854775807 := HL.out
 have hua := Try.underlying36
 go_enter Try.func23, Try.ntmps23
 go_wp2
 go_loopg [8] l0.length (fun kq v8 w' => ∃ x : Int, v8 = .int .i64 x ∧ Aside0 (0 ≤ x ∧ x ≤ l0.length) ∧ Aside0 (holeAt a (l0.drop x.toNat) x = r) ∧ Aside0 (x.toNat + kq = l0.length) ∧ Aside0 (Below w.heap.size w w'))
 case atStart => exact ⟨0, (by first | rfl | (simp; done)), ⟨by omega⟩, ⟨by simpa using HH.out⟩, ⟨by simp⟩, ⟨by repeat (first | exact Below.refl _ _ | apply below_alloc | apply pw_below_drewN | apply below_drew1)⟩⟩
 case round =>
  obtain ⟨x, rfl, HX, HA, HKK, HB⟩ := hrel
  by_cases c1 : x < (l0.length : Int)
  ·have c1b0 : decide (x < (l0.length : Int)) = true := decide_eq_true c1
   have p1 : 0 ≤ x := HX.out.1
   have hlt : x.toNat < l0.length := by have := HX.out; omega
   have hd : l0.drop x.toNat = rd_T36 l0 x :: l0.drop (x.toNat + 1) := by
    rw [List.drop_eq_getElem_cons hlt]
    unfold rd_T36
    rw [List.getD_eq_getElem?_getD, List.getElem?_eq_getElem hlt]
    rfl
   have HD := Aside0.mk hd
   clear hd
   obtain ⟨ad, A1, cc1, e, hx0, hx1, hl1, hi1⟩ := at_T36 HR0.out x p1 c1
   cases e
   replace hx0 := (HB.out.cell (World.block_lt_of_cell? w _ hx0)).trans hx0
   replace hx1 := (HB.out.cell (World.block_lt_of_cell? w _ hx1)).trans hx1
   clear hl1 hi1
   have p2 : decide (0 ≤ x) = true := decide_eq_true p1
   obtain ⟨t, ht⟩ : ∃ t, decide (a ≤ (rd_T36 l0 x).f0) = t := ⟨_, rfl⟩
   have HT := Aside0.mk ht
   have HC := Aside0.mk (fun W h => ht ▸ impl_AddHole_1.clo b (rd_T36 l0 x).f0 A1 (rd_T36 l0 x).f1.length cc1 a vt W h)
   clear ht
   have hx3 : x + 1 ≤ l0.length := by omega
   cases t with
   | true =>
    go_wp2_with (first | (go_at_call 24; (with_reducible refine (HC.out _ ?side1).mono ?_); (case side1 => exact blk_below (g := b) HK.out (by repeat (first | (with_reducible first | exact HB.out | apply below_alloc | apply pw_below_drewN | apply below_drew1) | exact HB.out))); rintro e w2 ⟨rfl, hb⟩; have HB2 := Aside0.mk (below_step (by repeat (first | (with_reducible first | exact HB.out | apply below_alloc | apply pw_below_drewN | apply below_drew1) | exact HB.out)) hb); clear hb))
    go_ret
    refine ⟨?_, by repeat (first | (with_reducible first | exact HB2.out | apply below_alloc | apply pw_below_drewN | apply below_drew1) | exact HB2.out)⟩
    have h1 := HA.out
    rw [HD.out] at h1
    simp only [holeAt] at h1
    rw [if_pos (of_decide_eq_true HT.out)] at h1
    rw [h1]
    rfl
   | false =>
    go_wp2_with (first | (go_at_call 24; (with_reducible refine (HC.out _ ?side1).mono ?_); (case side1 => exact blk_below (g := b) HK.out (by repeat (first | (with_reducible first | exact HB.out | apply below_alloc | apply pw_below_drewN | apply below_drew1) | exact HB.out))); rintro e w2 ⟨rfl, hb⟩; have HB2 := Aside0.mk (below_step (by repeat (first | (with_reducible first | exact HB.out | apply below_alloc | apply pw_below_drewN | apply below_drew1) | exact HB.out)) hb); clear hb))
    cases gk with
    | zero => exact absurd HKK.out (by have := HX.out; omega)
    | succ k1 =>
    go_roundg k1
    case measure => omega
    case rel =>
     refine ⟨x + 1, by first | rfl | (simp; done), ⟨by omega⟩, ⟨?_⟩, ⟨by have := HKK.out; omega⟩, ⟨by repeat (first | (with_reducible first | exact HB2.out | apply below_alloc | apply pw_below_drewN | apply below_drew1) | exact HB2.out)⟩⟩
     have h1 := HA.out
     rw [HD.out] at h1
     simp only [holeAt] at h1
     rw [if_neg (of_decide_eq_false HT.out)] at h1
     have e1 : (x + 1).toNat = x.toNat + 1 := by omega
     rw [e1]
     exact h1
  ·have c1b0 : decide (x < (l0.length : Int)) = false := decide_eq_false c1
   go_wp2
   go_ret
   refine ⟨?_, by repeat (first | (with_reducible first | exact HB.out | apply below_alloc | apply pw_below_drewN | apply below_drew1) | exact HB.out)⟩
   have h1 := HA.out
   rw [List.drop_of_length_le (by have := HX.out; omega)] at h1
   simp only [holeAt] at h1
   rw [h1]
   rfl
section
variable {ops : Array Oper} {rest : List Oper} {o : Oper} {a : Act} {Q : Exit → Act → World → Prop} {Kc : Act → World → Prop}
theorem grown_row (w : World) (g : Nat) (cs : Array Value) : w.grownBy (w.setRow g cs) (some g) := ⟨rfl, rfl, rfl, by simp [World.setRow], fun k _ hne => setRow_other w g k cs (fun e => hne (by rw [e]))⟩
theorem grown_drew (w : World) (r : Option Nat) : w.grownBy w.drew r := ⟨rfl, rfl, rfl, Nat.le_refl _, fun _ _ _ => rfl⟩
theorem copy_run {W : World} (d s : Operand) (ho : o.op = .call { callee := .builtin .copy, args := #[d, s], argTypes := #[30, 30] })
  (g off dLen dCap : Nat) (ad : Addr) (sLen sCap : Nat) (hd : a.eval d = .slice (some ⟨g, off, none⟩) dLen dCap) (hs : a.eval s = .slice (some ad) sLen sCap)
  (cur cs : List Value) (m : Nat) (hg : W.heap[g]? = some (.cells cur.toArray 36 (0, 0))) (hm : cs.length = m * 2) (hmin : Nat.min sLen dLen = m)
  (hsrc : ∀ j v, cs[j]? = some v → W.cell? (ad.add j) = some v) (hfit : off + cs.length ≤ cur.length) (h1 : ∀ v ∈ cs, v.oneCell' = true) :
  ∃ w1, (execOp a.eval o).run Try.prog W = .ok (.value (goInt m)) w1 ∧ w1.heap[g]? = some (.cells (cur.take off ++ cs ++ cur.drop (off + cs.length)).toArray 36 (0, 0)) ∧ W.grownBy w1 (some g) := by
 have hsz : (Try.prog.info? 36).map (·.size) = some 2 := by
  obtain ⟨i0, hi, _, h2, _⟩ := info_parts info36
  rw [hi]
  simp [h2]
 have hr := run_copy_row_sz W 30 30 o.type 36 g off dLen dCap ad sLen sCap cur.toArray 36 cs 2 (by kernel_rfl) hsz hg (by rw [hmin]; exact hm) hsrc (by simpa using hfit) h1
 rw [hmin] at hr
 refine ⟨_, ?_, setRow_heap W g _ _ _ _ hg, grown_row W g _⟩
 simp [execOp, ho, resolve, invoke, builtin, hd, hs, hr]
theorem copy_event {W : World} (hgd : o.guard = none) (d s : Operand) (ho : o.op = .call { callee := .builtin .copy, args := #[d, s], argTypes := #[30, 30] })
  (g off dLen dCap : Nat) (ad : Addr) (sLen sCap : Nat) (hd : a.eval d = .slice (some ⟨g, off, none⟩) dLen dCap) (hs : a.eval s = .slice (some ad) sLen sCap)
  (cur cs : List Value) (m : Nat) (hg : W.heap[g]? = some (.cells cur.toArray 36 (0, 0))) (hm : cs.length = m * 2) (hmin : Nat.min sLen dLen = m)
  (hsrc : ∀ j v, cs[j]? = some v → W.cell? (ad.add j) = some v) (hfit : off + cs.length ≤ cur.length) (h1 : ∀ v ∈ cs, v.oneCell' = true)
  (h : ∀ w1, w1.heap[g]? = some (.cells (cur.take off ++ cs ++ cur.drop (off + cs.length)).toArray 36 (0, 0)) → W.grownBy w1 (some g) → wpList Try.prog ops Q rest (a.put o.dst (goInt m)) w1) :
  wpList Try.prog ops Q (o :: rest) a W := by
 obtain ⟨w1, h2, h3, h4⟩ := copy_run d s ho g off dLen dCap ad sLen sCap hd hs cur cs m hg hm hmin hsrc hfit h1
 exact Kd.event_run hgd h2 (h w1 h3 h4)
theorem copy_step {W : World} {E : Prop} (hgd : o.guard = none) (d s : Operand) (ho : o.op = .call { callee := .builtin .copy, args := #[d, s], argTypes := #[30, 30] })
  (g off dLen dCap : Nat) (ad : Addr) (sLen sCap : Nat) (hd : a.eval d = .slice (some ⟨g, off, none⟩) dLen dCap) (hs : a.eval s = .slice (some ad) sLen sCap)
  (cur cs : List Value) (m : Nat) (hg : W.heap[g]? = some (.cells cur.toArray 36 (0, 0))) (hm : cs.length = m * 2) (hmin : Nat.min sLen dLen = m)
  (hsrc : ∀ j v, cs[j]? = some v → W.cell? (ad.add j) = some v) (hfit : off + cs.length ≤ cur.length) (h1 : ∀ v ∈ cs, v.oneCell' = true)
  (h : ∀ w1, w1.heap[g]? = some (.cells (cur.take off ++ cs ++ cur.drop (off + cs.length)).toArray 36 (0, 0)) → W.grownBy w1 (some g) → Kc (a.put o.dst (goInt m)) w1) :
  if Region.wanted o (yielded ops a.tmps) = true then Oper.wp Try.prog o a W Kc Q else E := by
 have hw : Region.wanted o (yielded ops a.tmps) = true := by simp [Region.wanted, hgd]
 obtain ⟨w1, h2, h3, h4⟩ := copy_run d s ho g off dLen dCap ad sLen sCap hd hs cur cs m hg hm hmin hsrc hfit h1
 rw [if_pos hw]
 unfold Oper.wp
 rw [h2]
 exact h w1 h3 h4
end
theorem blk_cells {w : World} {g t : Nat} {L : List Value} (h : w.heap[g]? = some (.cells L.toArray t (0, 0))) (off : Nat) (cs : List Value) (hc : ∀ j v, cs[j]? = some v → L[off + j]? = some v) : ∀ j v, cs[j]? = some v → w.cell? ((⟨g, off, none⟩ : Addr).add j) = some v := fun j v hj => by
 rw [Addr.add_lit]
 have := hc j v hj
 simp [World.cell?, h, this]
set_option maxHeartbeats 4000000 in
set_option maxRecDepth 100000 in
theorem insert_room (g cap n i b base : Nat) (cur inner c : List Value) (w : World) (hg : w.heap[g]? = some (.cells cur.toArray 36 (0, 0))) (hb : w.heap[b]? = some (.cells c.toArray 36 (0, 0))) (hbg : b ≠ g) (hcap : cap ≤ maxLen) (hcur : cur.length = cap * 2) (hin : cur.take (n * 2) = inner) (hc : c.length = 2) (h1c : ∀ v ∈ c, v.oneCell' = true) (h1i : ∀ v ∈ inner, v.oneCell' = true) (hi : i < n) (hroom : n + 1 ≤ cap) (hn : n ≤ 1000) :
  Calls Try.prog 26 #[.slice (some ⟨g, 0, none⟩) n cap, .int .i64 (i : Int), .slice (some ⟨b, 0, none⟩) 1 1] w fun e w' => e = .returned (.slice (some ⟨g, 0, none⟩) (n + 1) cap) ∧ (∃ L : List Value, w'.heap[g]? = some (.cells L.toArray 36 (0, 0)) ∧ L.length = cap * 2 ∧ L.take ((n + 1) * 2) = inner.take (i * 2) ++ (c ++ inner.drop (i * 2))) ∧ w.grownBy w' (some g) := by
 have hsz : ∀ w, (Go.sizeOf 36).run Try.prog w = .ok 2 w := fun w => by kernel_rfl
 have hov : ∀ lb cb, (callFunc 40 #[.slice (some ⟨b, 0, none⟩) 1 1, .slice (some ⟨g, (i + 1) * 2, none⟩) lb cb]).run Try.prog w = .ok (.value (.bool false)) w := fun lb cb => by
  rw [run_callFunc_extern Try.func40 (by kernel_rfl) (by kernel_rfl) (by kernel_rfl) (e := Extern.SlicesOverlaps.overlaps #[30, 30] #[4]) (by kernel_rfl),
   Lib.run_overlaps_apart w 30 4 36 Try.underlying30 2 hsz ⟨b, 0, none⟩ ⟨g, (i + 1) * 2, none⟩ 1 1 lb cb hbg 36 36 c.toArray.size cur.toArray.size (by simp [World.shape?, hb]) (by simp [World.shape?, hg]) (by rw [List.size_toArray]; omega) (by simp [World.frozen?, hb]) (by simp [World.frozen?, hb])]
  rfl
 have hil : inner.length = n * 2 := by rw [← hin, List.length_take]; omega
 have HG := Aside0.mk hg
 have HB := Aside0.mk hb
 have HIL := Aside0.mk hil
 have HIN := Aside0.mk hin
 have HCL := Aside0.mk hc
 have HCU := Aside0.mk hcur
 have H1C := Aside0.mk h1c
 have H1I := Aside0.mk h1i
 have HBG := Aside0.mk hbg
 have hcap2 : cap ≤ 9223372036854775807 := by unfold maxLen at hcap; omega
 have HCA := Aside0.mk hcap2
 have b1 : (i : Int) ≤ (n : Int) := by omega
 have b2 : ¬ ((i : Int) = (n : Int)) := by omega
 have b3 : (n : Int) + 1 ≤ (cap : Int) := by omega
 have b4 : (0 : Int) ≤ (i : Int) := by omega
 have b5 : ¬ (cap = i) := by omega
 have b6 : ¬ (cap = i + 1) := by omega
 have b7 : (i : Int) + 1 ≤ (n : Int) + 1 := by omega
 have b8 : (n : Int) ≤ 1000 := by omega
 have b9 : IntKind.i64.wrap ((i : Int) + 1) = (i : Int) + 1 := by rw [IntKind.wrap_i64]; omega
 have b10 : ((i : Int) + 1).toNat = i + 1 := by omega
 have b11 : (0 : Int) ≤ (i : Int) + 1 := by omega
 have b12 : (i : Int) ≤ (n : Int) + 1 := by omega
 clear hil hg hb hin hc hcur h1c h1i hbg hcap
 go_enter Try.func26, Try.ntmps26
 go_wp2_with (simp only [hov])
 go_region_law (refine copy_step rfl (.tmp 73) (.tmp 76) rfl g ((i + 1) * 2) (n + 1 - (i + 1)) (cap - (i + 1)) ⟨g, i * 2, none⟩ (n + 1 - i) (cap - i) (by simp [Act.eval, Act.put]) (by simp [Act.eval, Act.put]) cur (inner.drop (i * 2)) (n - i) HG.out ?c1 ?c2 ?c3 ?c4 ?c5 ?_; (case c1 => have := HIL.out; rw [List.length_drop]; omega); (case c2 => simp only [Nat.min_def]; split <;> omega); (case c3 => exact blk_cells HG.out (i * 2) _ (fun j v hj => by have h1 := HIL.out; have h2 := HIN.out; rw [List.getElem?_drop] at hj; have h3 := (List.getElem?_eq_some_iff.mp hj).1; rw [← h2, List.getElem?_take, if_pos (by omega)] at hj; exact hj)); (case c4 => have h1 := HIL.out; have h2 := HCU.out; rw [List.length_drop]; omega); (case c5 => exact fun v hv => H1I.out v (List.mem_of_mem_drop hv)); intro w1 hg1 hgr1; have HG1 := Aside0.mk hg1; have GR1 := Aside0.mk hgr1; have HB1 := Aside0.mk ((hgr1.block b (blk_lt HB.out) (by simpa using HBG.out)).trans HB.out); clear hg1 hgr1)
 go_wp2_with (first | ((with_reducible refine gate_builtin (b := .copy) (xs := #[.tmp 80, .tmp 81]) rfl ?_); refine copy_event rfl (.tmp 80) (.tmp 81) rfl g (i * 2) (n + 1 - i) (cap - i) ⟨b, 0, none⟩ 1 1 rfl rfl _ c 1 HG1.out ?d1 ?d2 ?d3 ?d4 ?d5 ?_; (case d1 => exact HCL.out); (case d2 => simp only [Nat.min_def]; split <;> omega); (case d3 => exact blk_cells HB1.out 0 _ (fun j v hj => by rw [Nat.zero_add]; exact hj)); (case d4 => have h1 := HIL.out; have h2 := HCU.out; have h3 := HCL.out; simp only [List.length_append, List.length_take, List.length_drop]; omega); (case d5 => exact H1C.out); intro w2 hg2 hgr2; have HG2 := Aside0.mk hg2; have GR2 := Aside0.mk hgr2; clear hg2 hgr2))
 go_ret
 refine ⟨by first | rfl | (simp; done), ⟨_, HG2.out, ?_, ?_⟩, ((grown_drew w _).trans GR1.out).trans GR2.out⟩
 ·have h1 := HIL.out
  have h2 := HCU.out
  have h3 := HCL.out
  simp only [List.length_append, List.length_take, List.length_drop]
  omega
 ·exact room_list cur inner c i n HIN.out (by have := HCU.out; omega) HCL.out (by omega)
theorem grown_then {a b c : World} {g : Nat} (h : a.grownBy b none) (k : b.grownBy c (some g)) (hg : a.heap.size ≤ g) : a.grownBy c none :=
 ⟨k.os.trans h.os, k.tape.trans h.tape, k.output.trans h.output, Nat.le_trans h.size k.size, fun j hj _ => (k.block j (Nat.lt_of_lt_of_le hj h.size) (by simp; omega)).trans (h.block j hj (by simp))⟩
set_option maxHeartbeats 4000000 in
set_option maxRecDepth 100000 in
theorem insert_grow (g n i b : Nat) (cur inner c : List Value) (w : World) (hg : w.heap[g]? = some (.cells cur.toArray 36 (0, 0))) (hb : w.heap[b]? = some (.cells c.toArray 36 (0, 0))) (hcur : cur.length = n * 2) (hin : cur.take (n * 2) = inner) (hc : c.length = 2) (h1c : ∀ v ∈ c, v.oneCell' = true) (h1i : ∀ v ∈ inner, v.oneCell' = true) (hi : i < n) (hn : n ≤ 1000) :
  Calls Try.prog 26 #[.slice (some ⟨g, 0, none⟩) n n, .int .i64 (i : Int), .slice (some ⟨b, 0, none⟩) 1 1] w fun e w' => ∃ G : Nat, e = .returned (.slice (some ⟨w.heap.size, 0, none⟩) (n + 1) G) ∧ n + 1 ≤ G ∧ G ≤ maxLen ∧ (∃ L : List Value, w'.heap[w.heap.size]? = some (.cells L.toArray 36 (0, 0)) ∧ L.length = G * 2 ∧ L.take ((n + 1) * 2) = inner.take (i * 2) ++ (c ++ inner.drop (i * 2))) ∧ w.grownBy w' none := by
 obtain ⟨i0, hi0, hz0, hzs, hzb⟩ := info_parts info36
 have hil : inner.length = n * 2 := by rw [← hin, List.length_take]; omega
 have hkk : (n : Int) + 1 - (i : Int) = ((n + 1 - i : Nat) : Int) := by omega
 have hik : i + (n + 1 - i) = n + 1 := by omega
 obtain ⟨G, hG⟩ : ∃ G, G = grownCap w (n + 1) n 36 := ⟨_, rfl⟩
 have hG1 : n + 1 ≤ G := by rw [hG]; exact grownCap_ge w _ _ _
 have hG2 : G ≤ maxLen := by rw [hG]; exact grownCap_le_maxLen w (n + 1) n 36 (by unfold maxLen; omega)
 have hold : (Builtin.firstCells i0.size i (.slice (some ⟨g, 0, none⟩) i n)).run Try.prog w.drew = .ok (inner.take (i * 2)).toArray w.drew := by
  rw [hzs]
  exact run_firstCells_some w.drew 2 i ⟨g, 0, none⟩ i n (inner.take (i * 2)) (by rw [List.length_take]; omega) (blk_cells (w := w.drew) (L := cur) hg 0 _ (fun j v hj => by
   rw [List.getElem?_take] at hj
   split at hj
   ·rw [← hin, List.getElem?_take, if_pos (by omega)] at hj
    rw [Nat.zero_add]
    exact hj
   ·cases hj))
 have hrz0 := Lib.run_append_grow_zeros w 30 3 30 36 i0 _ .i64 .i64 Try.underlying30 Try.underlying3 hi0 hz0 (some ⟨g, 0, none⟩) i n (inner.take (i * 2)) hold (n + 1 - i) (by omega) (by omega) (by omega) (by omega) (by rw [hzb]; omega) (by rw [hzb, hik]; exact growslice_fits (by omega) (by omega))
 rw [hik, ← hkk, ← hG] at hrz0
 obtain ⟨L0, hL0⟩ : ∃ L0 : List Value, L0 = ((inner.take (i * 2)).toArray ++ Builtin.zeroCells (Value.agg #[(.int .i64 0), (.slice none 0 0)]).cells (n + 1 - i) ++ Builtin.zeroCells (Value.agg #[(.int .i64 0), (.slice none 0 0)]).cells (G - (n + 1))).toList := ⟨_, rfl⟩
 have hLa : (inner.take (i * 2)).toArray ++ Builtin.zeroCells (Value.agg #[(.int .i64 0), (.slice none 0 0)]).cells (n + 1 - i) ++ Builtin.zeroCells (Value.agg #[(.int .i64 0), (.slice none 0 0)]).cells (G - (n + 1)) = L0.toArray := by rw [hL0, Array.toArray_toList]
 rw [hLa] at hrz0
 have hzc : (Value.agg #[(.int .i64 0), (.slice none 0 0)]).cells.size = 2 := rfl
 have hLl : L0.length = G * 2 := by
  rw [hL0]
  simp only [Array.length_toList, Array.size_append, size_zeroCells, hzc, List.size_toArray, List.length_take, hil]
  omega
 have hLt : L0.take (i * 2) = inner.take (i * 2) := by
  rw [hL0]
  simp only [Array.toList_append, List.append_assoc]
  exact List.take_left' (by rw [List.length_take]; omega)
 clear hLa hL0 hold hik
 have hev : ∃ w1, (Builtin.append_ #[30, 3] 30 #[.slice (some ⟨g, 0, none⟩) i n, .int .i64 ((n : Int) + 1 - (i : Int))]).run Try.prog w = .ok (.slice (some ⟨w.heap.size, 0, none⟩) (n + 1) G) w1 ∧ w1.heap[w.heap.size]? = some (.cells L0.toArray 36 (0, 0)) ∧ w.grownBy w1 none := ⟨_, hrz0, blk_new w.drew _, (grown_drew w none).trans (World.grownBy_alloc w.drew _ none)⟩
 obtain ⟨w1, hr1, hg1, hgr1⟩ := hev
 clear hrz0
 have hgl := blk_lt hg
 have hbl := blk_lt hb
 have HR1 := Aside0.mk hr1
 have HN1 := Aside0.mk hg1
 have GR1 := Aside0.mk hgr1
 have HG1 := Aside0.mk ((hgr1.block g hgl (by simp)).trans hg)
 have HB1 := Aside0.mk ((hgr1.block b hbl (by simp)).trans hb)
 have HNG := Aside0.mk hgl
 have HNB := Aside0.mk hbl
 have HIL := Aside0.mk hil
 have HIN := Aside0.mk hin
 have HCL := Aside0.mk hc
 have HCU := Aside0.mk hcur
 have H1C := Aside0.mk h1c
 have H1I := Aside0.mk h1i
 have HLL := Aside0.mk hLl
 have HLT := Aside0.mk hLt
 have HG2 := Aside0.mk hG2
 have hG3 : G ≤ 9223372036854775807 := by unfold maxLen at hG2; omega
 obtain ⟨g2, hg2⟩ : ∃ g2, g2 = w.heap.size := ⟨_, rfl⟩
 rw [← hg2] at HR1 HN1 HNG HNB ⊢
 have HE2 := Aside0.mk hg2
 have b1 : (i : Int) ≤ (n : Int) := by omega
 have b2 : ¬ ((i : Int) = (n : Int)) := by omega
 have b3 : (n : Int) < (n : Int) + 1 := by omega
 have b4 : (0 : Int) ≤ (i : Int) := by omega
 have b5 : ¬ (G = i) := by omega
 have b6 : ¬ (G = i + 1) := by omega
 have b7 : (i : Int) + 1 ≤ (n : Int) + 1 := by omega
 have b8 : (n : Int) ≤ 1000 := by omega
 have b9 : IntKind.i64.wrap ((i : Int) + 1) = (i : Int) + 1 := by rw [IntKind.wrap_i64]; omega
 have b10 : ((i : Int) + 1).toNat = i + 1 := by omega
 have b11 : (0 : Int) ≤ (i : Int) + 1 := by omega
 have b12 : (i : Int) ≤ (n : Int) + 1 := by omega
 have b13 : ¬ (n = i) := by omega
 clear hil hg hb hin hc hcur h1c h1i hr1 hg1 hgr1 hgl hbl hLl hLt hG2 hG hg2 hkk hzc hi0 hz0 hzs hzb
 go_enter Try.func26, Try.ntmps26
 go_wp2_with (first | (at_builtin; refine Kd.event_run rfl (v := .slice (some ⟨g2, 0, none⟩) (n + 1) G) (w1 := w1) ?r1 ?_; (case r1 => simp [execOp, resolve, invoke, builtin, Act.eval, HR1.out])) | ((with_reducible refine gate_builtin (b := .copy) (xs := #[.tmp 43, .tmp 44]) rfl ?_); refine copy_event rfl (.tmp 43) (.tmp 44) rfl g2 (i * 2) (n + 1 - i) (G - i) ⟨b, 0, none⟩ 1 1 rfl rfl _ c 1 HN1.out ?d1 ?d2 ?d3 ?d4 ?d5 ?_; (case d1 => exact HCL.out); (case d2 => simp only [Nat.min_def]; split <;> omega); (case d3 => exact blk_cells HB1.out 0 _ (fun j v hj => by rw [Nat.zero_add]; exact hj)); (case d4 => have h1 := HLL.out; have h3 := HCL.out; omega); (case d5 => exact H1C.out); intro w2 hg2 hgr2; have HN2 := Aside0.mk hg2; have GR2 := Aside0.mk hgr2; have HG2_ := Aside0.mk ((hgr2.block g (blk_lt HG1.out) (by have := HNG.out; simp; omega)).trans HG1.out); clear hg2 hgr2))
 go_region_law (refine copy_step rfl (.tmp 50) (.tmp 53) rfl g2 ((i + 1) * 2) (n + 1 - (i + 1)) (G - (i + 1)) ⟨g, i * 2, none⟩ (n - i) (n - i) (by simp [Act.eval, Act.put]) (by simp [Act.eval, Act.put]) _ (inner.drop (i * 2)) (n - i) HN2.out ?c1 ?c2 ?c3 ?c4 ?c5 ?_; (case c1 => have := HIL.out; rw [List.length_drop]; omega); (case c2 => simp only [Nat.min_def]; split <;> omega); (case c3 => exact blk_cells HG2_.out (i * 2) _ (fun j v hj => by have h1 := HIL.out; have h2 := HIN.out; rw [List.getElem?_drop] at hj; have h3 := (List.getElem?_eq_some_iff.mp hj).1; rw [← h2, List.getElem?_take, if_pos (by omega)] at hj; exact hj)); (case c4 => have h1 := HIL.out; have h2 := HLL.out; have h3 := HCL.out; simp only [List.length_append, List.length_take, List.length_drop]; omega); (case c5 => exact fun v hv => H1I.out v (List.mem_of_mem_drop hv)); intro w3 hg3 hgr3; have HN3 := Aside0.mk hg3; have GR3 := Aside0.mk hgr3; clear hg3 hgr3)
 go_wp2
 go_ret
 refine ⟨G, by first | rfl | (simp; done), hG1, HG2.out, ⟨_, HN3.out, ?_, ?_⟩, ?_⟩
 ·have h1 := HIL.out
  have h2 := HLL.out
  have h3 := HCL.out
  simp only [List.length_append, List.length_take, List.length_drop]
  omega
 ·exact grow_list L0 inner c i n HLT.out HIL.out (by have := HLL.out; omega) HCL.out (by omega)
 ·have he := HE2.out
  exact grown_then (grown_then GR1.out GR2.out (by omega)) ((grown_drew w2 _).trans GR3.out) (by omega)
theorem reps_one {base : Nat} {ok : Nat → Prop} {w : World} {xs : List (List Value)} {inner : List Value} (h : Reps ((Kd.raw 2).M w base ok) 2 xs inner) : ∀ v ∈ inner, v.oneCell' = true := fun v hv => by
 obtain ⟨q, hq, rfl⟩ := List.mem_iff_getElem.1 hv
 have hql : q / 2 < xs.length := by have := h.1; omega
 have hc := h.2 (q / 2) _ (List.getElem?_eq_getElem hql)
 have hm : ∀ u ∈ (inner.drop (q / 2 * 2)).take 2, u.oneCell' = true := hc.2.2
 refine hm _ ?_
 rw [List.mem_iff_getElem?]
 refine ⟨q % 2, ?_⟩
 rw [List.getElem?_take, if_pos (by omega), List.getElem?_drop, show q / 2 * 2 + q % 2 = q by omega, List.getElem?_eq_getElem hq]
set_option maxHeartbeats 4000000 in
set_option maxRecDepth 100000 in
theorem insert_end (v : Value) (l : List (List Value)) (base b : Nat) (c : List Value) (w : World) (hR : Kd.R (Kd.raw 2) 36 w base (fun _ => True) v l) (hb : w.heap[b]? = some (.cells c.toArray 36 (0, 0))) (hc : c.length = 2) (h1c : ∀ v ∈ c, v.oneCell' = true) (hbase : base ≤ w.heap.size) (h1 : 1 ≤ l.length) (hn : l.length ≤ 1000) :
  Calls Try.prog 26 #[v, .int .i64 (l.length : Int), .slice (some ⟨b, 0, none⟩) 1 1] w fun e w' => ∃ v', e = .returned v' ∧ Kd.R (Kd.raw 2) 36 w' base (fun _ => True) v' (l ++ [c]) ∧ w.grownBy w' v.ownBlock := by
 have hC : Kd.C (Kd.raw 2) w (some ⟨b, 0, none⟩) 1 [c] := ⟨rfl, by omega, fun _ => ⟨_, rfl, fun j p hj => by
  match j, hj with
  | 0, hj =>
   cases hj
   exact ⟨c, hc, ⟨rfl, hc, h1c⟩, fun i u hu => blk_cells hb 0 c (fun j v hj => by rw [Nat.zero_add]; exact hj) (0 * 2 + i) u (by rw [Nat.zero_mul, Nat.zero_add]; exact hu)⟩
  | j + 1, hj => simp at hj⟩⟩
 obtain ⟨A, cp, rfl⟩ := Kd.R_slice hR
 have HR := Aside0.mk hR
 have HC := Aside0.mk hC
 have hb1 : (l.length : Int) ≤ 1000 := by omega
 have hcp := (Kd.R_reads' hR).2.1
 have hcp1 : (l.length : Int) ≤ (cp : Int) := by omega
 clear hR hC hb hc h1c
 obtain ⟨g, cap, ev, _⟩ := Kd.R_form HR.out (by omega)
 cases ev
 go_enter Try.func26, Try.ntmps26
 go_wp2_with (first | ((with_reducible refine gate_builtin (b := .append) (xs := #[.tmp 23, .tmp 24]) rfl ?_); refine Kd.R_append_rows (Kd.raw 2) (w0 := w) base rfl (.tmp 23) (.tmp 24) 30 36 (.agg #[(.int .i64 0), (.slice none 0 0)]) 32 rfl Try.underlying30 info36 rfl (by decide) (by omega) _ l [c] _ _ _ (fun _ => True) (fun _ => False) rfl rfl ?aO ?aR (fun _ _ h => h) (fun _ h => h.elim) ?aF ?aB ?aS ?aL ?_; (case aR => exact HC.out); (case aB => exact Below.refl _ _); (case aF => exact (fun _ _ => trivial)); (case aO => exact HR.out); (case aS => exact hbase); (case aL => omega); intro v128 w5 ho hb hg hat; have HO := Aside0.mk ho; have HG := Aside0.mk hg; clear ho hb hg hat))
 all_goals (go_ret; exact ⟨_, by first | rfl | (simp; done), HO.out, HG.out⟩)
theorem insert_Hole (v : Value) (l : List (List Value)) (base b i : Nat) (c : List Value) (w : World) (hR : Kd.R (Kd.raw 2) 36 w base (fun _ => True) v l) (hb : w.heap[b]? = some (.cells c.toArray 36 (0, 0))) (hne : v.ownBlock ≠ some b) (hc : c.length = 2) (h1c : ∀ v ∈ c, v.oneCell' = true) (hbase : base ≤ w.heap.size) (h1 : 1 ≤ l.length) (hn : l.length ≤ 1000) (hi : i ≤ l.length) :
  Calls Try.prog 26 #[v, .int .i64 (i : Int), .slice (some ⟨b, 0, none⟩) 1 1] w fun e w' => ∃ v', e = .returned v' ∧ Kd.R (Kd.raw 2) 36 w' base (fun _ => True) v' (l.take i ++ c :: l.drop i) ∧ w.grownBy w' v.ownBlock := by
 by_cases ci : i = l.length
 ·subst ci
  have h := insert_end v l base b c w hR hb hc h1c hbase h1 hn
  rw [List.take_length, List.drop_length]
  exact h
 ·obtain ⟨_, inner, hown, hrep⟩ := hR
  have h1i := reps_one hrep
  have hil := hown.1
  rcases hown.2 with ⟨_, h0⟩ | ⟨g, cap, cur, rfl, hg0, hh, hnc, hcm, hcs, htk⟩
  ·omega
  ·have hbg : b ≠ g := fun e => hne (by rw [e]; rfl)
   have hh2 : w.heap[g]? = some (.cells cur.toList.toArray 36 (0, 0)) := by rw [Array.toArray_toList]; exact hh
   have hcl : cur.toList.length = cap * 2 := by rw [Array.length_toList]; exact hcs
   have fin : ∀ (w' : World) (g' cap' : Nat) (L : List Value), base ≤ g' → w'.heap[g']? = some (.cells L.toArray 36 (0, 0)) → l.length + 1 ≤ cap' → cap' ≤ maxLen → L.length = cap' * 2 → L.take ((l.length + 1) * 2) = inner.take (i * 2) ++ (c ++ inner.drop (i * 2)) → Kd.R (Kd.raw 2) 36 w' base (fun _ => True) (.slice (some ⟨g', 0, none⟩) (l.length + 1) cap') (l.take i ++ c :: l.drop i) := by
    intro w' g' cap' L e1 e2 e3 e4 e5 e6
    have hlen : (l.take i ++ c :: l.drop i).length = l.length + 1 := by simp only [List.length_append, List.length_take, List.length_cons, List.length_drop]; omega
    refine ⟨fun _ _ => trivial, inner.take (i * 2) ++ (c ++ inner.drop (i * 2)), ⟨?_, Or.inr ⟨g', cap', L.toArray, by rw [hlen], e1, e2, by omega, e4, by rw [List.size_toArray]; exact e5, ?_⟩⟩, ?_⟩
    ·rw [hlen]
     have hz : (Kd.raw 2).sz = 2 := rfl
     rw [hz] at hil ⊢
     simp only [List.length_append, List.length_take, List.length_drop, hc]
     omega
    ·rw [hlen]
     exact e6
    ·exact reps_ins (R := (Kd.raw 2).M w' base _) (c := c) (cc := c) ⟨hrep.1, fun j p hj => hrep.2 j p hj⟩ ⟨rfl, hc, h1c⟩ hc i hi
   by_cases cr : l.length + 1 ≤ cap
   ·refine (insert_room g cap l.length i b base cur.toList inner c w hh2 hb hbg hcm hcl htk hc h1c h1i (by omega) cr hn).mono ?_
    rintro e w' ⟨rfl, ⟨L, hL1, hL2, hL3⟩, hgr⟩
    exact ⟨_, rfl, fin w' g cap L hg0 hL1 cr hcm hL2 hL3, hgr⟩
   ·obtain rfl : cap = l.length := by omega
    refine (insert_grow g l.length i b cur.toList inner c w hh2 hb hcl htk hc h1c h1i (by omega) hn).mono ?_
    rintro e w' ⟨G, rfl, hG1, hG2, ⟨L, hL1, hL2, hL3⟩, hgr⟩
    exact ⟨_, rfl, fin w' w.heap.size G L hbase hL1 hG1 hG2 hL2 hL3, ⟨hgr.os, hgr.tape, hgr.output, hgr.size, fun k hk _ => hgr.block k hk (by simp)⟩⟩
def insAt (a : Int) (l : List S36) : Nat := if holeAt a l 0 < 0 then l.length else (holeAt a l 0).toNat
def insHole (a : Int) (t : List Int) (l : List S36) : List S36 := l.take (insAt a l) ++ (⟨a, t⟩ : S36) :: l.drop (insAt a l)
theorem holeAt_in (a : Int) : ∀ (l : List S36) (i : Int), 0 ≤ i → holeAt a l i = -1 ∨ (i ≤ holeAt a l i ∧ holeAt a l i < i + l.length)
 | [], i, _ => Or.inl rfl
 | h :: l, i, hi => by
  simp only [holeAt]
  by_cases c : h.f0 ≥ a
  ·rw [if_pos c]
   exact Or.inr ⟨Int.le_refl _, by simp; omega⟩
  ·rw [if_neg c]
   rcases holeAt_in a l (i + 1) (by omega) with e | e
   ·exact Or.inl e
   ·exact Or.inr ⟨by omega, by simp; omega⟩
theorem holeAt_split (a : Int) (l : List S36) : (holeAt a l 0 = -1 ∧ insAt a l = l.length) ∨ ∃ i : Nat, holeAt a l 0 = (i : Int) ∧ insAt a l = i ∧ i ≤ l.length := by
 unfold insAt
 rcases holeAt_in a l 0 (by omega) with e | e
 ·exact Or.inl ⟨e, by rw [if_pos (by omega)]⟩
 ·exact Or.inr ⟨(holeAt a l 0).toNat, by omega, by rw [if_neg (by omega)], by omega⟩
theorem slices_Clone_Hole.calls' (ad : Addr) (c0 : Nat) (l0 : List (List Value)) (n : Nat) (hn : l0.length = n) (w : World) (hr0 : Kd.C (Kd.raw 2) w (some ad) l0.length l0) (hc0 : l0.length ≤ c0) (h1 : 1 ≤ l0.length) (h2 : l0.length ≤ 1000) :
  Calls Try.prog 27 #[.slice (some ad) n c0] w fun e w' => ∃ v0_ : Value, e = .returned (v0_) ∧ Kd.R (Kd.raw 2) 36 w' w.heap.size (fun _ => True) v0_ l0 ∧ Below w.heap.size w w' := by
 subst hn
 exact slices_Clone_Hole.calls ad c0 l0 w hr0 hc0 h1 h2
theorem ins_rel (xs : List (List Value)) (l : List S36) (i : Nat) (a : Int) (A1 : Option Addr) (c1 : Nat) (t : List Int) (w : World) (hl : xs.length = l.length) (hk : ∀ (j : Nat) (x : S36) (c : List Value), l[j]? = some x → xs[j]? = some c → k36.K w x c) (hr : Kd.C (Kd.int .i64) w A1 t.length t) (hc : t.length ≤ c1) (hi : i ≤ l.length ∧ i = insAt a l) :
  (insHole a t l).length = (xs.take i ++ [.int .i64 a, .slice A1 t.length c1] :: xs.drop i).length ∧ ∀ (j : Nat) (x : S36) (c : List Value), (insHole a t l)[j]? = some x → (xs.take i ++ [.int .i64 a, .slice A1 t.length c1] :: xs.drop i)[j]? = some c → k36.K w x c := by
 unfold insHole
 rw [← hi.2]
 refine ⟨by simp only [List.length_append, List.length_take, List.length_cons, List.length_drop]; omega, fun j x c h1 h2 => ?_⟩
 rw [ins_get l i _ hi.1 j] at h1
 rw [ins_get xs i _ (by omega) j] at h2
 by_cases c1_ : j < i
 ·rw [if_pos c1_] at h1 h2
  exact hk j x c h1 h2
 ·rw [if_neg c1_] at h1 h2
  by_cases c2 : j = i
  ·rw [if_pos c2] at h1 h2
   cases h1
   cases h2
   exact k36_mk w ⟨a, t⟩ hc hr
  ·rw [if_neg c2] at h1 h2
   exact hk _ x c h1 h2
structure StA (w : World) (ga gh gr : Nat) (cg ch : Array Value) (N0 : Nat) (W : World) : Prop where
 g : W.heap[ga]? = some (.cells cg 32 (0, 0))
 h : W.heap[gh]? = some (.cells ch 36 (0, 0))
 r : W.heap[gr]? = some (.cells #[.slice none 0 0, .slice none 0 0] 32 (0, 0))
 b : Below w.heap.size w W
 n : N0 ≤ W.heap.size
 lg : ga < N0
 lh : gh < N0
 lr : gr < N0
 b0 : w.heap.size ≤ N0
 gr0 : w.heap.size ≤ gr
theorem StA.below {w W W1 : World} {ga gh gr N0 : Nat} {cg ch : Array Value} (s : StA w ga gh gr cg ch N0 W) (hb : Below W.heap.size W W1) : StA w ga gh gr cg ch N0 W1 :=
 ⟨blk_below s.g hb, blk_below s.h hb, blk_below s.r hb, below_step s.b hb, Nat.le_trans s.n hb.size, s.lg, s.lh, s.lr, s.b0, s.gr0⟩
theorem StA.drew {w W : World} {ga gh gr N0 : Nat} {cg ch : Array Value} (s : StA w ga gh gr cg ch N0 W) : StA w ga gh gr cg ch N0 W.drew :=
 ⟨s.g, s.h, s.r, below_drew1 s.b, s.n, s.lg, s.lh, s.lr, s.b0, s.gr0⟩
theorem StA.grown {w W W1 : World} {ga gh gr N0 : Nat} {cg ch : Array Value} {row : Option Nat} (s : StA w ga gh gr cg ch N0 W) (hg : W.grownBy W1 row) (hr : ∀ k, row = some k → N0 ≤ k) (hb : ∀ k, row = some k → w.heap.size ≤ k) : StA w ga gh gr cg ch N0 W1 := by
 have ne : ∀ k, k < N0 → some k ≠ row := fun k hk e => by have := hr k e.symm; omega
 exact ⟨(hg.block ga (blk_lt s.g) (ne ga s.lg)).trans s.g, (hg.block gh (blk_lt s.h) (ne gh s.lh)).trans s.h, (hg.block gr (blk_lt s.r) (ne gr s.lr)).trans s.r, s.b.grown hg s.b.size hb, Nat.le_trans s.n hg.size, s.lg, s.lh, s.lr, s.b0, s.gr0⟩
theorem lit1_step {ops : Array Oper} {o : Oper} {a : Act} {Q : Exit → Act → World → Prop} {Kc : Act → World → Prop} {W : World} (hw : Region.wanted o (yielded ops a.tmps) = true) {N : Tmp} (_hd : o.dst = some N) {cs : Array Value} {t : TypeId}
  (hrun : (execOp a.eval o).run Try.prog W = .ok (.value (.slice (some ⟨W.heap.size, 0, none⟩) 1 1)) (W.alloc (.cells cs t (0, 0))))
  (h : ∀ g, g = W.heap.size → ∀ w1, w1.heap[g]? = some (.cells cs t (0, 0)) → Below W.heap.size W w1 → Kc (a.put o.dst (.slice (some ⟨g, 0, none⟩) 1 1)) w1) : if Region.wanted o (yielded ops a.tmps) = true then Oper.wp Try.prog o a W Kc Q else Kc (a.put o.dst undef) W :=
 event_step hw hrun (h _ rfl _ (blk_new W _) (below_alloc (Below.refl _ _) _))
def impl_AddHole.f (k : Nat) (l0_0 : List Int) (l0_1 : List (S36)) (a1_0 : Int) (l1_1 : List Int) : Option (List Int × (List (S36)) × Bool) := (impl_ValidGround.f k l0_0 l0_1).bind fun t => (if t = true then (if 1 ≤ l0_1.length ∧ l0_1.length ≤ 1000 then ((impl_Ground_withHoles.f k l0_0 l0_1 (insHole a1_0 l1_1 l0_1)).bind fun bt => ((impl_ValidGround.f k bt.1 bt.2).bind fun t2 => (if t2 = true then (some (bt.1, bt.2, true)) else (some (([] : List Int), ([] : List (S36)), false))))) else none) else (some (([] : List Int), ([] : List (S36)), false)))
abbrev p8_47000 : Array Bool := #[false, false, false, false, false, false, false, false, false, false, false]
abbrev p8_47001 : Array Bool := #[true, false, false, false, false, false, false, false, false, false, false]
abbrev p8_47002 : Array Bool := #[true, true, false, false, false, false, false, false, false, false, false]
abbrev p8_47003 : Array Bool := #[true, true, true, false, false, false, false, false, false, false, false]
abbrev p8_47004 : Array Bool := #[true, true, true, false, true, false, false, false, false, false, false]
abbrev p8_47005 : Array Bool := #[true, true, true, false, true, true, false, false, false, false, false]
abbrev p8_47006 : Array Bool := #[true, true, true, true, true, true, true, true, true, true, false]
abbrev p8_47007 : Array Bool := #[true, true, true, true, true, true, false, false, false, false, false]
abbrev p8_47008 : Array Bool := #[true, true, true, false, true, true, true, false, false, false, false]
abbrev p8_47009 : Array Bool := #[true, true, true, false, true, true, false, false, false, true, false]
abbrev p8_47010 : Array Bool := #[true, true, true, true, true, true, true, false, false, false, false]
abbrev p8_47011 : Array Bool := #[true, true, true, true, true, true, false, false, false, true, false]
abbrev p8_47012 : Array Bool := #[true, true, true, true, true, true, true, true, false, false, false]
abbrev p8_47013 : Array Bool := #[true, true, true, true, true, true, true, false, false, true, false]
abbrev p8_47014 : Array Bool := #[true, true, true, true, true, true, true, true, true, false, false]
abbrev p8_47015 : Array Bool := #[true, true, true, true, true, true, true, true, false, true, false]
abbrev p8_47016 : Array Bool := #[true, true, true, false, true, true, true, false, false, true, false]
abbrev p8_47017 : Array Bool := #[true, true, true, true, true, true, true, true, true, true, true]
set_option maxHeartbeats 8000000 in
set_option maxRecDepth 100000 in
theorem impl_AddHole.calls (k : Nat) (A0_0 : Option Addr) (c0_0 : Nat) (l0_0 : List Int) (A0_1 : Option Addr) (c0_1 : Nat) (l0_1 : List (S36)) (a1_0 : Int) (A1_1 : Option Addr) (c1_1 : Nat) (l1_1 : List Int) (r1 : List Int) (r2 : List (S36)) (r3 : Bool) (w : World) (hr0_0 : Kd.C (Kd.int .i64) w A0_0 l0_0.length l0_0) (hc0_0 : l0_0.length ≤ c0_0) (hr0_1 : Kd.C k36 w A0_1 l0_1.length l0_1) (hc0_1 : l0_1.length ≤ c0_1) (hr1_1 : Kd.C (Kd.int .i64) w A1_1 l1_1.length l1_1) (hc1_1 : l1_1.length ≤ c1_1) (h : impl_AddHole.f k l0_0 l0_1 a1_0 l1_1 = some (r1, r2, r3)) :
  Calls Try.prog 9 #[.agg #[.slice A0_0 l0_0.length c0_0, .slice A0_1 l0_1.length c0_1], .agg #[.int .i64 a1_0, .slice A1_1 l1_1.length c1_1]] w fun e w' => ∃ v0_ v1_ : Value, e = .returned (.tuple #[.agg #[v0_, v1_], .bool r3]) ∧ Kd.R (Kd.int .i64) 2 w' w.heap.size (fun _ => True) v0_ r1 ∧ Kd.S k36 36 w' w.heap.size (fun k_ => some k_ ≠ (v0_ : Value).ownBlock) v1_ r2 ∧ Below w.heap.size w w' := by
 unfold impl_AddHole.f at h
 have hu := Try.underlying32
 have hu2 := Try.underlying36
 have HR0_0 := Aside0.mk hr0_0
 have HC0_0 := Aside0.mk hc0_0
 have HC0_1 := Aside0.mk hc0_1
 have HR1_1 := Aside0.mk hr1_1
 have HC1_1 := Aside0.mk hc1_1
 have HB := Aside0.mk (Below.refl w.heap.size w)
 clear hr0_0 hc0_0 hc0_1 hr1_1 hc1_1
 obtain ⟨t, ht, h⟩ := Option.bind_eq_some_iff.mp h
 have HT := Aside0.mk ht
 clear ht
 cases t with
 | false =>
  rw [if_neg (by decide)] at h
  have h := Option.some.inj h
  cases h
  have HR0_1 := Aside0.mk hr0_1
  clear hr0_1
  go_enter Try.func9, Try.ntmps9
  go_wp2_with (first | ((with_reducible refine gate_dst (N := 2) rfl ?_); refine box_event ?hg (N := 2) ?hd (cs := #[.slice A0_0 l0_0.length c0_0, .slice A0_1 l0_1.length c0_1]) (t := 32) ?hr ?_; (case hd => rfl); (case hg => rfl); (case hr => first | (go_simp; done) | (go_simp; rfl)); intro ga hg w1 hbox hb; have B2 := Aside0.mk hbox; have GB2 := Aside0.mk ((by rw [hg]; exact HB.out.size) : w.heap.size ≤ ga); have HB_ := Aside0.mk (below_step HB.out hb); clear HB hb hbox hg; have HB := HB_; clear HB_) | ((with_reducible refine gate_dst (N := 3) rfl ?_); refine box_event ?hg (N := 3) ?hd (cs := #[.int .i64 a1_0, .slice A1_1 l1_1.length c1_1]) (t := 36) ?hr ?_; (case hd => rfl); (case hg => rfl); (case hr => first | (go_simp; done) | (go_simp; rfl)); intro gh hg w2 hbox hb; have B2_ := Aside0.mk (blk_below B2.out hb); have B3 := Aside0.mk hbox; have GB3 := Aside0.mk ((by rw [hg]; exact HB.out.size) : w.heap.size ≤ gh); have NB3B2 := Aside0.mk ((by rw [hg]; exact Nat.ne_of_lt (blk_lt B2.out)) : ga ≠ gh); have HB_ := Aside0.mk (below_step HB.out hb); clear HB hb hbox hg B2; have HB := HB_; clear HB_; have B2 := B2_; clear B2_) | ((with_reducible refine gate_dst (N := 4) rfl ?_); refine box_event ?hg (N := 4) ?hd (cs := #[.slice none 0 0, .slice none 0 0]) (t := 32) ?hr ?_; (case hd => rfl); (case hg => rfl); (case hr => first | (go_simp; done) | (go_simp; rfl)); intro gr hg w3 hbox hb; have B2_ := Aside0.mk (blk_below B2.out hb); have B3_ := Aside0.mk (blk_below B3.out hb); have B4 := Aside0.mk hbox; have GB4 := Aside0.mk ((by rw [hg]; exact HB.out.size) : w.heap.size ≤ gr); have NB4B2 := Aside0.mk ((by rw [hg]; exact Nat.ne_of_lt (blk_lt B2.out)) : ga ≠ gr); have NB4B3 := Aside0.mk ((by rw [hg]; exact Nat.ne_of_lt (blk_lt B3.out)) : gh ≠ gr); have HB_ := Aside0.mk (below_step HB.out hb); clear HB hb hbox hg B2 B3; have HB := HB_; clear HB_; have B2 := B2_; clear B2_; have B3 := B3_; clear B3_; have hcB20 : w3.cell? ⟨ga, 0, none⟩ = some (.slice A0_0 l0_0.length c0_0) := (blk_cell B2.out 0).trans rfl; have hfB20 := blk_frozen B2.out 0; have hcB21 : w3.cell? ⟨ga, 1, none⟩ = some (.slice A0_1 l0_1.length c0_1) := (blk_cell B2.out 1).trans rfl; have hfB21 := blk_frozen B2.out 1; have hcB30 : w3.cell? ⟨gh, 0, none⟩ = some (.int .i64 a1_0) := (blk_cell B3.out 0).trans rfl; have hfB30 := blk_frozen B3.out 0; have hcB31 : w3.cell? ⟨gh, 1, none⟩ = some (.slice A1_1 l1_1.length c1_1) := (blk_cell B3.out 1).trans rfl; have hfB31 := blk_frozen B3.out 1; have hcB40 : w3.cell? ⟨gr, 0, none⟩ = some (.slice none 0 0) := (blk_cell B4.out 0).trans rfl; have hfB40 := blk_frozen B4.out 0; have hcB41 : w3.cell? ⟨gr, 1, none⟩ = some (.slice none 0 0) := (blk_cell B4.out 1).trans rfl; have hfB41 := blk_frozen B4.out 1) | (go_at_call 22; (with_reducible refine (impl_ValidGround.calls k A0_0 c0_0 l0_0 A0_1 c0_1 l0_1 false _ (Kd.C_below HR0_0.out HB.out) HC0_0.out (Kd.C_below HR0_1.out HB.out) HC0_1.out HT.out).mono ?_); rintro e w4 ⟨rfl, hb⟩; have B2_ := Aside0.mk (blk_below B2.out hb); have B3_ := Aside0.mk (blk_below B3.out hb); have B4_ := Aside0.mk (blk_below B4.out hb); have HB_ := Aside0.mk (below_step HB.out hb); clear HB B2 B3 B4 hb hcB20 hcB21 hfB20 hfB21 hcB30 hcB31 hfB30 hfB31 hcB40 hcB41 hfB40 hfB41; have HB := HB_; have B2 := B2_; have B3 := B3_; have B4 := B4_; clear HB_ B2_ B3_ B4_; have hcB20 : w4.cell? ⟨ga, 0, none⟩ = some (.slice A0_0 l0_0.length c0_0) := (blk_cell B2.out 0).trans rfl; have hfB20 := blk_frozen B2.out 0; have hcB21 : w4.cell? ⟨ga, 1, none⟩ = some (.slice A0_1 l0_1.length c0_1) := (blk_cell B2.out 1).trans rfl; have hfB21 := blk_frozen B2.out 1; have hcB30 : w4.cell? ⟨gh, 0, none⟩ = some (.int .i64 a1_0) := (blk_cell B3.out 0).trans rfl; have hfB30 := blk_frozen B3.out 0; have hcB31 : w4.cell? ⟨gh, 1, none⟩ = some (.slice A1_1 l1_1.length c1_1) := (blk_cell B3.out 1).trans rfl; have hfB31 := blk_frozen B3.out 1; have hcB40 : w4.cell? ⟨gr, 0, none⟩ = some (.slice none 0 0) := (blk_cell B4.out 0).trans rfl; have hfB40 := blk_frozen B4.out 0; have hcB41 : w4.cell? ⟨gr, 1, none⟩ = some (.slice none 0 0) := (blk_cell B4.out 1).trans rfl; have hfB41 := blk_frozen B4.out 1))
  refine bodyPost_ret (results_ct rfl _ _ gr 32 #[.slice none 0 0, .slice none 0 0] (0, 0) _ rfl (by (with_reducible repeat (first | refine blk_drewN ?_ _ | refine blk_drew ?_ | refine blk_alloc ?_ _)); refine blk_put (cs := #[.slice none 0 0, .slice none 0 0]) ?_ 1 _ rfl; (with_reducible repeat (first | refine blk_drewN ?_ _ | refine blk_drew ?_ | refine blk_alloc ?_ _)); refine blk_put (cs := #[.slice none 0 0, .slice none 0 0]) ?_ 0 _ rfl; (with_reducible repeat (first | refine blk_drewN ?_ _ | refine blk_drew ?_ | refine blk_alloc ?_ _)); exact B4.out) Try.underlying32 rfl (by kernel_rfl)) rfl ?_
  exact ⟨.slice none 0 0, .slice none 0 0, by first | rfl | (simp; done), Kd.R_nil _ _ _ _ _, Kd.S_nil _ _ _ _ _, by repeat (first | (with_reducible first | exact HB.out | apply below_alloc | apply pw_below_drewN | apply below_drew1 | refine below_set ?_ GB4.out) | exact HB.out)⟩
 | true =>
  rw [if_pos rfl] at h
  have hl : 1 ≤ l0_1.length ∧ l0_1.length ≤ 1000 := by
   by_cases c : 1 ≤ l0_1.length ∧ l0_1.length ≤ 1000
   ·exact c
   ·rw [if_neg c] at h; exact absurd h (by simp)
  rw [if_pos hl] at h
  obtain ⟨⟨g1, g2⟩, hwh, h⟩ := Option.bind_eq_some_iff.mp h
  obtain ⟨t2, ht2, h⟩ := Option.bind_eq_some_iff.mp h
  dsimp only at ht2 h
  have HWH := Aside0.mk hwh
  have HT2 := Aside0.mk ht2
  clear hwh ht2
  obtain ⟨hl1, hl2⟩ := hl
  obtain ⟨adH, ea, _⟩ := hr0_1.2.2 (by omega)
  subst ea
  obtain ⟨xs, hxl, hx, hxk⟩ := raw_of hr0_1
  have HR0_1 := Aside0.mk hr0_1
  have HXL := Aside0.mk hxl
  have HX := Aside0.mk hx
  have HXK := Aside0.mk hxk
  clear hr0_1 hxl hx hxk
  have hsplit : (holeAt a1_0 l0_1 0 = -1 ∧ insAt a1_0 l0_1 = l0_1.length) ∨ ∃ i : Nat, holeAt a1_0 l0_1 0 = (i : Int) ∧ insAt a1_0 l0_1 = i ∧ i ≤ l0_1.length := holeAt_split a1_0 l0_1
  obtain ⟨i, hi⟩ : ∃ i, i = insAt a1_0 l0_1 := ⟨_, rfl⟩
  have HIX := Aside0.mk (show i ≤ l0_1.length ∧ i = insAt a1_0 l0_1 by rw [hi]; rcases hsplit with h | ⟨j, _, h, h2⟩ <;> exact ⟨by omega, rfl⟩)
  have HRL := Aside0.mk (ins_rel xs l0_1 i a1_0 A1_1 c1_1 l1_1 w HXL.out HXK.out HR1_1.out HC1_1.out HIX.out)
  have hb1 : i ≤ l0_1.length := HIX.out.1
  have hsz : ((l0_1.length : Int)) ≤ 1000 := by omega
  refine hsplit.elim ?caseA ?caseB
  all_goals clear hsplit
  case' caseA =>
   intro hcs
   have HAT := Aside0.mk hcs.1
   have hlen_ : (l0_1.length : Int) = (i : Int) := by omega
   have HLE := Aside0.mk hlen_
   clear hcs hlen_ hi
   go_enter Try.func9, Try.ntmps9
   go_wp2_with (first | ((with_reducible refine gate_dst (N := 2) rfl ?_); refine box_event ?hg (N := 2) ?hd (cs := #[.slice A0_0 l0_0.length c0_0, .slice (some adH) l0_1.length c0_1]) (t := 32) ?hr ?_; (case hd => rfl); (case hg => rfl); (case hr => first | (go_simp; done) | (go_simp; rfl)); intro ga hg w1 hbox hb; have B2 := Aside0.mk hbox; have GB2 := Aside0.mk ((by rw [hg]; exact HB.out.size) : w.heap.size ≤ ga); have HB_ := Aside0.mk (below_step HB.out hb); clear HB hb hbox hg; have HB := HB_; clear HB_) | ((with_reducible refine gate_dst (N := 3) rfl ?_); refine box_event ?hg (N := 3) ?hd (cs := #[.int .i64 a1_0, .slice A1_1 l1_1.length c1_1]) (t := 36) ?hr ?_; (case hd => rfl); (case hg => rfl); (case hr => first | (go_simp; done) | (go_simp; rfl)); intro gh hg w2 hbox hb; have B2_ := Aside0.mk (blk_below B2.out hb); have B3 := Aside0.mk hbox; have GB3 := Aside0.mk ((by rw [hg]; exact HB.out.size) : w.heap.size ≤ gh); have NB3B2 := Aside0.mk ((by rw [hg]; exact Nat.ne_of_lt (blk_lt B2.out)) : ga ≠ gh); have HB_ := Aside0.mk (below_step HB.out hb); clear HB hb hbox hg B2; have HB := HB_; clear HB_; have B2 := B2_; clear B2_) | ((with_reducible refine gate_dst (N := 4) rfl ?_); refine box_event ?hg (N := 4) ?hd (cs := #[.slice none 0 0, .slice none 0 0]) (t := 32) ?hr ?_; (case hd => rfl); (case hg => rfl); (case hr => first | (go_simp; done) | (go_simp; rfl)); intro gr hg w3 hbox hb; have B2_ := Aside0.mk (blk_below B2.out hb); have B3_ := Aside0.mk (blk_below B3.out hb); have B4 := Aside0.mk hbox; have GB4 := Aside0.mk ((by rw [hg]; exact HB.out.size) : w.heap.size ≤ gr); have NB4B2 := Aside0.mk ((by rw [hg]; exact Nat.ne_of_lt (blk_lt B2.out)) : ga ≠ gr); have NB4B3 := Aside0.mk ((by rw [hg]; exact Nat.ne_of_lt (blk_lt B3.out)) : gh ≠ gr); have HB_ := Aside0.mk (below_step HB.out hb); clear HB hb hbox hg B2 B3; have HB := HB_; clear HB_; have B2 := B2_; clear B2_; have B3 := B3_; clear B3_; have hcB20 : w3.cell? ⟨ga, 0, none⟩ = some (.slice A0_0 l0_0.length c0_0) := (blk_cell B2.out 0).trans rfl; have hfB20 := blk_frozen B2.out 0; have hcB21 : w3.cell? ⟨ga, 1, none⟩ = some (.slice (some adH) l0_1.length c0_1) := (blk_cell B2.out 1).trans rfl; have hfB21 := blk_frozen B2.out 1; have hcB30 : w3.cell? ⟨gh, 0, none⟩ = some (.int .i64 a1_0) := (blk_cell B3.out 0).trans rfl; have hfB30 := blk_frozen B3.out 0; have hcB31 : w3.cell? ⟨gh, 1, none⟩ = some (.slice A1_1 l1_1.length c1_1) := (blk_cell B3.out 1).trans rfl; have hfB31 := blk_frozen B3.out 1; have hcB40 : w3.cell? ⟨gr, 0, none⟩ = some (.slice none 0 0) := (blk_cell B4.out 0).trans rfl; have hfB40 := blk_frozen B4.out 0; have hcB41 : w3.cell? ⟨gr, 1, none⟩ = some (.slice none 0 0) := (blk_cell B4.out 1).trans rfl; have hfB41 := blk_frozen B4.out 1) | (go_at_call 22; (with_reducible refine (impl_ValidGround.calls k A0_0 c0_0 l0_0 (some adH) c0_1 l0_1 true _ (Kd.C_below HR0_0.out HB.out) HC0_0.out (Kd.C_below HR0_1.out HB.out) HC0_1.out HT.out).mono ?_); rintro e w4 ⟨rfl, hb⟩; have B2_ := Aside0.mk (blk_below B2.out hb); have B3_ := Aside0.mk (blk_below B3.out hb); have B4_ := Aside0.mk (blk_below B4.out hb); have HB_ := Aside0.mk (below_step HB.out hb); clear HB B2 B3 B4 hb hcB20 hcB21 hfB20 hfB21 hcB30 hcB31 hfB30 hfB31 hcB40 hcB41 hfB40 hfB41; have HB := HB_; have B2 := B2_; have B3 := B3_; have B4 := B4_; clear HB_ B2_ B3_ B4_; have hcB20 : w4.cell? ⟨ga, 0, none⟩ = some (.slice A0_0 l0_0.length c0_0) := (blk_cell B2.out 0).trans rfl; have hfB20 := blk_frozen B2.out 0; have hcB21 : w4.cell? ⟨ga, 1, none⟩ = some (.slice (some adH) l0_1.length c0_1) := (blk_cell B2.out 1).trans rfl; have hfB21 := blk_frozen B2.out 1; have hcB30 : w4.cell? ⟨gh, 0, none⟩ = some (.int .i64 a1_0) := (blk_cell B3.out 0).trans rfl; have hfB30 := blk_frozen B3.out 0; have hcB31 : w4.cell? ⟨gh, 1, none⟩ = some (.slice A1_1 l1_1.length c1_1) := (blk_cell B3.out 1).trans rfl; have hfB31 := blk_frozen B3.out 1; have hcB40 : w4.cell? ⟨gr, 0, none⟩ = some (.slice none 0 0) := (blk_cell B4.out 0).trans rfl; have hfB40 := blk_frozen B4.out 0; have hcB41 : w4.cell? ⟨gr, 1, none⟩ = some (.slice none 0 0) := (blk_cell B4.out 1).trans rfl; have hfB41 := blk_frozen B4.out 1) | (go_at_call 23; (with_reducible refine (impl_AddHole_1.calls (some adH) c0_1 l0_1 gh a1_0 (.slice A1_1 l1_1.length c1_1) (-1) _ (Kd.C_below HR0_1.out HB.out) HC0_1.out B3.out HAT.out).mono ?_); rintro e w5 ⟨rfl, hb⟩; have B2_ := Aside0.mk (blk_below B2.out hb); have B3_ := Aside0.mk (blk_below B3.out hb); have B4_ := Aside0.mk (blk_below B4.out hb); have HB_ := Aside0.mk (below_step HB.out hb); clear HB B2 B3 B4 hb hcB20 hcB21 hfB20 hfB21 hcB30 hcB31 hfB30 hfB31 hcB40 hcB41 hfB40 hfB41; have HB := HB_; have B2 := B2_; have B3 := B3_; have B4 := B4_; clear HB_ B2_ B3_ B4_; have hcB20 : w5.cell? ⟨ga, 0, none⟩ = some (.slice A0_0 l0_0.length c0_0) := (blk_cell B2.out 0).trans rfl; have hfB20 := blk_frozen B2.out 0; have hcB21 : w5.cell? ⟨ga, 1, none⟩ = some (.slice (some adH) l0_1.length c0_1) := (blk_cell B2.out 1).trans rfl; have hfB21 := blk_frozen B2.out 1; have hcB30 : w5.cell? ⟨gh, 0, none⟩ = some (.int .i64 a1_0) := (blk_cell B3.out 0).trans rfl; have hfB30 := blk_frozen B3.out 0; have hcB31 : w5.cell? ⟨gh, 1, none⟩ = some (.slice A1_1 l1_1.length c1_1) := (blk_cell B3.out 1).trans rfl; have hfB31 := blk_frozen B3.out 1; have hcB40 : w5.cell? ⟨gr, 0, none⟩ = some (.slice none 0 0) := (blk_cell B4.out 0).trans rfl; have hfB40 := blk_frozen B4.out 0; have hcB41 : w5.cell? ⟨gr, 1, none⟩ = some (.slice none 0 0) := (blk_cell B4.out 1).trans rfl; have hfB41 := blk_frozen B4.out 1))
   rw [HLE.out]
   clear HLE
  case' caseB =>
   rintro ⟨j, hcs⟩
   have hj : i = j := by omega
   subst hj
   have HAT := Aside0.mk hcs.1
   have hneg : decide ((i : Int) < 0) = false := decide_eq_false (by omega)
   clear hcs hi
   go_enter Try.func9, Try.ntmps9
   go_wp2_with (first | ((with_reducible refine gate_dst (N := 2) rfl ?_); refine box_event ?hg (N := 2) ?hd (cs := #[.slice A0_0 l0_0.length c0_0, .slice (some adH) l0_1.length c0_1]) (t := 32) ?hr ?_; (case hd => rfl); (case hg => rfl); (case hr => first | (go_simp; done) | (go_simp; rfl)); intro ga hg w1 hbox hb; have B2 := Aside0.mk hbox; have GB2 := Aside0.mk ((by rw [hg]; exact HB.out.size) : w.heap.size ≤ ga); have HB_ := Aside0.mk (below_step HB.out hb); clear HB hb hbox hg; have HB := HB_; clear HB_) | ((with_reducible refine gate_dst (N := 3) rfl ?_); refine box_event ?hg (N := 3) ?hd (cs := #[.int .i64 a1_0, .slice A1_1 l1_1.length c1_1]) (t := 36) ?hr ?_; (case hd => rfl); (case hg => rfl); (case hr => first | (go_simp; done) | (go_simp; rfl)); intro gh hg w2 hbox hb; have B2_ := Aside0.mk (blk_below B2.out hb); have B3 := Aside0.mk hbox; have GB3 := Aside0.mk ((by rw [hg]; exact HB.out.size) : w.heap.size ≤ gh); have NB3B2 := Aside0.mk ((by rw [hg]; exact Nat.ne_of_lt (blk_lt B2.out)) : ga ≠ gh); have HB_ := Aside0.mk (below_step HB.out hb); clear HB hb hbox hg B2; have HB := HB_; clear HB_; have B2 := B2_; clear B2_) | ((with_reducible refine gate_dst (N := 4) rfl ?_); refine box_event ?hg (N := 4) ?hd (cs := #[.slice none 0 0, .slice none 0 0]) (t := 32) ?hr ?_; (case hd => rfl); (case hg => rfl); (case hr => first | (go_simp; done) | (go_simp; rfl)); intro gr hg w3 hbox hb; have B2_ := Aside0.mk (blk_below B2.out hb); have B3_ := Aside0.mk (blk_below B3.out hb); have B4 := Aside0.mk hbox; have GB4 := Aside0.mk ((by rw [hg]; exact HB.out.size) : w.heap.size ≤ gr); have NB4B2 := Aside0.mk ((by rw [hg]; exact Nat.ne_of_lt (blk_lt B2.out)) : ga ≠ gr); have NB4B3 := Aside0.mk ((by rw [hg]; exact Nat.ne_of_lt (blk_lt B3.out)) : gh ≠ gr); have HB_ := Aside0.mk (below_step HB.out hb); clear HB hb hbox hg B2 B3; have HB := HB_; clear HB_; have B2 := B2_; clear B2_; have B3 := B3_; clear B3_; have hcB20 : w3.cell? ⟨ga, 0, none⟩ = some (.slice A0_0 l0_0.length c0_0) := (blk_cell B2.out 0).trans rfl; have hfB20 := blk_frozen B2.out 0; have hcB21 : w3.cell? ⟨ga, 1, none⟩ = some (.slice (some adH) l0_1.length c0_1) := (blk_cell B2.out 1).trans rfl; have hfB21 := blk_frozen B2.out 1; have hcB30 : w3.cell? ⟨gh, 0, none⟩ = some (.int .i64 a1_0) := (blk_cell B3.out 0).trans rfl; have hfB30 := blk_frozen B3.out 0; have hcB31 : w3.cell? ⟨gh, 1, none⟩ = some (.slice A1_1 l1_1.length c1_1) := (blk_cell B3.out 1).trans rfl; have hfB31 := blk_frozen B3.out 1; have hcB40 : w3.cell? ⟨gr, 0, none⟩ = some (.slice none 0 0) := (blk_cell B4.out 0).trans rfl; have hfB40 := blk_frozen B4.out 0; have hcB41 : w3.cell? ⟨gr, 1, none⟩ = some (.slice none 0 0) := (blk_cell B4.out 1).trans rfl; have hfB41 := blk_frozen B4.out 1) | (go_at_call 22; (with_reducible refine (impl_ValidGround.calls k A0_0 c0_0 l0_0 (some adH) c0_1 l0_1 true _ (Kd.C_below HR0_0.out HB.out) HC0_0.out (Kd.C_below HR0_1.out HB.out) HC0_1.out HT.out).mono ?_); rintro e w4 ⟨rfl, hb⟩; have B2_ := Aside0.mk (blk_below B2.out hb); have B3_ := Aside0.mk (blk_below B3.out hb); have B4_ := Aside0.mk (blk_below B4.out hb); have HB_ := Aside0.mk (below_step HB.out hb); clear HB B2 B3 B4 hb hcB20 hcB21 hfB20 hfB21 hcB30 hcB31 hfB30 hfB31 hcB40 hcB41 hfB40 hfB41; have HB := HB_; have B2 := B2_; have B3 := B3_; have B4 := B4_; clear HB_ B2_ B3_ B4_; have hcB20 : w4.cell? ⟨ga, 0, none⟩ = some (.slice A0_0 l0_0.length c0_0) := (blk_cell B2.out 0).trans rfl; have hfB20 := blk_frozen B2.out 0; have hcB21 : w4.cell? ⟨ga, 1, none⟩ = some (.slice (some adH) l0_1.length c0_1) := (blk_cell B2.out 1).trans rfl; have hfB21 := blk_frozen B2.out 1; have hcB30 : w4.cell? ⟨gh, 0, none⟩ = some (.int .i64 a1_0) := (blk_cell B3.out 0).trans rfl; have hfB30 := blk_frozen B3.out 0; have hcB31 : w4.cell? ⟨gh, 1, none⟩ = some (.slice A1_1 l1_1.length c1_1) := (blk_cell B3.out 1).trans rfl; have hfB31 := blk_frozen B3.out 1; have hcB40 : w4.cell? ⟨gr, 0, none⟩ = some (.slice none 0 0) := (blk_cell B4.out 0).trans rfl; have hfB40 := blk_frozen B4.out 0; have hcB41 : w4.cell? ⟨gr, 1, none⟩ = some (.slice none 0 0) := (blk_cell B4.out 1).trans rfl; have hfB41 := blk_frozen B4.out 1) | (go_at_call 23; (with_reducible refine (impl_AddHole_1.calls (some adH) c0_1 l0_1 gh a1_0 (.slice A1_1 l1_1.length c1_1) (i : Int) _ (Kd.C_below HR0_1.out HB.out) HC0_1.out B3.out HAT.out).mono ?_); rintro e w5 ⟨rfl, hb⟩; have B2_ := Aside0.mk (blk_below B2.out hb); have B3_ := Aside0.mk (blk_below B3.out hb); have B4_ := Aside0.mk (blk_below B4.out hb); have HB_ := Aside0.mk (below_step HB.out hb); clear HB B2 B3 B4 hb hcB20 hcB21 hfB20 hfB21 hcB30 hcB31 hfB30 hfB31 hcB40 hcB41 hfB40 hfB41; have HB := HB_; have B2 := B2_; have B3 := B3_; have B4 := B4_; clear HB_ B2_ B3_ B4_; have hcB20 : w5.cell? ⟨ga, 0, none⟩ = some (.slice A0_0 l0_0.length c0_0) := (blk_cell B2.out 0).trans rfl; have hfB20 := blk_frozen B2.out 0; have hcB21 : w5.cell? ⟨ga, 1, none⟩ = some (.slice (some adH) l0_1.length c0_1) := (blk_cell B2.out 1).trans rfl; have hfB21 := blk_frozen B2.out 1; have hcB30 : w5.cell? ⟨gh, 0, none⟩ = some (.int .i64 a1_0) := (blk_cell B3.out 0).trans rfl; have hfB30 := blk_frozen B3.out 0; have hcB31 : w5.cell? ⟨gh, 1, none⟩ = some (.slice A1_1 l1_1.length c1_1) := (blk_cell B3.out 1).trans rfl; have hfB31 := blk_frozen B3.out 1; have hcB40 : w5.cell? ⟨gr, 0, none⟩ = some (.slice none 0 0) := (blk_cell B4.out 0).trans rfl; have hfB40 := blk_frozen B4.out 0; have hcB41 : w5.cell? ⟨gr, 1, none⟩ = some (.slice none 0 0) := (blk_cell B4.out 1).trans rfl; have hfB41 := blk_frozen B4.out 1))
   clear hneg
  all_goals
   have hns := HB.out.size
   obtain ⟨N0, hN0⟩ : ∃ N0, N0 = w5.heap.size := ⟨_, rfl⟩
   have ST := Aside0.mk (show StA w ga gh gr #[.slice A0_0 l0_0.length c0_0, .slice (some adH) l0_1.length c0_1] #[.int .i64 a1_0, .slice A1_1 l1_1.length c1_1] N0 w5 from ⟨B2.out, B3.out, B4.out, HB.out, by rw [hN0]; exact Nat.le_refl _, by rw [hN0]; exact blk_lt B2.out, by rw [hN0]; exact blk_lt B3.out, by rw [hN0]; exact blk_lt B4.out, by rw [hN0]; exact hns, GB4.out⟩)
   clear hN0 hns B2 B3 B4 HB hcB20 hcB21 hfB20 hfB21 hcB30 hcB31 hfB30 hfB31 hcB40 hcB41 hfB40 hfB41
   replace ST := Aside0.mk (StA.drew ST.out)
   refine start_ (n := 11) (S := fun w' => w'.cell? ⟨ga, 0, none⟩ = some (.slice A0_0 l0_0.length c0_0) ∧ w'.cell? ⟨ga, 1, none⟩ = some (.slice (some adH) l0_1.length c0_1) ∧ w'.cell? ⟨gh, 0, none⟩ = some (.int .i64 a1_0) ∧ w'.cell? ⟨gh, 1, none⟩ = some (.slice A1_1 l1_1.length c1_1)) (ds := []) p8_47000 (by kernel_rfl) rfl rfl ⟨(blk_cell ST.out.g 0).trans rfl, (blk_cell ST.out.g 1).trans rfl, (blk_cell ST.out.h 0).trans rfl, (blk_cell ST.out.h 1).trans rfl⟩ (fun hHeld => ?_)
   generalize w5.drew = w6 at ST hHeld ⊢
   refine take_ (i := 0) (N := some 21) (v := ?_) (a' := ?_) p8_47001 rfl rfl (by kernel_rfl) (fun _ _ _ h => h) (Or.inl ⟨by rfl, ?_⟩) hHeld ?_ ?_
   rotate_left
   ·rintro w' ⟨s0_, s1_, s2_, s3_⟩
    go_simp
    with_reducible rfl
   rotate_left
   ·simp only [Act.put, qa_, qz_, qs_, i64_w, i32_w]
    rfl
   refine pure_ (i := 1) (N := some 22) (v := ?_) (a' := ?_) p8_47002 rfl rfl (by kernel_rfl) (fun _ _ _ h => h) (Or.inl ⟨by rfl, ?_⟩) ?_ ?_
   rotate_left
   ·intro w'
    go_simp
    with_reducible rfl
   rotate_left
   ·simp only [Act.put, qa_, qz_, qs_, i64_w, i32_w]
    rfl
   refine take_ (i := 2) (N := some 23) (v := ?_) (a' := ?_) p8_47003 rfl rfl (by kernel_rfl) (fun _ _ _ h => h) (Or.inl ⟨by rfl, ?_⟩) hHeld ?_ ?_
   rotate_left
   ·rintro w' ⟨s0_, s1_, s2_, s3_⟩
    go_simp
    with_reducible rfl
   rotate_left
   ·simp only [Act.put, qa_, qz_, qs_, i64_w, i32_w]
    rfl
   refine pure_ (i := 4) (N := some 25) (v := ?_) (a' := ?_) p8_47004 rfl rfl (by kernel_rfl) (fun _ _ _ h => h) (Or.inl ⟨by rfl, ?_⟩) ?_ ?_
   rotate_left
   ·intro w'
    go_simp
    with_reducible rfl
   rotate_left
   ·simp only [Act.put, qa_, qz_, qs_, i64_w, i32_w]
    rfl
   refine take_ (i := 5) (N := some 26) (v := ?_) (a' := ?_) p8_47005 rfl rfl (by kernel_rfl) (fun _ _ _ h => h) (Or.inl ⟨by rfl, ?_⟩) hHeld ?_ ?_
   rotate_left
   ·rintro w' ⟨s0_, s1_, s2_, s3_⟩
    go_simp
    with_reducible rfl
   rotate_left
   ·simp only [Act.put, qa_, qz_, qs_, i64_w, i32_w]
    rfl
   refine join_ (σ := Value × Nat × Value × Value × Value × Nat) 1 p8_47006 (fun s_ => [(24, s_.1), (27, .slice (some ⟨s_.2.1, 0, none⟩) 1 1), (28, s_.2.2.1), (29, .agg #[s_.2.2.2.1, s_.2.2.2.2.1]), (7, .pointer (some ⟨s_.2.2.2.2.2, 0, none⟩))]) (fun s_ w' => (w'.cell? ⟨ga, 0, none⟩ = some (.slice A0_0 l0_0.length c0_0) ∧ w'.cell? ⟨ga, 1, none⟩ = some (.slice (some adH) l0_1.length c0_1) ∧ w'.cell? ⟨gh, 0, none⟩ = some (.int .i64 a1_0) ∧ w'.cell? ⟨gh, 1, none⟩ = some (.slice A1_1 l1_1.length c1_1)) ∧ StA w ga gh gr #[.slice A0_0 l0_0.length c0_0, .slice (some adH) l0_1.length c0_1] #[.int .i64 a1_0, .slice A1_1 l1_1.length c1_1] N0 w' ∧ Kd.R (Kd.int .i64) 2 w' w.heap.size (fun _ => True) s_.2.2.2.1 g1 ∧ Kd.S k36 36 w' w.heap.size (fun k_ => some k_ ≠ (s_.2.2.2.1 : Value).ownBlock) s_.2.2.2.2.1 g2 ∧ w'.heap[s_.2.2.2.2.2]? = some (.cells #[.slice none 0 0, .slice none 0 0] 32 (0, 0)) ∧ N0 ≤ s_.2.2.2.2.2) ?_ (fun hCont => ?_)
   rotate_left
   ·skip
    refine three_ (i := 3) (j := 6) (k := 9) (Ni := some 24) (Nj := some 27) (Nk := some 7) p8_47007 p8_47008 p8_47009 rfl rfl rfl rfl rfl rfl (by kernel_rfl) (by decide) (by decide) (by decide) (fun K hK => ?_) (fun K hK => ?_) (fun K hK => ?_)
    ·skip
     refine goes_ Try.func27 (by kernel_rfl) rfl #[.slice (some adH) l0_1.length c0_1] (by rfl) rfl rfl (by (try simp only [List.map_toArray, List.map_cons, List.map_nil]); first | done | rfl | (simp only [List.length_drop, List.length_take]; rfl)) ?_
     refine (slices_Clone_Hole.calls' adH c0_1 xs l0_1.length HXL.out _ (Kd.C_below HX.out ST.out.b) (by rw [HXL.out]; exact HC0_1.out) (by rw [HXL.out]; exact hl1) (by rw [HXL.out]; exact hl2)).mono ?_
     rintro e w21 ⟨vC, rfl, ho, hb⟩
     refine ⟨_, rfl, ?_⟩
     have hn_ := ST.out.n
     have ST_ := Aside0.mk (StA.below ST.out hb)
     have HC := Aside0.mk (Kd.R_lower (Kd.R_mono (ok' := fun q => N0 ≤ q) (Kd.R_bound ho) (fun q hq => Nat.le_trans hn_ hq.2.1)) ST.out.b.size)
     clear hn_
     clear hb ho
     clear ST
     have ST := ST_
     clear ST_
     refine hK.out _ _ ⟨(blk_cell ST.out.g 0).trans rfl, (blk_cell ST.out.g 1).trans rfl, (blk_cell ST.out.h 0).trans rfl, (blk_cell ST.out.h 1).trans rfl⟩ (fun hHeld => ?_)
     clear hK K
     refine norm_ (a' := ?_) ?_ ?_
     rotate_left
     ·show Act.put _ (some 24) _ = _
      simp only [Act.put, qa_, qz_, qs_, i64_w, i32_w]
      rfl
     refine two_ (i := 6) (j := 9) (Ni := some 27) (Nj := some 7) p8_47010 p8_47011 rfl rfl rfl rfl (by kernel_rfl) (by decide) (by decide) (fun K hK => ?_) (fun K hK => ?_)
     ·skip
      refine lit1_step ?hg (N := 27) ?hd (cs := #[.int .i64 a1_0, .slice A1_1 l1_1.length c1_1]) (t := 36) ?hr ?_; (case hd => rfl); (case hg => rfl); (case hr => first | (go_simp; done) | (go_simp; rfl))
      intro gB hgB w22 hbox hb
      have NE := Aside0.mk (show (vC : Value).ownBlock ≠ some gB from fun e => by have h1 := Kd.R_lt HC.out gB e; omega)
      have ST_ := Aside0.mk (StA.below ST.out hb)
      have HC_ := Aside0.mk (Kd.R_below HC.out hb)
      have HS := Aside0.mk hbox
      clear hb hbox hgB
      clear ST HC
      have ST := ST_
      have HC := HC_
      clear ST_ HC_
      refine hK.out _ _ ⟨(blk_cell ST.out.g 0).trans rfl, (blk_cell ST.out.g 1).trans rfl, (blk_cell ST.out.h 0).trans rfl, (blk_cell ST.out.h 1).trans rfl⟩ (fun hHeld => ?_)
      clear hK K
      refine norm_ (a' := ?_) ?_ ?_
      rotate_left
      ·show Act.put _ (some 27) _ = _
       simp only [Act.put, qa_, qz_, qs_, i64_w, i32_w]
       rfl
      refine two_ (i := 7) (j := 9) (Ni := some 28) (Nj := some 7) p8_47012 p8_47013 rfl rfl rfl rfl (by kernel_rfl) (by decide) (by decide) (fun K hK => ?_) (fun K hK => ?_)
      ·skip
       refine goes_ Try.func26 (by kernel_rfl) rfl #[vC, .int .i64 (i : Int), .slice (some ⟨gB, 0, none⟩) 1 1] (by rfl) rfl rfl (by (try simp only [List.map_toArray, List.map_cons, List.map_nil]); first | done | rfl | (simp only [List.length_drop, List.length_take]; rfl)) ?_
       refine (insert_Hole vC xs w.heap.size gB i [.int .i64 a1_0, .slice A1_1 l1_1.length c1_1] _ (Kd.R_mono HC.out (fun _ _ => trivial)) HS.out NE.out rfl (by intro v hv; simp at hv; rcases hv with rfl | rfl <;> rfl) ST.out.b.size (by rw [HXL.out]; exact hl1) (by rw [HXL.out]; exact hl2) (by rw [HXL.out]; exact HIX.out.1)).mono ?_
       rintro e w23 ⟨vI, rfl, ho, hg⟩
       refine ⟨_, rfl, ?_⟩
       have ST_ := Aside0.mk (StA.grown ST.out hg (fun k e => HC.out.1 k e) (Kd.R_base HC.out))
       have HI := Aside0.mk ho
       clear ho hg HC HS NE
       clear ST
       have ST := ST_
       clear ST_
       refine hK.out _ _ ⟨(blk_cell ST.out.g 0).trans rfl, (blk_cell ST.out.g 1).trans rfl, (blk_cell ST.out.h 0).trans rfl, (blk_cell ST.out.h 1).trans rfl⟩ (fun hHeld => ?_)
       clear hK K
       refine norm_ (a' := ?_) ?_ ?_
       rotate_left
       ·show Act.put _ (some 28) _ = _
        simp only [Act.put, qa_, qz_, qs_, i64_w, i32_w]
        rfl
       refine two_ (i := 8) (j := 9) (Ni := some 29) (Nj := some 7) p8_47014 p8_47015 rfl rfl rfl rfl (by kernel_rfl) (by decide) (by decide) (fun K hK => ?_) (fun K hK => ?_)
       ·skip
        obtain ⟨AI, cI, eI⟩ := Kd.R_slice HI.out
        subst eI
        have hI_ := Kd.R_reads' HI.out
        refine goes_ Try.func25 (by kernel_rfl) rfl #[.agg #[.slice A0_0 l0_0.length c0_0, .slice (some adH) l0_1.length c0_1], .slice AI (xs.take i ++ [.int .i64 a1_0, .slice A1_1 l1_1.length c1_1] :: xs.drop i).length cI] (by rfl) rfl rfl (by (try simp only [List.map_toArray, List.map_cons, List.map_nil]); first | done | rfl | (simp only [List.length_drop, List.length_take]; rfl)) ?_
        have hll_ : (insHole a1_0 l1_1 l0_1).length = (xs.take i ++ [.int .i64 a1_0, .slice A1_1 l1_1.length c1_1] :: xs.drop i).length := HRL.out.1
        rw [← hll_]
        rw [← hll_] at hI_
        refine (impl_Ground_withHoles.calls k A0_0 c0_0 l0_0 (some adH) c0_1 l0_1 AI cI (insHole a1_0 l1_1 l0_1) g1 g2 _ (Kd.C_below HR0_0.out ST.out.b) HC0_0.out (Kd.C_below HR0_1.out ST.out.b) HC0_1.out (raw_back hI_.2.2 HRL.out.1 (fun j x c h1 h2 => k36.K_below ST.out.b (HRL.out.2 j x c h1 h2))) hI_.2.1 HWH.out).mono ?_
        rintro e w24 ⟨v0, v1, rfl, ho0, ho1, hb⟩
        refine ⟨_, rfl, ?_⟩
        have ST_ := Aside0.mk (StA.below ST.out hb)
        have HV0 := Aside0.mk (Kd.R_lower ho0 ST.out.b.size)
        have HV1 := Aside0.mk (Kd.S_lower ho1 ST.out.b.size)
        clear hb ho0 ho1 hI_ hll_
        clear ST
        have ST := ST_
        clear ST_
        clear HI
        refine hK.out _ _ ⟨(blk_cell ST.out.g 0).trans rfl, (blk_cell ST.out.g 1).trans rfl, (blk_cell ST.out.h 0).trans rfl, (blk_cell ST.out.h 1).trans rfl⟩ (fun hHeld => ?_)
        clear hK K
        refine norm_ (a' := ?_) ?_ ?_
        rotate_left
        ·show Act.put _ (some 29) _ = _
         simp only [Act.put, qa_, qz_, qs_, i64_w, i32_w]
         rfl
        refine one_ (i := 9) (N := some 7) p8_47006 rfl rfl (by kernel_rfl) (by decide) (fun K hK => ?_)
        refine box_step ?hg (N := 7) ?hd (cs := #[.slice none 0 0, .slice none 0 0]) (t := 32) ?hr ?_; (case hd => rfl); (case hg => rfl); (case hr => first | (go_simp; done) | (go_simp; rfl))
        intro gA hgA w25 hbox hb
        have NA := Aside0.mk (show N0 ≤ gA by rw [hgA]; exact ST.out.n)
        have ST_ := Aside0.mk (StA.below ST.out hb)
        have HV0_ := Aside0.mk (Kd.R_below HV0.out hb)
        have HV1_ := Aside0.mk (Kd.S_below HV1.out hb)
        have HA := Aside0.mk hbox
        clear hb hbox hgA
        clear ST HV0 HV1
        have ST := ST_
        have HV0 := HV0_
        have HV1 := HV1_
        clear ST_ HV0_ HV1_
        refine hK.out _ _ ⟨(blk_cell ST.out.g 0).trans rfl, (blk_cell ST.out.g 1).trans rfl, (blk_cell ST.out.h 0).trans rfl, (blk_cell ST.out.h 1).trans rfl⟩ (fun hHeld => ?_)
        clear hK K
        refine norm_ (a' := ?_) ?_ ?_
        rotate_left
        ·show Act.put _ (some 7) _ = _
         simp only [Act.put, qa_, qz_, qs_, i64_w, i32_w]
         rfl
        exact norm_ (by simp only [putAll, Act.put, qa_, qz_, qs_]) (hCont (vC, gB, .slice AI (insHole a1_0 l1_1 l0_1).length cI, v0, v1, gA) _ ⟨hHeld, ST.out, HV0.out, HV1.out, HA.out, NA.out⟩)
       ·skip
        refine box_step ?hg (N := 7) ?hd (cs := #[.slice none 0 0, .slice none 0 0]) (t := 32) ?hr ?_; (case hd => rfl); (case hg => rfl); (case hr => first | (go_simp; done) | (go_simp; rfl))
        intro gA hgA w26 hbox hb
        have NA := Aside0.mk (show N0 ≤ gA by rw [hgA]; exact ST.out.n)
        have ST_ := Aside0.mk (StA.below ST.out hb)
        have HI_ := Aside0.mk (Kd.R_below HI.out hb)
        have HA := Aside0.mk hbox
        clear hb hbox hgA
        clear ST HI
        have ST := ST_
        have HI := HI_
        clear ST_ HI_
        refine hK.out _ _ ⟨(blk_cell ST.out.g 0).trans rfl, (blk_cell ST.out.g 1).trans rfl, (blk_cell ST.out.h 0).trans rfl, (blk_cell ST.out.h 1).trans rfl⟩ (fun hHeld => ?_)
        clear hK K
        refine norm_ (a' := ?_) ?_ ?_
        rotate_left
        ·show Act.put _ (some 7) _ = _
         simp only [Act.put, qa_, qz_, qs_, i64_w, i32_w]
         rfl
        refine one_ (i := 8) (N := some 29) p8_47006 rfl rfl (by kernel_rfl) (by decide) (fun K hK => ?_)
        obtain ⟨AI, cI, eI⟩ := Kd.R_slice HI.out
        subst eI
        have hI_ := Kd.R_reads' HI.out
        refine goes_ Try.func25 (by kernel_rfl) rfl #[.agg #[.slice A0_0 l0_0.length c0_0, .slice (some adH) l0_1.length c0_1], .slice AI (xs.take i ++ [.int .i64 a1_0, .slice A1_1 l1_1.length c1_1] :: xs.drop i).length cI] (by rfl) rfl rfl (by (try simp only [List.map_toArray, List.map_cons, List.map_nil]); first | done | rfl | (simp only [List.length_drop, List.length_take]; rfl)) ?_
        have hll_ : (insHole a1_0 l1_1 l0_1).length = (xs.take i ++ [.int .i64 a1_0, .slice A1_1 l1_1.length c1_1] :: xs.drop i).length := HRL.out.1
        rw [← hll_]
        rw [← hll_] at hI_
        refine (impl_Ground_withHoles.calls k A0_0 c0_0 l0_0 (some adH) c0_1 l0_1 AI cI (insHole a1_0 l1_1 l0_1) g1 g2 _ (Kd.C_below HR0_0.out ST.out.b) HC0_0.out (Kd.C_below HR0_1.out ST.out.b) HC0_1.out (raw_back hI_.2.2 HRL.out.1 (fun j x c h1 h2 => k36.K_below ST.out.b (HRL.out.2 j x c h1 h2))) hI_.2.1 HWH.out).mono ?_
        rintro e w27 ⟨v0, v1, rfl, ho0, ho1, hb⟩
        refine ⟨_, rfl, ?_⟩
        have ST_ := Aside0.mk (StA.below ST.out hb)
        have HA_ := Aside0.mk (blk_below HA.out hb)
        have HV0 := Aside0.mk (Kd.R_lower ho0 ST.out.b.size)
        have HV1 := Aside0.mk (Kd.S_lower ho1 ST.out.b.size)
        clear hb ho0 ho1 hI_ hll_
        clear ST HA
        have ST := ST_
        have HA := HA_
        clear ST_ HA_
        clear HI
        refine hK.out _ _ ⟨(blk_cell ST.out.g 0).trans rfl, (blk_cell ST.out.g 1).trans rfl, (blk_cell ST.out.h 0).trans rfl, (blk_cell ST.out.h 1).trans rfl⟩ (fun hHeld => ?_)
        clear hK K
        refine norm_ (a' := ?_) ?_ ?_
        rotate_left
        ·show Act.put _ (some 29) _ = _
         simp only [Act.put, qa_, qz_, qs_, i64_w, i32_w]
         rfl
        exact norm_ (by simp only [putAll, Act.put, qa_, qz_, qs_]) (hCont (vC, gB, .slice AI (insHole a1_0 l1_1 l0_1).length cI, v0, v1, gA) _ ⟨hHeld, ST.out, HV0.out, HV1.out, HA.out, NA.out⟩)
      ·skip
       refine box_step ?hg (N := 7) ?hd (cs := #[.slice none 0 0, .slice none 0 0]) (t := 32) ?hr ?_; (case hd => rfl); (case hg => rfl); (case hr => first | (go_simp; done) | (go_simp; rfl))
       intro gA hgA w28 hbox hb
       have NA := Aside0.mk (show N0 ≤ gA by rw [hgA]; exact ST.out.n)
       have ST_ := Aside0.mk (StA.below ST.out hb)
       have HC_ := Aside0.mk (Kd.R_below HC.out hb)
       have HS_ := Aside0.mk (blk_below HS.out hb)
       have HA := Aside0.mk hbox
       clear hb hbox hgA
       clear ST HC HS
       have ST := ST_
       have HC := HC_
       have HS := HS_
       clear ST_ HC_ HS_
       refine hK.out _ _ ⟨(blk_cell ST.out.g 0).trans rfl, (blk_cell ST.out.g 1).trans rfl, (blk_cell ST.out.h 0).trans rfl, (blk_cell ST.out.h 1).trans rfl⟩ (fun hHeld => ?_)
       clear hK K
       refine norm_ (a' := ?_) ?_ ?_
       rotate_left
       ·show Act.put _ (some 7) _ = _
        simp only [Act.put, qa_, qz_, qs_, i64_w, i32_w]
        rfl
       refine one_ (i := 7) (N := some 28) p8_47015 rfl rfl (by kernel_rfl) (by decide) (fun K hK => ?_)
       refine goes_ Try.func26 (by kernel_rfl) rfl #[vC, .int .i64 (i : Int), .slice (some ⟨gB, 0, none⟩) 1 1] (by rfl) rfl rfl (by (try simp only [List.map_toArray, List.map_cons, List.map_nil]); first | done | rfl | (simp only [List.length_drop, List.length_take]; rfl)) ?_
       refine (insert_Hole vC xs w.heap.size gB i [.int .i64 a1_0, .slice A1_1 l1_1.length c1_1] _ (Kd.R_mono HC.out (fun _ _ => trivial)) HS.out NE.out rfl (by intro v hv; simp at hv; rcases hv with rfl | rfl <;> rfl) ST.out.b.size (by rw [HXL.out]; exact hl1) (by rw [HXL.out]; exact hl2) (by rw [HXL.out]; exact HIX.out.1)).mono ?_
       rintro e w29 ⟨vI, rfl, ho, hg⟩
       refine ⟨_, rfl, ?_⟩
       have ST_ := Aside0.mk (StA.grown ST.out hg (fun k e => HC.out.1 k e) (Kd.R_base HC.out))
       have HA_ := Aside0.mk ((hg.block gA (blk_lt HA.out) (Kd.R_ne HC.out HA.out (by decide))).trans HA.out)
       have HI := Aside0.mk ho
       clear ho hg HC HS NE
       clear ST HA
       have ST := ST_
       have HA := HA_
       clear ST_ HA_
       refine hK.out _ _ ⟨(blk_cell ST.out.g 0).trans rfl, (blk_cell ST.out.g 1).trans rfl, (blk_cell ST.out.h 0).trans rfl, (blk_cell ST.out.h 1).trans rfl⟩ (fun hHeld => ?_)
       clear hK K
       refine norm_ (a' := ?_) ?_ ?_
       rotate_left
       ·show Act.put _ (some 28) _ = _
        simp only [Act.put, qa_, qz_, qs_, i64_w, i32_w]
        rfl
       refine one_ (i := 8) (N := some 29) p8_47006 rfl rfl (by kernel_rfl) (by decide) (fun K hK => ?_)
       obtain ⟨AI, cI, eI⟩ := Kd.R_slice HI.out
       subst eI
       have hI_ := Kd.R_reads' HI.out
       refine goes_ Try.func25 (by kernel_rfl) rfl #[.agg #[.slice A0_0 l0_0.length c0_0, .slice (some adH) l0_1.length c0_1], .slice AI (xs.take i ++ [.int .i64 a1_0, .slice A1_1 l1_1.length c1_1] :: xs.drop i).length cI] (by rfl) rfl rfl (by (try simp only [List.map_toArray, List.map_cons, List.map_nil]); first | done | rfl | (simp only [List.length_drop, List.length_take]; rfl)) ?_
       have hll_ : (insHole a1_0 l1_1 l0_1).length = (xs.take i ++ [.int .i64 a1_0, .slice A1_1 l1_1.length c1_1] :: xs.drop i).length := HRL.out.1
       rw [← hll_]
       rw [← hll_] at hI_
       refine (impl_Ground_withHoles.calls k A0_0 c0_0 l0_0 (some adH) c0_1 l0_1 AI cI (insHole a1_0 l1_1 l0_1) g1 g2 _ (Kd.C_below HR0_0.out ST.out.b) HC0_0.out (Kd.C_below HR0_1.out ST.out.b) HC0_1.out (raw_back hI_.2.2 HRL.out.1 (fun j x c h1 h2 => k36.K_below ST.out.b (HRL.out.2 j x c h1 h2))) hI_.2.1 HWH.out).mono ?_
       rintro e w30 ⟨v0, v1, rfl, ho0, ho1, hb⟩
       refine ⟨_, rfl, ?_⟩
       have ST_ := Aside0.mk (StA.below ST.out hb)
       have HA_ := Aside0.mk (blk_below HA.out hb)
       have HV0 := Aside0.mk (Kd.R_lower ho0 ST.out.b.size)
       have HV1 := Aside0.mk (Kd.S_lower ho1 ST.out.b.size)
       clear hb ho0 ho1 hI_ hll_
       clear ST HA
       have ST := ST_
       have HA := HA_
       clear ST_ HA_
       clear HI
       refine hK.out _ _ ⟨(blk_cell ST.out.g 0).trans rfl, (blk_cell ST.out.g 1).trans rfl, (blk_cell ST.out.h 0).trans rfl, (blk_cell ST.out.h 1).trans rfl⟩ (fun hHeld => ?_)
       clear hK K
       refine norm_ (a' := ?_) ?_ ?_
       rotate_left
       ·show Act.put _ (some 29) _ = _
        simp only [Act.put, qa_, qz_, qs_, i64_w, i32_w]
        rfl
       exact norm_ (by simp only [putAll, Act.put, qa_, qz_, qs_]) (hCont (vC, gB, .slice AI (insHole a1_0 l1_1 l0_1).length cI, v0, v1, gA) _ ⟨hHeld, ST.out, HV0.out, HV1.out, HA.out, NA.out⟩)
     ·skip
      refine box_step ?hg (N := 7) ?hd (cs := #[.slice none 0 0, .slice none 0 0]) (t := 32) ?hr ?_; (case hd => rfl); (case hg => rfl); (case hr => first | (go_simp; done) | (go_simp; rfl))
      intro gA hgA w31 hbox hb
      have NA := Aside0.mk (show N0 ≤ gA by rw [hgA]; exact ST.out.n)
      have ST_ := Aside0.mk (StA.below ST.out hb)
      have HC_ := Aside0.mk (Kd.R_below HC.out hb)
      have HA := Aside0.mk hbox
      clear hb hbox hgA
      clear ST HC
      have ST := ST_
      have HC := HC_
      clear ST_ HC_
      refine hK.out _ _ ⟨(blk_cell ST.out.g 0).trans rfl, (blk_cell ST.out.g 1).trans rfl, (blk_cell ST.out.h 0).trans rfl, (blk_cell ST.out.h 1).trans rfl⟩ (fun hHeld => ?_)
      clear hK K
      refine norm_ (a' := ?_) ?_ ?_
      rotate_left
      ·show Act.put _ (some 7) _ = _
       simp only [Act.put, qa_, qz_, qs_, i64_w, i32_w]
       rfl
      refine one_ (i := 6) (N := some 27) p8_47013 rfl rfl (by kernel_rfl) (by decide) (fun K hK => ?_)
      refine lit1_step ?hg (N := 27) ?hd (cs := #[.int .i64 a1_0, .slice A1_1 l1_1.length c1_1]) (t := 36) ?hr ?_; (case hd => rfl); (case hg => rfl); (case hr => first | (go_simp; done) | (go_simp; rfl))
      intro gB hgB w32 hbox hb
      have NE := Aside0.mk (show (vC : Value).ownBlock ≠ some gB from fun e => by have h1 := Kd.R_lt HC.out gB e; omega)
      have ST_ := Aside0.mk (StA.below ST.out hb)
      have HC_ := Aside0.mk (Kd.R_below HC.out hb)
      have HA_ := Aside0.mk (blk_below HA.out hb)
      have HS := Aside0.mk hbox
      clear hb hbox hgB
      clear ST HC HA
      have ST := ST_
      have HC := HC_
      have HA := HA_
      clear ST_ HC_ HA_
      refine hK.out _ _ ⟨(blk_cell ST.out.g 0).trans rfl, (blk_cell ST.out.g 1).trans rfl, (blk_cell ST.out.h 0).trans rfl, (blk_cell ST.out.h 1).trans rfl⟩ (fun hHeld => ?_)
      clear hK K
      refine norm_ (a' := ?_) ?_ ?_
      rotate_left
      ·show Act.put _ (some 27) _ = _
       simp only [Act.put, qa_, qz_, qs_, i64_w, i32_w]
       rfl
      refine one_ (i := 7) (N := some 28) p8_47015 rfl rfl (by kernel_rfl) (by decide) (fun K hK => ?_)
      refine goes_ Try.func26 (by kernel_rfl) rfl #[vC, .int .i64 (i : Int), .slice (some ⟨gB, 0, none⟩) 1 1] (by rfl) rfl rfl (by (try simp only [List.map_toArray, List.map_cons, List.map_nil]); first | done | rfl | (simp only [List.length_drop, List.length_take]; rfl)) ?_
      refine (insert_Hole vC xs w.heap.size gB i [.int .i64 a1_0, .slice A1_1 l1_1.length c1_1] _ (Kd.R_mono HC.out (fun _ _ => trivial)) HS.out NE.out rfl (by intro v hv; simp at hv; rcases hv with rfl | rfl <;> rfl) ST.out.b.size (by rw [HXL.out]; exact hl1) (by rw [HXL.out]; exact hl2) (by rw [HXL.out]; exact HIX.out.1)).mono ?_
      rintro e w33 ⟨vI, rfl, ho, hg⟩
      refine ⟨_, rfl, ?_⟩
      have ST_ := Aside0.mk (StA.grown ST.out hg (fun k e => HC.out.1 k e) (Kd.R_base HC.out))
      have HA_ := Aside0.mk ((hg.block gA (blk_lt HA.out) (Kd.R_ne HC.out HA.out (by decide))).trans HA.out)
      have HI := Aside0.mk ho
      clear ho hg HC HS NE
      clear ST HA
      have ST := ST_
      have HA := HA_
      clear ST_ HA_
      refine hK.out _ _ ⟨(blk_cell ST.out.g 0).trans rfl, (blk_cell ST.out.g 1).trans rfl, (blk_cell ST.out.h 0).trans rfl, (blk_cell ST.out.h 1).trans rfl⟩ (fun hHeld => ?_)
      clear hK K
      refine norm_ (a' := ?_) ?_ ?_
      rotate_left
      ·show Act.put _ (some 28) _ = _
       simp only [Act.put, qa_, qz_, qs_, i64_w, i32_w]
       rfl
      refine one_ (i := 8) (N := some 29) p8_47006 rfl rfl (by kernel_rfl) (by decide) (fun K hK => ?_)
      obtain ⟨AI, cI, eI⟩ := Kd.R_slice HI.out
      subst eI
      have hI_ := Kd.R_reads' HI.out
      refine goes_ Try.func25 (by kernel_rfl) rfl #[.agg #[.slice A0_0 l0_0.length c0_0, .slice (some adH) l0_1.length c0_1], .slice AI (xs.take i ++ [.int .i64 a1_0, .slice A1_1 l1_1.length c1_1] :: xs.drop i).length cI] (by rfl) rfl rfl (by (try simp only [List.map_toArray, List.map_cons, List.map_nil]); first | done | rfl | (simp only [List.length_drop, List.length_take]; rfl)) ?_
      have hll_ : (insHole a1_0 l1_1 l0_1).length = (xs.take i ++ [.int .i64 a1_0, .slice A1_1 l1_1.length c1_1] :: xs.drop i).length := HRL.out.1
      rw [← hll_]
      rw [← hll_] at hI_
      refine (impl_Ground_withHoles.calls k A0_0 c0_0 l0_0 (some adH) c0_1 l0_1 AI cI (insHole a1_0 l1_1 l0_1) g1 g2 _ (Kd.C_below HR0_0.out ST.out.b) HC0_0.out (Kd.C_below HR0_1.out ST.out.b) HC0_1.out (raw_back hI_.2.2 HRL.out.1 (fun j x c h1 h2 => k36.K_below ST.out.b (HRL.out.2 j x c h1 h2))) hI_.2.1 HWH.out).mono ?_
      rintro e w34 ⟨v0, v1, rfl, ho0, ho1, hb⟩
      refine ⟨_, rfl, ?_⟩
      have ST_ := Aside0.mk (StA.below ST.out hb)
      have HA_ := Aside0.mk (blk_below HA.out hb)
      have HV0 := Aside0.mk (Kd.R_lower ho0 ST.out.b.size)
      have HV1 := Aside0.mk (Kd.S_lower ho1 ST.out.b.size)
      clear hb ho0 ho1 hI_ hll_
      clear ST HA
      have ST := ST_
      have HA := HA_
      clear ST_ HA_
      clear HI
      refine hK.out _ _ ⟨(blk_cell ST.out.g 0).trans rfl, (blk_cell ST.out.g 1).trans rfl, (blk_cell ST.out.h 0).trans rfl, (blk_cell ST.out.h 1).trans rfl⟩ (fun hHeld => ?_)
      clear hK K
      refine norm_ (a' := ?_) ?_ ?_
      rotate_left
      ·show Act.put _ (some 29) _ = _
       simp only [Act.put, qa_, qz_, qs_, i64_w, i32_w]
       rfl
      exact norm_ (by simp only [putAll, Act.put, qa_, qz_, qs_]) (hCont (vC, gB, .slice AI (insHole a1_0 l1_1 l0_1).length cI, v0, v1, gA) _ ⟨hHeld, ST.out, HV0.out, HV1.out, HA.out, NA.out⟩)
    ·skip
     refine lit1_step ?hg (N := 27) ?hd (cs := #[.int .i64 a1_0, .slice A1_1 l1_1.length c1_1]) (t := 36) ?hr ?_; (case hd => rfl); (case hg => rfl); (case hr => first | (go_simp; done) | (go_simp; rfl))
     intro gB hgB w35 hbox hb
     have ST_ := Aside0.mk (StA.below ST.out hb)
     have HS := Aside0.mk hbox
     clear hb hbox hgB
     clear ST
     have ST := ST_
     clear ST_
     refine hK.out _ _ ⟨(blk_cell ST.out.g 0).trans rfl, (blk_cell ST.out.g 1).trans rfl, (blk_cell ST.out.h 0).trans rfl, (blk_cell ST.out.h 1).trans rfl⟩ (fun hHeld => ?_)
     clear hK K
     refine norm_ (a' := ?_) ?_ ?_
     rotate_left
     ·show Act.put _ (some 27) _ = _
      simp only [Act.put, qa_, qz_, qs_, i64_w, i32_w]
      rfl
     refine two_ (i := 3) (j := 9) (Ni := some 24) (Nj := some 7) p8_47010 p8_47016 rfl rfl rfl rfl (by kernel_rfl) (by decide) (by decide) (fun K hK => ?_) (fun K hK => ?_)
     ·skip
      refine goes_ Try.func27 (by kernel_rfl) rfl #[.slice (some adH) l0_1.length c0_1] (by rfl) rfl rfl (by (try simp only [List.map_toArray, List.map_cons, List.map_nil]); first | done | rfl | (simp only [List.length_drop, List.length_take]; rfl)) ?_
      refine (slices_Clone_Hole.calls' adH c0_1 xs l0_1.length HXL.out _ (Kd.C_below HX.out ST.out.b) (by rw [HXL.out]; exact HC0_1.out) (by rw [HXL.out]; exact hl1) (by rw [HXL.out]; exact hl2)).mono ?_
      rintro e w36 ⟨vC, rfl, ho, hb⟩
      refine ⟨_, rfl, ?_⟩
      have hn_ := ST.out.n
      have NE := Aside0.mk (show (vC : Value).ownBlock ≠ some gB from fun e => by have h1 := Kd.R_base ho gB e; have h2 := blk_lt HS.out; omega)
      have ST_ := Aside0.mk (StA.below ST.out hb)
      have HS_ := Aside0.mk (blk_below HS.out hb)
      have HC := Aside0.mk (Kd.R_lower (Kd.R_mono (ok' := fun q => N0 ≤ q) (Kd.R_bound ho) (fun q hq => Nat.le_trans hn_ hq.2.1)) ST.out.b.size)
      clear hn_
      clear hb ho
      clear ST HS
      have ST := ST_
      have HS := HS_
      clear ST_ HS_
      refine hK.out _ _ ⟨(blk_cell ST.out.g 0).trans rfl, (blk_cell ST.out.g 1).trans rfl, (blk_cell ST.out.h 0).trans rfl, (blk_cell ST.out.h 1).trans rfl⟩ (fun hHeld => ?_)
      clear hK K
      refine norm_ (a' := ?_) ?_ ?_
      rotate_left
      ·show Act.put _ (some 24) _ = _
       simp only [Act.put, qa_, qz_, qs_, i64_w, i32_w]
       rfl
      refine two_ (i := 7) (j := 9) (Ni := some 28) (Nj := some 7) p8_47012 p8_47013 rfl rfl rfl rfl (by kernel_rfl) (by decide) (by decide) (fun K hK => ?_) (fun K hK => ?_)
      ·skip
       refine goes_ Try.func26 (by kernel_rfl) rfl #[vC, .int .i64 (i : Int), .slice (some ⟨gB, 0, none⟩) 1 1] (by rfl) rfl rfl (by (try simp only [List.map_toArray, List.map_cons, List.map_nil]); first | done | rfl | (simp only [List.length_drop, List.length_take]; rfl)) ?_
       refine (insert_Hole vC xs w.heap.size gB i [.int .i64 a1_0, .slice A1_1 l1_1.length c1_1] _ (Kd.R_mono HC.out (fun _ _ => trivial)) HS.out NE.out rfl (by intro v hv; simp at hv; rcases hv with rfl | rfl <;> rfl) ST.out.b.size (by rw [HXL.out]; exact hl1) (by rw [HXL.out]; exact hl2) (by rw [HXL.out]; exact HIX.out.1)).mono ?_
       rintro e w37 ⟨vI, rfl, ho, hg⟩
       refine ⟨_, rfl, ?_⟩
       have ST_ := Aside0.mk (StA.grown ST.out hg (fun k e => HC.out.1 k e) (Kd.R_base HC.out))
       have HI := Aside0.mk ho
       clear ho hg HC HS NE
       clear ST
       have ST := ST_
       clear ST_
       refine hK.out _ _ ⟨(blk_cell ST.out.g 0).trans rfl, (blk_cell ST.out.g 1).trans rfl, (blk_cell ST.out.h 0).trans rfl, (blk_cell ST.out.h 1).trans rfl⟩ (fun hHeld => ?_)
       clear hK K
       refine norm_ (a' := ?_) ?_ ?_
       rotate_left
       ·show Act.put _ (some 28) _ = _
        simp only [Act.put, qa_, qz_, qs_, i64_w, i32_w]
        rfl
       refine two_ (i := 8) (j := 9) (Ni := some 29) (Nj := some 7) p8_47014 p8_47015 rfl rfl rfl rfl (by kernel_rfl) (by decide) (by decide) (fun K hK => ?_) (fun K hK => ?_)
       ·skip
        obtain ⟨AI, cI, eI⟩ := Kd.R_slice HI.out
        subst eI
        have hI_ := Kd.R_reads' HI.out
        refine goes_ Try.func25 (by kernel_rfl) rfl #[.agg #[.slice A0_0 l0_0.length c0_0, .slice (some adH) l0_1.length c0_1], .slice AI (xs.take i ++ [.int .i64 a1_0, .slice A1_1 l1_1.length c1_1] :: xs.drop i).length cI] (by rfl) rfl rfl (by (try simp only [List.map_toArray, List.map_cons, List.map_nil]); first | done | rfl | (simp only [List.length_drop, List.length_take]; rfl)) ?_
        have hll_ : (insHole a1_0 l1_1 l0_1).length = (xs.take i ++ [.int .i64 a1_0, .slice A1_1 l1_1.length c1_1] :: xs.drop i).length := HRL.out.1
        rw [← hll_]
        rw [← hll_] at hI_
        refine (impl_Ground_withHoles.calls k A0_0 c0_0 l0_0 (some adH) c0_1 l0_1 AI cI (insHole a1_0 l1_1 l0_1) g1 g2 _ (Kd.C_below HR0_0.out ST.out.b) HC0_0.out (Kd.C_below HR0_1.out ST.out.b) HC0_1.out (raw_back hI_.2.2 HRL.out.1 (fun j x c h1 h2 => k36.K_below ST.out.b (HRL.out.2 j x c h1 h2))) hI_.2.1 HWH.out).mono ?_
        rintro e w38 ⟨v0, v1, rfl, ho0, ho1, hb⟩
        refine ⟨_, rfl, ?_⟩
        have ST_ := Aside0.mk (StA.below ST.out hb)
        have HV0 := Aside0.mk (Kd.R_lower ho0 ST.out.b.size)
        have HV1 := Aside0.mk (Kd.S_lower ho1 ST.out.b.size)
        clear hb ho0 ho1 hI_ hll_
        clear ST
        have ST := ST_
        clear ST_
        clear HI
        refine hK.out _ _ ⟨(blk_cell ST.out.g 0).trans rfl, (blk_cell ST.out.g 1).trans rfl, (blk_cell ST.out.h 0).trans rfl, (blk_cell ST.out.h 1).trans rfl⟩ (fun hHeld => ?_)
        clear hK K
        refine norm_ (a' := ?_) ?_ ?_
        rotate_left
        ·show Act.put _ (some 29) _ = _
         simp only [Act.put, qa_, qz_, qs_, i64_w, i32_w]
         rfl
        refine one_ (i := 9) (N := some 7) p8_47006 rfl rfl (by kernel_rfl) (by decide) (fun K hK => ?_)
        refine box_step ?hg (N := 7) ?hd (cs := #[.slice none 0 0, .slice none 0 0]) (t := 32) ?hr ?_; (case hd => rfl); (case hg => rfl); (case hr => first | (go_simp; done) | (go_simp; rfl))
        intro gA hgA w39 hbox hb
        have NA := Aside0.mk (show N0 ≤ gA by rw [hgA]; exact ST.out.n)
        have ST_ := Aside0.mk (StA.below ST.out hb)
        have HV0_ := Aside0.mk (Kd.R_below HV0.out hb)
        have HV1_ := Aside0.mk (Kd.S_below HV1.out hb)
        have HA := Aside0.mk hbox
        clear hb hbox hgA
        clear ST HV0 HV1
        have ST := ST_
        have HV0 := HV0_
        have HV1 := HV1_
        clear ST_ HV0_ HV1_
        refine hK.out _ _ ⟨(blk_cell ST.out.g 0).trans rfl, (blk_cell ST.out.g 1).trans rfl, (blk_cell ST.out.h 0).trans rfl, (blk_cell ST.out.h 1).trans rfl⟩ (fun hHeld => ?_)
        clear hK K
        refine norm_ (a' := ?_) ?_ ?_
        rotate_left
        ·show Act.put _ (some 7) _ = _
         simp only [Act.put, qa_, qz_, qs_, i64_w, i32_w]
         rfl
        exact norm_ (by simp only [putAll, Act.put, qa_, qz_, qs_]) (hCont (vC, gB, .slice AI (insHole a1_0 l1_1 l0_1).length cI, v0, v1, gA) _ ⟨hHeld, ST.out, HV0.out, HV1.out, HA.out, NA.out⟩)
       ·skip
        refine box_step ?hg (N := 7) ?hd (cs := #[.slice none 0 0, .slice none 0 0]) (t := 32) ?hr ?_; (case hd => rfl); (case hg => rfl); (case hr => first | (go_simp; done) | (go_simp; rfl))
        intro gA hgA w40 hbox hb
        have NA := Aside0.mk (show N0 ≤ gA by rw [hgA]; exact ST.out.n)
        have ST_ := Aside0.mk (StA.below ST.out hb)
        have HI_ := Aside0.mk (Kd.R_below HI.out hb)
        have HA := Aside0.mk hbox
        clear hb hbox hgA
        clear ST HI
        have ST := ST_
        have HI := HI_
        clear ST_ HI_
        refine hK.out _ _ ⟨(blk_cell ST.out.g 0).trans rfl, (blk_cell ST.out.g 1).trans rfl, (blk_cell ST.out.h 0).trans rfl, (blk_cell ST.out.h 1).trans rfl⟩ (fun hHeld => ?_)
        clear hK K
        refine norm_ (a' := ?_) ?_ ?_
        rotate_left
        ·show Act.put _ (some 7) _ = _
         simp only [Act.put, qa_, qz_, qs_, i64_w, i32_w]
         rfl
        refine one_ (i := 8) (N := some 29) p8_47006 rfl rfl (by kernel_rfl) (by decide) (fun K hK => ?_)
        obtain ⟨AI, cI, eI⟩ := Kd.R_slice HI.out
        subst eI
        have hI_ := Kd.R_reads' HI.out
        refine goes_ Try.func25 (by kernel_rfl) rfl #[.agg #[.slice A0_0 l0_0.length c0_0, .slice (some adH) l0_1.length c0_1], .slice AI (xs.take i ++ [.int .i64 a1_0, .slice A1_1 l1_1.length c1_1] :: xs.drop i).length cI] (by rfl) rfl rfl (by (try simp only [List.map_toArray, List.map_cons, List.map_nil]); first | done | rfl | (simp only [List.length_drop, List.length_take]; rfl)) ?_
        have hll_ : (insHole a1_0 l1_1 l0_1).length = (xs.take i ++ [.int .i64 a1_0, .slice A1_1 l1_1.length c1_1] :: xs.drop i).length := HRL.out.1
        rw [← hll_]
        rw [← hll_] at hI_
        refine (impl_Ground_withHoles.calls k A0_0 c0_0 l0_0 (some adH) c0_1 l0_1 AI cI (insHole a1_0 l1_1 l0_1) g1 g2 _ (Kd.C_below HR0_0.out ST.out.b) HC0_0.out (Kd.C_below HR0_1.out ST.out.b) HC0_1.out (raw_back hI_.2.2 HRL.out.1 (fun j x c h1 h2 => k36.K_below ST.out.b (HRL.out.2 j x c h1 h2))) hI_.2.1 HWH.out).mono ?_
        rintro e w41 ⟨v0, v1, rfl, ho0, ho1, hb⟩
        refine ⟨_, rfl, ?_⟩
        have ST_ := Aside0.mk (StA.below ST.out hb)
        have HA_ := Aside0.mk (blk_below HA.out hb)
        have HV0 := Aside0.mk (Kd.R_lower ho0 ST.out.b.size)
        have HV1 := Aside0.mk (Kd.S_lower ho1 ST.out.b.size)
        clear hb ho0 ho1 hI_ hll_
        clear ST HA
        have ST := ST_
        have HA := HA_
        clear ST_ HA_
        clear HI
        refine hK.out _ _ ⟨(blk_cell ST.out.g 0).trans rfl, (blk_cell ST.out.g 1).trans rfl, (blk_cell ST.out.h 0).trans rfl, (blk_cell ST.out.h 1).trans rfl⟩ (fun hHeld => ?_)
        clear hK K
        refine norm_ (a' := ?_) ?_ ?_
        rotate_left
        ·show Act.put _ (some 29) _ = _
         simp only [Act.put, qa_, qz_, qs_, i64_w, i32_w]
         rfl
        exact norm_ (by simp only [putAll, Act.put, qa_, qz_, qs_]) (hCont (vC, gB, .slice AI (insHole a1_0 l1_1 l0_1).length cI, v0, v1, gA) _ ⟨hHeld, ST.out, HV0.out, HV1.out, HA.out, NA.out⟩)
      ·skip
       refine box_step ?hg (N := 7) ?hd (cs := #[.slice none 0 0, .slice none 0 0]) (t := 32) ?hr ?_; (case hd => rfl); (case hg => rfl); (case hr => first | (go_simp; done) | (go_simp; rfl))
       intro gA hgA w42 hbox hb
       have NA := Aside0.mk (show N0 ≤ gA by rw [hgA]; exact ST.out.n)
       have ST_ := Aside0.mk (StA.below ST.out hb)
       have HC_ := Aside0.mk (Kd.R_below HC.out hb)
       have HS_ := Aside0.mk (blk_below HS.out hb)
       have HA := Aside0.mk hbox
       clear hb hbox hgA
       clear ST HC HS
       have ST := ST_
       have HC := HC_
       have HS := HS_
       clear ST_ HC_ HS_
       refine hK.out _ _ ⟨(blk_cell ST.out.g 0).trans rfl, (blk_cell ST.out.g 1).trans rfl, (blk_cell ST.out.h 0).trans rfl, (blk_cell ST.out.h 1).trans rfl⟩ (fun hHeld => ?_)
       clear hK K
       refine norm_ (a' := ?_) ?_ ?_
       rotate_left
       ·show Act.put _ (some 7) _ = _
        simp only [Act.put, qa_, qz_, qs_, i64_w, i32_w]
        rfl
       refine one_ (i := 7) (N := some 28) p8_47015 rfl rfl (by kernel_rfl) (by decide) (fun K hK => ?_)
       refine goes_ Try.func26 (by kernel_rfl) rfl #[vC, .int .i64 (i : Int), .slice (some ⟨gB, 0, none⟩) 1 1] (by rfl) rfl rfl (by (try simp only [List.map_toArray, List.map_cons, List.map_nil]); first | done | rfl | (simp only [List.length_drop, List.length_take]; rfl)) ?_
       refine (insert_Hole vC xs w.heap.size gB i [.int .i64 a1_0, .slice A1_1 l1_1.length c1_1] _ (Kd.R_mono HC.out (fun _ _ => trivial)) HS.out NE.out rfl (by intro v hv; simp at hv; rcases hv with rfl | rfl <;> rfl) ST.out.b.size (by rw [HXL.out]; exact hl1) (by rw [HXL.out]; exact hl2) (by rw [HXL.out]; exact HIX.out.1)).mono ?_
       rintro e w43 ⟨vI, rfl, ho, hg⟩
       refine ⟨_, rfl, ?_⟩
       have ST_ := Aside0.mk (StA.grown ST.out hg (fun k e => HC.out.1 k e) (Kd.R_base HC.out))
       have HA_ := Aside0.mk ((hg.block gA (blk_lt HA.out) (Kd.R_ne HC.out HA.out (by decide))).trans HA.out)
       have HI := Aside0.mk ho
       clear ho hg HC HS NE
       clear ST HA
       have ST := ST_
       have HA := HA_
       clear ST_ HA_
       refine hK.out _ _ ⟨(blk_cell ST.out.g 0).trans rfl, (blk_cell ST.out.g 1).trans rfl, (blk_cell ST.out.h 0).trans rfl, (blk_cell ST.out.h 1).trans rfl⟩ (fun hHeld => ?_)
       clear hK K
       refine norm_ (a' := ?_) ?_ ?_
       rotate_left
       ·show Act.put _ (some 28) _ = _
        simp only [Act.put, qa_, qz_, qs_, i64_w, i32_w]
        rfl
       refine one_ (i := 8) (N := some 29) p8_47006 rfl rfl (by kernel_rfl) (by decide) (fun K hK => ?_)
       obtain ⟨AI, cI, eI⟩ := Kd.R_slice HI.out
       subst eI
       have hI_ := Kd.R_reads' HI.out
       refine goes_ Try.func25 (by kernel_rfl) rfl #[.agg #[.slice A0_0 l0_0.length c0_0, .slice (some adH) l0_1.length c0_1], .slice AI (xs.take i ++ [.int .i64 a1_0, .slice A1_1 l1_1.length c1_1] :: xs.drop i).length cI] (by rfl) rfl rfl (by (try simp only [List.map_toArray, List.map_cons, List.map_nil]); first | done | rfl | (simp only [List.length_drop, List.length_take]; rfl)) ?_
       have hll_ : (insHole a1_0 l1_1 l0_1).length = (xs.take i ++ [.int .i64 a1_0, .slice A1_1 l1_1.length c1_1] :: xs.drop i).length := HRL.out.1
       rw [← hll_]
       rw [← hll_] at hI_
       refine (impl_Ground_withHoles.calls k A0_0 c0_0 l0_0 (some adH) c0_1 l0_1 AI cI (insHole a1_0 l1_1 l0_1) g1 g2 _ (Kd.C_below HR0_0.out ST.out.b) HC0_0.out (Kd.C_below HR0_1.out ST.out.b) HC0_1.out (raw_back hI_.2.2 HRL.out.1 (fun j x c h1 h2 => k36.K_below ST.out.b (HRL.out.2 j x c h1 h2))) hI_.2.1 HWH.out).mono ?_
       rintro e w44 ⟨v0, v1, rfl, ho0, ho1, hb⟩
       refine ⟨_, rfl, ?_⟩
       have ST_ := Aside0.mk (StA.below ST.out hb)
       have HA_ := Aside0.mk (blk_below HA.out hb)
       have HV0 := Aside0.mk (Kd.R_lower ho0 ST.out.b.size)
       have HV1 := Aside0.mk (Kd.S_lower ho1 ST.out.b.size)
       clear hb ho0 ho1 hI_ hll_
       clear ST HA
       have ST := ST_
       have HA := HA_
       clear ST_ HA_
       clear HI
       refine hK.out _ _ ⟨(blk_cell ST.out.g 0).trans rfl, (blk_cell ST.out.g 1).trans rfl, (blk_cell ST.out.h 0).trans rfl, (blk_cell ST.out.h 1).trans rfl⟩ (fun hHeld => ?_)
       clear hK K
       refine norm_ (a' := ?_) ?_ ?_
       rotate_left
       ·show Act.put _ (some 29) _ = _
        simp only [Act.put, qa_, qz_, qs_, i64_w, i32_w]
        rfl
       exact norm_ (by simp only [putAll, Act.put, qa_, qz_, qs_]) (hCont (vC, gB, .slice AI (insHole a1_0 l1_1 l0_1).length cI, v0, v1, gA) _ ⟨hHeld, ST.out, HV0.out, HV1.out, HA.out, NA.out⟩)
     ·skip
      refine box_step ?hg (N := 7) ?hd (cs := #[.slice none 0 0, .slice none 0 0]) (t := 32) ?hr ?_; (case hd => rfl); (case hg => rfl); (case hr => first | (go_simp; done) | (go_simp; rfl))
      intro gA hgA w45 hbox hb
      have NA := Aside0.mk (show N0 ≤ gA by rw [hgA]; exact ST.out.n)
      have ST_ := Aside0.mk (StA.below ST.out hb)
      have HS_ := Aside0.mk (blk_below HS.out hb)
      have HA := Aside0.mk hbox
      clear hb hbox hgA
      clear ST HS
      have ST := ST_
      have HS := HS_
      clear ST_ HS_
      refine hK.out _ _ ⟨(blk_cell ST.out.g 0).trans rfl, (blk_cell ST.out.g 1).trans rfl, (blk_cell ST.out.h 0).trans rfl, (blk_cell ST.out.h 1).trans rfl⟩ (fun hHeld => ?_)
      clear hK K
      refine norm_ (a' := ?_) ?_ ?_
      rotate_left
      ·show Act.put _ (some 7) _ = _
       simp only [Act.put, qa_, qz_, qs_, i64_w, i32_w]
       rfl
      refine one_ (i := 3) (N := some 24) p8_47013 rfl rfl (by kernel_rfl) (by decide) (fun K hK => ?_)
      refine goes_ Try.func27 (by kernel_rfl) rfl #[.slice (some adH) l0_1.length c0_1] (by rfl) rfl rfl (by (try simp only [List.map_toArray, List.map_cons, List.map_nil]); first | done | rfl | (simp only [List.length_drop, List.length_take]; rfl)) ?_
      refine (slices_Clone_Hole.calls' adH c0_1 xs l0_1.length HXL.out _ (Kd.C_below HX.out ST.out.b) (by rw [HXL.out]; exact HC0_1.out) (by rw [HXL.out]; exact hl1) (by rw [HXL.out]; exact hl2)).mono ?_
      rintro e w46 ⟨vC, rfl, ho, hb⟩
      refine ⟨_, rfl, ?_⟩
      have hn_ := ST.out.n
      have NE := Aside0.mk (show (vC : Value).ownBlock ≠ some gB from fun e => by have h1 := Kd.R_base ho gB e; have h2 := blk_lt HS.out; omega)
      have ST_ := Aside0.mk (StA.below ST.out hb)
      have HS_ := Aside0.mk (blk_below HS.out hb)
      have HA_ := Aside0.mk (blk_below HA.out hb)
      have HC := Aside0.mk (Kd.R_lower (Kd.R_mono (ok' := fun q => N0 ≤ q) (Kd.R_bound ho) (fun q hq => Nat.le_trans hn_ hq.2.1)) ST.out.b.size)
      clear hn_
      clear hb ho
      clear ST HS HA
      have ST := ST_
      have HS := HS_
      have HA := HA_
      clear ST_ HS_ HA_
      refine hK.out _ _ ⟨(blk_cell ST.out.g 0).trans rfl, (blk_cell ST.out.g 1).trans rfl, (blk_cell ST.out.h 0).trans rfl, (blk_cell ST.out.h 1).trans rfl⟩ (fun hHeld => ?_)
      clear hK K
      refine norm_ (a' := ?_) ?_ ?_
      rotate_left
      ·show Act.put _ (some 24) _ = _
       simp only [Act.put, qa_, qz_, qs_, i64_w, i32_w]
       rfl
      refine one_ (i := 7) (N := some 28) p8_47015 rfl rfl (by kernel_rfl) (by decide) (fun K hK => ?_)
      refine goes_ Try.func26 (by kernel_rfl) rfl #[vC, .int .i64 (i : Int), .slice (some ⟨gB, 0, none⟩) 1 1] (by rfl) rfl rfl (by (try simp only [List.map_toArray, List.map_cons, List.map_nil]); first | done | rfl | (simp only [List.length_drop, List.length_take]; rfl)) ?_
      refine (insert_Hole vC xs w.heap.size gB i [.int .i64 a1_0, .slice A1_1 l1_1.length c1_1] _ (Kd.R_mono HC.out (fun _ _ => trivial)) HS.out NE.out rfl (by intro v hv; simp at hv; rcases hv with rfl | rfl <;> rfl) ST.out.b.size (by rw [HXL.out]; exact hl1) (by rw [HXL.out]; exact hl2) (by rw [HXL.out]; exact HIX.out.1)).mono ?_
      rintro e w47 ⟨vI, rfl, ho, hg⟩
      refine ⟨_, rfl, ?_⟩
      have ST_ := Aside0.mk (StA.grown ST.out hg (fun k e => HC.out.1 k e) (Kd.R_base HC.out))
      have HA_ := Aside0.mk ((hg.block gA (blk_lt HA.out) (Kd.R_ne HC.out HA.out (by decide))).trans HA.out)
      have HI := Aside0.mk ho
      clear ho hg HC HS NE
      clear ST HA
      have ST := ST_
      have HA := HA_
      clear ST_ HA_
      refine hK.out _ _ ⟨(blk_cell ST.out.g 0).trans rfl, (blk_cell ST.out.g 1).trans rfl, (blk_cell ST.out.h 0).trans rfl, (blk_cell ST.out.h 1).trans rfl⟩ (fun hHeld => ?_)
      clear hK K
      refine norm_ (a' := ?_) ?_ ?_
      rotate_left
      ·show Act.put _ (some 28) _ = _
       simp only [Act.put, qa_, qz_, qs_, i64_w, i32_w]
       rfl
      refine one_ (i := 8) (N := some 29) p8_47006 rfl rfl (by kernel_rfl) (by decide) (fun K hK => ?_)
      obtain ⟨AI, cI, eI⟩ := Kd.R_slice HI.out
      subst eI
      have hI_ := Kd.R_reads' HI.out
      refine goes_ Try.func25 (by kernel_rfl) rfl #[.agg #[.slice A0_0 l0_0.length c0_0, .slice (some adH) l0_1.length c0_1], .slice AI (xs.take i ++ [.int .i64 a1_0, .slice A1_1 l1_1.length c1_1] :: xs.drop i).length cI] (by rfl) rfl rfl (by (try simp only [List.map_toArray, List.map_cons, List.map_nil]); first | done | rfl | (simp only [List.length_drop, List.length_take]; rfl)) ?_
      have hll_ : (insHole a1_0 l1_1 l0_1).length = (xs.take i ++ [.int .i64 a1_0, .slice A1_1 l1_1.length c1_1] :: xs.drop i).length := HRL.out.1
      rw [← hll_]
      rw [← hll_] at hI_
      refine (impl_Ground_withHoles.calls k A0_0 c0_0 l0_0 (some adH) c0_1 l0_1 AI cI (insHole a1_0 l1_1 l0_1) g1 g2 _ (Kd.C_below HR0_0.out ST.out.b) HC0_0.out (Kd.C_below HR0_1.out ST.out.b) HC0_1.out (raw_back hI_.2.2 HRL.out.1 (fun j x c h1 h2 => k36.K_below ST.out.b (HRL.out.2 j x c h1 h2))) hI_.2.1 HWH.out).mono ?_
      rintro e w48 ⟨v0, v1, rfl, ho0, ho1, hb⟩
      refine ⟨_, rfl, ?_⟩
      have ST_ := Aside0.mk (StA.below ST.out hb)
      have HA_ := Aside0.mk (blk_below HA.out hb)
      have HV0 := Aside0.mk (Kd.R_lower ho0 ST.out.b.size)
      have HV1 := Aside0.mk (Kd.S_lower ho1 ST.out.b.size)
      clear hb ho0 ho1 hI_ hll_
      clear ST HA
      have ST := ST_
      have HA := HA_
      clear ST_ HA_
      clear HI
      refine hK.out _ _ ⟨(blk_cell ST.out.g 0).trans rfl, (blk_cell ST.out.g 1).trans rfl, (blk_cell ST.out.h 0).trans rfl, (blk_cell ST.out.h 1).trans rfl⟩ (fun hHeld => ?_)
      clear hK K
      refine norm_ (a' := ?_) ?_ ?_
      rotate_left
      ·show Act.put _ (some 29) _ = _
       simp only [Act.put, qa_, qz_, qs_, i64_w, i32_w]
       rfl
      exact norm_ (by simp only [putAll, Act.put, qa_, qz_, qs_]) (hCont (vC, gB, .slice AI (insHole a1_0 l1_1 l0_1).length cI, v0, v1, gA) _ ⟨hHeld, ST.out, HV0.out, HV1.out, HA.out, NA.out⟩)
    ·skip
     refine box_step ?hg (N := 7) ?hd (cs := #[.slice none 0 0, .slice none 0 0]) (t := 32) ?hr ?_; (case hd => rfl); (case hg => rfl); (case hr => first | (go_simp; done) | (go_simp; rfl))
     intro gA hgA w49 hbox hb
     have NA := Aside0.mk (show N0 ≤ gA by rw [hgA]; exact ST.out.n)
     have ST_ := Aside0.mk (StA.below ST.out hb)
     have HA := Aside0.mk hbox
     clear hb hbox hgA
     clear ST
     have ST := ST_
     clear ST_
     refine hK.out _ _ ⟨(blk_cell ST.out.g 0).trans rfl, (blk_cell ST.out.g 1).trans rfl, (blk_cell ST.out.h 0).trans rfl, (blk_cell ST.out.h 1).trans rfl⟩ (fun hHeld => ?_)
     clear hK K
     refine norm_ (a' := ?_) ?_ ?_
     rotate_left
     ·show Act.put _ (some 7) _ = _
      simp only [Act.put, qa_, qz_, qs_, i64_w, i32_w]
      rfl
     refine two_ (i := 3) (j := 6) (Ni := some 24) (Nj := some 27) p8_47011 p8_47016 rfl rfl rfl rfl (by kernel_rfl) (by decide) (by decide) (fun K hK => ?_) (fun K hK => ?_)
     ·skip
      refine goes_ Try.func27 (by kernel_rfl) rfl #[.slice (some adH) l0_1.length c0_1] (by rfl) rfl rfl (by (try simp only [List.map_toArray, List.map_cons, List.map_nil]); first | done | rfl | (simp only [List.length_drop, List.length_take]; rfl)) ?_
      refine (slices_Clone_Hole.calls' adH c0_1 xs l0_1.length HXL.out _ (Kd.C_below HX.out ST.out.b) (by rw [HXL.out]; exact HC0_1.out) (by rw [HXL.out]; exact hl1) (by rw [HXL.out]; exact hl2)).mono ?_
      rintro e w50 ⟨vC, rfl, ho, hb⟩
      refine ⟨_, rfl, ?_⟩
      have hn_ := ST.out.n
      have ST_ := Aside0.mk (StA.below ST.out hb)
      have HA_ := Aside0.mk (blk_below HA.out hb)
      have HC := Aside0.mk (Kd.R_lower (Kd.R_mono (ok' := fun q => N0 ≤ q) (Kd.R_bound ho) (fun q hq => Nat.le_trans hn_ hq.2.1)) ST.out.b.size)
      clear hn_
      clear hb ho
      clear ST HA
      have ST := ST_
      have HA := HA_
      clear ST_ HA_
      refine hK.out _ _ ⟨(blk_cell ST.out.g 0).trans rfl, (blk_cell ST.out.g 1).trans rfl, (blk_cell ST.out.h 0).trans rfl, (blk_cell ST.out.h 1).trans rfl⟩ (fun hHeld => ?_)
      clear hK K
      refine norm_ (a' := ?_) ?_ ?_
      rotate_left
      ·show Act.put _ (some 24) _ = _
       simp only [Act.put, qa_, qz_, qs_, i64_w, i32_w]
       rfl
      refine one_ (i := 6) (N := some 27) p8_47013 rfl rfl (by kernel_rfl) (by decide) (fun K hK => ?_)
      refine lit1_step ?hg (N := 27) ?hd (cs := #[.int .i64 a1_0, .slice A1_1 l1_1.length c1_1]) (t := 36) ?hr ?_; (case hd => rfl); (case hg => rfl); (case hr => first | (go_simp; done) | (go_simp; rfl))
      intro gB hgB w51 hbox hb
      have NE := Aside0.mk (show (vC : Value).ownBlock ≠ some gB from fun e => by have h1 := Kd.R_lt HC.out gB e; omega)
      have ST_ := Aside0.mk (StA.below ST.out hb)
      have HC_ := Aside0.mk (Kd.R_below HC.out hb)
      have HA_ := Aside0.mk (blk_below HA.out hb)
      have HS := Aside0.mk hbox
      clear hb hbox hgB
      clear ST HC HA
      have ST := ST_
      have HC := HC_
      have HA := HA_
      clear ST_ HC_ HA_
      refine hK.out _ _ ⟨(blk_cell ST.out.g 0).trans rfl, (blk_cell ST.out.g 1).trans rfl, (blk_cell ST.out.h 0).trans rfl, (blk_cell ST.out.h 1).trans rfl⟩ (fun hHeld => ?_)
      clear hK K
      refine norm_ (a' := ?_) ?_ ?_
      rotate_left
      ·show Act.put _ (some 27) _ = _
       simp only [Act.put, qa_, qz_, qs_, i64_w, i32_w]
       rfl
      refine one_ (i := 7) (N := some 28) p8_47015 rfl rfl (by kernel_rfl) (by decide) (fun K hK => ?_)
      refine goes_ Try.func26 (by kernel_rfl) rfl #[vC, .int .i64 (i : Int), .slice (some ⟨gB, 0, none⟩) 1 1] (by rfl) rfl rfl (by (try simp only [List.map_toArray, List.map_cons, List.map_nil]); first | done | rfl | (simp only [List.length_drop, List.length_take]; rfl)) ?_
      refine (insert_Hole vC xs w.heap.size gB i [.int .i64 a1_0, .slice A1_1 l1_1.length c1_1] _ (Kd.R_mono HC.out (fun _ _ => trivial)) HS.out NE.out rfl (by intro v hv; simp at hv; rcases hv with rfl | rfl <;> rfl) ST.out.b.size (by rw [HXL.out]; exact hl1) (by rw [HXL.out]; exact hl2) (by rw [HXL.out]; exact HIX.out.1)).mono ?_
      rintro e w52 ⟨vI, rfl, ho, hg⟩
      refine ⟨_, rfl, ?_⟩
      have ST_ := Aside0.mk (StA.grown ST.out hg (fun k e => HC.out.1 k e) (Kd.R_base HC.out))
      have HA_ := Aside0.mk ((hg.block gA (blk_lt HA.out) (Kd.R_ne HC.out HA.out (by decide))).trans HA.out)
      have HI := Aside0.mk ho
      clear ho hg HC HS NE
      clear ST HA
      have ST := ST_
      have HA := HA_
      clear ST_ HA_
      refine hK.out _ _ ⟨(blk_cell ST.out.g 0).trans rfl, (blk_cell ST.out.g 1).trans rfl, (blk_cell ST.out.h 0).trans rfl, (blk_cell ST.out.h 1).trans rfl⟩ (fun hHeld => ?_)
      clear hK K
      refine norm_ (a' := ?_) ?_ ?_
      rotate_left
      ·show Act.put _ (some 28) _ = _
       simp only [Act.put, qa_, qz_, qs_, i64_w, i32_w]
       rfl
      refine one_ (i := 8) (N := some 29) p8_47006 rfl rfl (by kernel_rfl) (by decide) (fun K hK => ?_)
      obtain ⟨AI, cI, eI⟩ := Kd.R_slice HI.out
      subst eI
      have hI_ := Kd.R_reads' HI.out
      refine goes_ Try.func25 (by kernel_rfl) rfl #[.agg #[.slice A0_0 l0_0.length c0_0, .slice (some adH) l0_1.length c0_1], .slice AI (xs.take i ++ [.int .i64 a1_0, .slice A1_1 l1_1.length c1_1] :: xs.drop i).length cI] (by rfl) rfl rfl (by (try simp only [List.map_toArray, List.map_cons, List.map_nil]); first | done | rfl | (simp only [List.length_drop, List.length_take]; rfl)) ?_
      have hll_ : (insHole a1_0 l1_1 l0_1).length = (xs.take i ++ [.int .i64 a1_0, .slice A1_1 l1_1.length c1_1] :: xs.drop i).length := HRL.out.1
      rw [← hll_]
      rw [← hll_] at hI_
      refine (impl_Ground_withHoles.calls k A0_0 c0_0 l0_0 (some adH) c0_1 l0_1 AI cI (insHole a1_0 l1_1 l0_1) g1 g2 _ (Kd.C_below HR0_0.out ST.out.b) HC0_0.out (Kd.C_below HR0_1.out ST.out.b) HC0_1.out (raw_back hI_.2.2 HRL.out.1 (fun j x c h1 h2 => k36.K_below ST.out.b (HRL.out.2 j x c h1 h2))) hI_.2.1 HWH.out).mono ?_
      rintro e w53 ⟨v0, v1, rfl, ho0, ho1, hb⟩
      refine ⟨_, rfl, ?_⟩
      have ST_ := Aside0.mk (StA.below ST.out hb)
      have HA_ := Aside0.mk (blk_below HA.out hb)
      have HV0 := Aside0.mk (Kd.R_lower ho0 ST.out.b.size)
      have HV1 := Aside0.mk (Kd.S_lower ho1 ST.out.b.size)
      clear hb ho0 ho1 hI_ hll_
      clear ST HA
      have ST := ST_
      have HA := HA_
      clear ST_ HA_
      clear HI
      refine hK.out _ _ ⟨(blk_cell ST.out.g 0).trans rfl, (blk_cell ST.out.g 1).trans rfl, (blk_cell ST.out.h 0).trans rfl, (blk_cell ST.out.h 1).trans rfl⟩ (fun hHeld => ?_)
      clear hK K
      refine norm_ (a' := ?_) ?_ ?_
      rotate_left
      ·show Act.put _ (some 29) _ = _
       simp only [Act.put, qa_, qz_, qs_, i64_w, i32_w]
       rfl
      exact norm_ (by simp only [putAll, Act.put, qa_, qz_, qs_]) (hCont (vC, gB, .slice AI (insHole a1_0 l1_1 l0_1).length cI, v0, v1, gA) _ ⟨hHeld, ST.out, HV0.out, HV1.out, HA.out, NA.out⟩)
     ·skip
      refine lit1_step ?hg (N := 27) ?hd (cs := #[.int .i64 a1_0, .slice A1_1 l1_1.length c1_1]) (t := 36) ?hr ?_; (case hd => rfl); (case hg => rfl); (case hr => first | (go_simp; done) | (go_simp; rfl))
      intro gB hgB w54 hbox hb
      have ST_ := Aside0.mk (StA.below ST.out hb)
      have HA_ := Aside0.mk (blk_below HA.out hb)
      have HS := Aside0.mk hbox
      clear hb hbox hgB
      clear ST HA
      have ST := ST_
      have HA := HA_
      clear ST_ HA_
      refine hK.out _ _ ⟨(blk_cell ST.out.g 0).trans rfl, (blk_cell ST.out.g 1).trans rfl, (blk_cell ST.out.h 0).trans rfl, (blk_cell ST.out.h 1).trans rfl⟩ (fun hHeld => ?_)
      clear hK K
      refine norm_ (a' := ?_) ?_ ?_
      rotate_left
      ·show Act.put _ (some 27) _ = _
       simp only [Act.put, qa_, qz_, qs_, i64_w, i32_w]
       rfl
      refine one_ (i := 3) (N := some 24) p8_47013 rfl rfl (by kernel_rfl) (by decide) (fun K hK => ?_)
      refine goes_ Try.func27 (by kernel_rfl) rfl #[.slice (some adH) l0_1.length c0_1] (by rfl) rfl rfl (by (try simp only [List.map_toArray, List.map_cons, List.map_nil]); first | done | rfl | (simp only [List.length_drop, List.length_take]; rfl)) ?_
      refine (slices_Clone_Hole.calls' adH c0_1 xs l0_1.length HXL.out _ (Kd.C_below HX.out ST.out.b) (by rw [HXL.out]; exact HC0_1.out) (by rw [HXL.out]; exact hl1) (by rw [HXL.out]; exact hl2)).mono ?_
      rintro e w55 ⟨vC, rfl, ho, hb⟩
      refine ⟨_, rfl, ?_⟩
      have hn_ := ST.out.n
      have NE := Aside0.mk (show (vC : Value).ownBlock ≠ some gB from fun e => by have h1 := Kd.R_base ho gB e; have h2 := blk_lt HS.out; omega)
      have ST_ := Aside0.mk (StA.below ST.out hb)
      have HS_ := Aside0.mk (blk_below HS.out hb)
      have HA_ := Aside0.mk (blk_below HA.out hb)
      have HC := Aside0.mk (Kd.R_lower (Kd.R_mono (ok' := fun q => N0 ≤ q) (Kd.R_bound ho) (fun q hq => Nat.le_trans hn_ hq.2.1)) ST.out.b.size)
      clear hn_
      clear hb ho
      clear ST HS HA
      have ST := ST_
      have HS := HS_
      have HA := HA_
      clear ST_ HS_ HA_
      refine hK.out _ _ ⟨(blk_cell ST.out.g 0).trans rfl, (blk_cell ST.out.g 1).trans rfl, (blk_cell ST.out.h 0).trans rfl, (blk_cell ST.out.h 1).trans rfl⟩ (fun hHeld => ?_)
      clear hK K
      refine norm_ (a' := ?_) ?_ ?_
      rotate_left
      ·show Act.put _ (some 24) _ = _
       simp only [Act.put, qa_, qz_, qs_, i64_w, i32_w]
       rfl
      refine one_ (i := 7) (N := some 28) p8_47015 rfl rfl (by kernel_rfl) (by decide) (fun K hK => ?_)
      refine goes_ Try.func26 (by kernel_rfl) rfl #[vC, .int .i64 (i : Int), .slice (some ⟨gB, 0, none⟩) 1 1] (by rfl) rfl rfl (by (try simp only [List.map_toArray, List.map_cons, List.map_nil]); first | done | rfl | (simp only [List.length_drop, List.length_take]; rfl)) ?_
      refine (insert_Hole vC xs w.heap.size gB i [.int .i64 a1_0, .slice A1_1 l1_1.length c1_1] _ (Kd.R_mono HC.out (fun _ _ => trivial)) HS.out NE.out rfl (by intro v hv; simp at hv; rcases hv with rfl | rfl <;> rfl) ST.out.b.size (by rw [HXL.out]; exact hl1) (by rw [HXL.out]; exact hl2) (by rw [HXL.out]; exact HIX.out.1)).mono ?_
      rintro e w56 ⟨vI, rfl, ho, hg⟩
      refine ⟨_, rfl, ?_⟩
      have ST_ := Aside0.mk (StA.grown ST.out hg (fun k e => HC.out.1 k e) (Kd.R_base HC.out))
      have HA_ := Aside0.mk ((hg.block gA (blk_lt HA.out) (Kd.R_ne HC.out HA.out (by decide))).trans HA.out)
      have HI := Aside0.mk ho
      clear ho hg HC HS NE
      clear ST HA
      have ST := ST_
      have HA := HA_
      clear ST_ HA_
      refine hK.out _ _ ⟨(blk_cell ST.out.g 0).trans rfl, (blk_cell ST.out.g 1).trans rfl, (blk_cell ST.out.h 0).trans rfl, (blk_cell ST.out.h 1).trans rfl⟩ (fun hHeld => ?_)
      clear hK K
      refine norm_ (a' := ?_) ?_ ?_
      rotate_left
      ·show Act.put _ (some 28) _ = _
       simp only [Act.put, qa_, qz_, qs_, i64_w, i32_w]
       rfl
      refine one_ (i := 8) (N := some 29) p8_47006 rfl rfl (by kernel_rfl) (by decide) (fun K hK => ?_)
      obtain ⟨AI, cI, eI⟩ := Kd.R_slice HI.out
      subst eI
      have hI_ := Kd.R_reads' HI.out
      refine goes_ Try.func25 (by kernel_rfl) rfl #[.agg #[.slice A0_0 l0_0.length c0_0, .slice (some adH) l0_1.length c0_1], .slice AI (xs.take i ++ [.int .i64 a1_0, .slice A1_1 l1_1.length c1_1] :: xs.drop i).length cI] (by rfl) rfl rfl (by (try simp only [List.map_toArray, List.map_cons, List.map_nil]); first | done | rfl | (simp only [List.length_drop, List.length_take]; rfl)) ?_
      have hll_ : (insHole a1_0 l1_1 l0_1).length = (xs.take i ++ [.int .i64 a1_0, .slice A1_1 l1_1.length c1_1] :: xs.drop i).length := HRL.out.1
      rw [← hll_]
      rw [← hll_] at hI_
      refine (impl_Ground_withHoles.calls k A0_0 c0_0 l0_0 (some adH) c0_1 l0_1 AI cI (insHole a1_0 l1_1 l0_1) g1 g2 _ (Kd.C_below HR0_0.out ST.out.b) HC0_0.out (Kd.C_below HR0_1.out ST.out.b) HC0_1.out (raw_back hI_.2.2 HRL.out.1 (fun j x c h1 h2 => k36.K_below ST.out.b (HRL.out.2 j x c h1 h2))) hI_.2.1 HWH.out).mono ?_
      rintro e w57 ⟨v0, v1, rfl, ho0, ho1, hb⟩
      refine ⟨_, rfl, ?_⟩
      have ST_ := Aside0.mk (StA.below ST.out hb)
      have HA_ := Aside0.mk (blk_below HA.out hb)
      have HV0 := Aside0.mk (Kd.R_lower ho0 ST.out.b.size)
      have HV1 := Aside0.mk (Kd.S_lower ho1 ST.out.b.size)
      clear hb ho0 ho1 hI_ hll_
      clear ST HA
      have ST := ST_
      have HA := HA_
      clear ST_ HA_
      clear HI
      refine hK.out _ _ ⟨(blk_cell ST.out.g 0).trans rfl, (blk_cell ST.out.g 1).trans rfl, (blk_cell ST.out.h 0).trans rfl, (blk_cell ST.out.h 1).trans rfl⟩ (fun hHeld => ?_)
      clear hK K
      refine norm_ (a' := ?_) ?_ ?_
      rotate_left
      ·show Act.put _ (some 29) _ = _
       simp only [Act.put, qa_, qz_, qs_, i64_w, i32_w]
       rfl
      exact norm_ (by simp only [putAll, Act.put, qa_, qz_, qs_]) (hCont (vC, gB, .slice AI (insHole a1_0 l1_1 l0_1).length cI, v0, v1, gA) _ ⟨hHeld, ST.out, HV0.out, HV1.out, HA.out, NA.out⟩)
   rintro ⟨vC, gB, vI, v0, v1, gA⟩ w9 ⟨hHeld, hst, hv0, hv1, ha, hna⟩
   dsimp only at hst hv0 hv1 ha hna
   clear ST; have ST := Aside0.mk hst
   have HV0 := Aside0.mk hv0
   have HV1 := Aside0.mk hv1
   have HA := Aside0.mk ha
   have NA := Aside0.mk hna
   clear hst hv0 hv1 ha hna
   refine norm_ (a' := ?_) ?_ ?_
   rotate_left
   ·simp only [putAll, Act.put, qa_, qz_, qs_]
    rfl
   obtain ⟨Ao0, co0, e0⟩ := Kd.R_slice HV0.out
   subst e0
   obtain ⟨Ao1, co1, e1⟩ := Kd.S_slice HV1.out
   subst e1
   refine one_ (i := 10) (N := none) p8_47017 rfl rfl (by kernel_rfl) (by decide) (fun K hK => ?_)
   have hs0 : w9.cell? ⟨gA, 0, none⟩ = some (.slice none 0 0) := (blk_cell HA.out 0).trans rfl
   have hfs0 := blk_frozen HA.out 0
   have hs1 : w9.cell? ⟨gA, 1, none⟩ = some (.slice none 0 0) := (blk_cell HA.out 1).trans rfl
   have hfs1 := blk_frozen HA.out 1
   have hn1 : ga ≠ gA := by have h1 := ST.out.lg; have h2 := NA.out; omega
   have hn2 : gh ≠ gA := by have h1 := ST.out.lh; have h2 := NA.out; omega
   have hn3 : gr ≠ gA := by have h1 := ST.out.lr; have h2 := NA.out; omega
   refine skip_ (w1 := ?_) (by rfl) rfl ?_ ?_
   rotate_left
   ·go_simp
    rfl
   refine hK.out _ _ ⟨((cell_far (p := ⟨gA, _, none⟩) hn1 _).trans ((cell_far (p := ⟨gA, _, none⟩) hn1 _).trans (hHeld.1))), ((cell_far (p := ⟨gA, _, none⟩) hn1 _).trans ((cell_far (p := ⟨gA, _, none⟩) hn1 _).trans (hHeld.2.1))), ((cell_far (p := ⟨gA, _, none⟩) hn2 _).trans ((cell_far (p := ⟨gA, _, none⟩) hn2 _).trans (hHeld.2.2.1))), ((cell_far (p := ⟨gA, _, none⟩) hn2 _).trans ((cell_far (p := ⟨gA, _, none⟩) hn2 _).trans (hHeld.2.2.2)))⟩ (fun hHeld => ?_)
   clear hK K
   refine done_ (by kernel_rfl) ?_
   have HB := Aside0.mk (show Below w.heap.size w ((w9.setCell ⟨gA, 0, none⟩ (.slice Ao0 g1.length co0)).setCell ⟨gA, 1, none⟩ (.slice Ao1 g2.length co1)) from below_set (below_set ST.out.b (by have h1 := ST.out.b0; have h2 := NA.out; omega)) (by have h1 := ST.out.b0; have h2 := NA.out; omega))
   have B4 := Aside0.mk (show (World.heap ((w9.setCell ⟨gA, 0, none⟩ (.slice Ao0 g1.length co0)).setCell ⟨gA, 1, none⟩ (.slice Ao1 g2.length co1)))[gr]? = some (.cells #[.slice none 0 0, .slice none 0 0] 32 (0, 0)) from blk_far (blk_far ST.out.r hn3 _) hn3 _)
   have BA := Aside0.mk (show (World.heap ((w9.setCell ⟨gA, 0, none⟩ (.slice Ao0 g1.length co0)).setCell ⟨gA, 1, none⟩ (.slice Ao1 g2.length co1)))[gA]? = some (.cells #[.slice Ao0 g1.length co0, .slice Ao1 g2.length co1] 32 (0, 0)) from blk_put (cs := #[.slice Ao0 g1.length co0, .slice none 0 0]) (blk_put (cs := #[.slice none 0 0, .slice none 0 0]) HA.out 0 (.slice Ao0 g1.length co0) rfl) 1 (.slice Ao1 g2.length co1) rfl)
   have NR := Aside0.mk hn3
   have HR := Aside0.mk (show Kd.R (Kd.int .i64) 2 ((w9.setCell ⟨gA, 0, none⟩ (.slice Ao0 g1.length co0)).setCell ⟨gA, 1, none⟩ (.slice Ao1 g2.length co1)) w.heap.size (fun _ => True) (.slice Ao0 g1.length co0) g1 from Kd.R_mono (Kd.R_far (p := ⟨gA, 1, none⟩) (Kd.R_far (p := ⟨gA, 0, none⟩) (Kd.R_types HV0.out HA.out (by decide)) (fun _ hk => hk.2) _) (fun _ hk => hk.2) _) (fun _ _ => trivial))
   have HS := Aside0.mk (show Kd.S k36 36 ((w9.setCell ⟨gA, 0, none⟩ (.slice Ao0 g1.length co0)).setCell ⟨gA, 1, none⟩ (.slice Ao1 g2.length co1)) w.heap.size (fun k_ => some k_ ≠ (.slice Ao0 g1.length co0 : Value).ownBlock) (.slice Ao1 g2.length co1) g2 from Kd.S_mono (Kd.S_far (p := ⟨gA, 1, none⟩) (Kd.S_far (p := ⟨gA, 0, none⟩) (Kd.S_types HV1.out HA.out (by decide)) (fun _ hk => hk.2) _) (fun _ hk => hk.2) _) (fun _ hk => hk.1))
   have GB4 := Aside0.mk ST.out.gr0
   clear ST HV0 HV1 HA NA hs0 hfs0 hs1 hfs1 hn1 hn2 hn3 hHeld
   obtain ⟨w10, hw_⟩ : ∃ w_, w_ = ((w9.setCell ⟨gA, 0, none⟩ (.slice Ao0 g1.length co0)).setCell ⟨gA, 1, none⟩ (.slice Ao1 g2.length co1)) := ⟨_, rfl⟩
   rw [← hw_] at HB B4 BA HR HS ⊢
   clear hw_
   have hc0 : w10.cell? ⟨gA, 0, none⟩ = some (.slice Ao0 g1.length co0) := (blk_cell BA.out 0).trans rfl; have hf0 := blk_frozen BA.out 0; have hd0 : w10.cell? ⟨gr, 0, none⟩ = some (.slice none 0 0) := (blk_cell B4.out 0).trans rfl; have he0 := blk_frozen B4.out 0; have hc1 : w10.cell? ⟨gA, 1, none⟩ = some (.slice Ao1 g2.length co1) := (blk_cell BA.out 1).trans rfl; have hf1 := blk_frozen BA.out 1; have hd1 : w10.cell? ⟨gr, 1, none⟩ = some (.slice none 0 0) := (blk_cell B4.out 1).trans rfl; have he1 := blk_frozen B4.out 1
   have hna_ := NR.out
   cases t2 with
   | true =>
     rw [if_pos rfl] at h
     have h := Option.some.inj h
     cases h
     go_wp2_with (first | (go_at_call 22; (with_reducible refine (impl_ValidGround.calls k Ao0 co0 r1 Ao1 co1 r2 true _ (Kd.R_reads' HR.out).2.2 (Kd.R_reads' HR.out).2.1 (Kd.S_reads' HS.out).2.2 (Kd.S_reads' HS.out).2.1 HT2.out).mono ?_); rintro e w11 ⟨rfl, hb⟩; have HB_ := Aside0.mk (below_step HB.out hb); have B4_ := Aside0.mk (blk_below B4.out hb); have BA_ := Aside0.mk (blk_below BA.out hb); have HR_ := Aside0.mk (Kd.R_below HR.out hb); have HS_ := Aside0.mk (Kd.S_below HS.out hb); clear HB B4 BA HR HS hb hc0 hc1 hf0 hf1 hd0 hd1 he0 he1; have HB := HB_; have B4 := B4_; have BA := BA_; have HR := HR_; have HS := HS_; clear HB_ B4_ BA_ HR_ HS_; have hc0 : w11.cell? ⟨gA, 0, none⟩ = some (.slice Ao0 r1.length co0) := (blk_cell BA.out 0).trans rfl; have hf0 := blk_frozen BA.out 0; have hd0 : w11.cell? ⟨gr, 0, none⟩ = some (.slice none 0 0) := (blk_cell B4.out 0).trans rfl; have he0 := blk_frozen B4.out 0; have hc1 : w11.cell? ⟨gA, 1, none⟩ = some (.slice Ao1 r2.length co1) := (blk_cell BA.out 1).trans rfl; have hf1 := blk_frozen BA.out 1; have hd1 : w11.cell? ⟨gr, 1, none⟩ = some (.slice none 0 0) := (blk_cell B4.out 1).trans rfl; have he1 := blk_frozen B4.out 1))
     refine bodyPost_ret (results_ct rfl _ _ gr 32 #[.slice Ao0 r1.length co0, .slice Ao1 r2.length co1] (0, 0) _ rfl (by (with_reducible repeat (first | refine blk_drewN ?_ _ | refine blk_drew ?_ | refine blk_alloc ?_ _)); refine blk_put (cs := #[.slice Ao0 r1.length co0, .slice none 0 0]) ?_ 1 _ rfl; (with_reducible repeat (first | refine blk_drewN ?_ _ | refine blk_drew ?_ | refine blk_alloc ?_ _)); refine blk_put (cs := #[.slice none 0 0, .slice none 0 0]) ?_ 0 _ rfl; (with_reducible repeat (first | refine blk_drewN ?_ _ | refine blk_drew ?_ | refine blk_alloc ?_ _)); exact B4.out) Try.underlying32 rfl (by kernel_rfl)) rfl ?_
     exact ⟨.slice Ao0 r1.length co0, .slice Ao1 r2.length co1, by first | rfl | (simp; done), Kd.R_mono (Kd.R_far (p := ⟨gr, 1, none⟩) (Kd.R_far (p := ⟨gr, 0, none⟩) (Kd.R_types HR.out B4.out (by decide)) (fun _ hk => hk.2) _) (fun _ hk => hk.2) _) (fun _ _ => trivial), Kd.S_mono (Kd.S_far (p := ⟨gr, 1, none⟩) (Kd.S_far (p := ⟨gr, 0, none⟩) (Kd.S_types HS.out B4.out (by decide)) (fun _ hk => hk.2) _) (fun _ hk => hk.2) _) (fun _ hk => hk.1), by repeat (first | (with_reducible first | exact HB.out | apply below_alloc | apply pw_below_drewN | apply below_drew1 | refine below_set ?_ GB4.out) | exact HB.out)⟩
   | false =>
     rw [if_neg (by decide)] at h
     have h := Option.some.inj h
     cases h
     go_wp2_with (first | (go_at_call 22; (with_reducible refine (impl_ValidGround.calls k Ao0 co0 g1 Ao1 co1 g2 false _ (Kd.R_reads' HR.out).2.2 (Kd.R_reads' HR.out).2.1 (Kd.S_reads' HS.out).2.2 (Kd.S_reads' HS.out).2.1 HT2.out).mono ?_); rintro e w11 ⟨rfl, hb⟩; have HB_ := Aside0.mk (below_step HB.out hb); have B4_ := Aside0.mk (blk_below B4.out hb); have BA_ := Aside0.mk (blk_below BA.out hb); have HR_ := Aside0.mk (Kd.R_below HR.out hb); have HS_ := Aside0.mk (Kd.S_below HS.out hb); clear HB B4 BA HR HS hb hc0 hc1 hf0 hf1 hd0 hd1 he0 he1; have HB := HB_; have B4 := B4_; have BA := BA_; have HR := HR_; have HS := HS_; clear HB_ B4_ BA_ HR_ HS_; have hc0 : w11.cell? ⟨gA, 0, none⟩ = some (.slice Ao0 g1.length co0) := (blk_cell BA.out 0).trans rfl; have hf0 := blk_frozen BA.out 0; have hd0 : w11.cell? ⟨gr, 0, none⟩ = some (.slice none 0 0) := (blk_cell B4.out 0).trans rfl; have he0 := blk_frozen B4.out 0; have hc1 : w11.cell? ⟨gA, 1, none⟩ = some (.slice Ao1 g2.length co1) := (blk_cell BA.out 1).trans rfl; have hf1 := blk_frozen BA.out 1; have hd1 : w11.cell? ⟨gr, 1, none⟩ = some (.slice none 0 0) := (blk_cell B4.out 1).trans rfl; have he1 := blk_frozen B4.out 1))
     refine bodyPost_ret (results_ct rfl _ _ gr 32 #[.slice none 0 0, .slice none 0 0] (0, 0) _ rfl (by (with_reducible repeat (first | refine blk_drewN ?_ _ | refine blk_drew ?_ | refine blk_alloc ?_ _)); refine blk_put (cs := #[.slice none 0 0, .slice none 0 0]) ?_ 1 _ rfl; (with_reducible repeat (first | refine blk_drewN ?_ _ | refine blk_drew ?_ | refine blk_alloc ?_ _)); refine blk_put (cs := #[.slice none 0 0, .slice none 0 0]) ?_ 0 _ rfl; (with_reducible repeat (first | refine blk_drewN ?_ _ | refine blk_drew ?_ | refine blk_alloc ?_ _)); exact B4.out) Try.underlying32 rfl (by kernel_rfl)) rfl ?_
     exact ⟨.slice none 0 0, .slice none 0 0, by first | rfl | (simp; done), Kd.R_nil _ _ _ _ _, Kd.S_nil _ _ _ _ _, by repeat (first | (with_reducible first | exact HB.out | apply below_alloc | apply pw_below_drewN | apply below_drew1 | refine below_set ?_ GB4.out) | exact HB.out)⟩


end Go.Proofs.Ytcfkpljmihijiaa.P


