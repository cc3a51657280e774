/- What the claim of FnExactHeadText bears, part 3: functions of the program as plain Lean functions, with proofs that the code comes to their answers, and lemmas on them. -/
import Derived.Test.YtfcadpkhmkjibaaDoorCFnExactHeadText2
import Derived.Test.YtfcadpkhmkjibaaDoorCFnExactHeadText1
import Derived.Test.YtfcadpkhmkjibaaDoorCFnExactHeadText0
/- A list of numbers is copied. -/
namespace Go.Proofs.YtfcadpkhmkjibaaDoor.P
open Go.RowKit Go.Proofs.YtfcadpkhmkjibaaDoor.P Go.Proofs.YtfcadpkhmkjibaaDoorW.PrintWords Go.Proofs.YtfcadpkhmkjibaaDoorW.PrintLast Go.Proofs.YtfcadpkhmkjibaaDoorW.PrintMore
set_option linter.unusedVariables false
set_option linter.unusedSimpArgs false
theorem toInt_loop (l : List Int) (hb : l.length ≤ 9223372036854775807) : ∀ (d k i : Nat) (acc : List Int), i + d = l.length → d < k → acc.length = l.length → acc.take i = l.take i → laws_toInt64S.l0 k l acc i = some l := by
  intro d
  induction d with
  | zero =>
    intro k i acc hi hk ha ht
    obtain ⟨k, rfl⟩ : ∃ m, k = m + 1 := ⟨k - 1, by omega⟩
    simp only [laws_toInt64S.l0]
    rw [if_neg (by omega)]
    rw [List.take_of_length_le (by omega), List.take_of_length_le (by omega)] at ht
    rw [ht]
  | succ d ih =>
    intro k i acc hi hk ha ht
    obtain ⟨k, rfl⟩ : ∃ m, k = m + 1 := ⟨k - 1, by omega⟩
    simp only [laws_toInt64S.l0]
    rw [if_pos (by omega), if_pos (by omega), if_pos (by omega), w64s i (by omega), Int.toNat_natCast]
    exact ih k (i + 1) _ (by omega) (by omega) (by rw [List.length_set]; exact ha) (fill_step l acc i _ (by omega) ha ht (rd_at l i (by omega)).symm)
theorem toInt_is (k : Nat) (l : List Int) (hb : l.length ≤ 35184372088832) (hk : l.length < k) : laws_toInt64S.f k l = some l := by
  unfold laws_toInt64S.f
  rw [if_pos (by omega), if_pos (by omega)]
  exact toInt_loop l (by omega) l.length k 0 _ (by omega) hk (by simp) (by simp)

end Go.Proofs.YtfcadpkhmkjibaaDoor.P
/- A head is copied, measured, and equal to itself. -/
namespace Go.Proofs.YtfcadpkhmkjibaaDoor.P
open Go.RowKit Go.Proofs.YtfcadpkhmkjibaaDoor.P Go.Proofs.YtfcadpkhmkjibaaDoorW.PrintWords Go.Proofs.YtfcadpkhmkjibaaDoorW.PrintLast Go.Proofs.YtfcadpkhmkjibaaDoorW.PrintMore
set_option linter.unusedVariables false
set_option linter.unusedSimpArgs false
theorem toHead_is (k : Nat) (cs : List S91) (fc st : List Int) (x y : Int) (hc : cs.length ≤ 1048576) (hb : fc.length ≤ 1048576) (hs : st.length ≤ 1048576) (hk : cs.length + fc.length + st.length < k) : laws_toHead.f k cs fc st x y = some (cs.map toCutter, fc, st, x, y) := by
  unfold laws_toHead.f
  rw [toCutterS_is k cs hc (by omega), bind_some_, toInt_is k fc (by omega) (by omega), bind_some_, toInt_is k st (by omega) (by omega), bind_some_]
theorem eqHead_refl (k : Nat) (cs : List S77) (fc st : List Int) (x y : Int) (hc : cs.length ≤ 1048576) (hb : fc.length ≤ 1048576) (hs : st.length ≤ 1048576) (hk : cs.length + fc.length + st.length < k) : laws_eqHead.f k cs fc st x y cs fc st x y = some true := by
  unfold laws_eqHead.f
  rw [eqCutterS_refl k cs (by omega) (by omega), bind_some_, if_pos rfl, eqInt_is k fc fc (by omega) (by omega), bind_some_, if_pos (decide_eq_true rfl), eqInt_is k st st (by omega) (by omega), bind_some_, if_pos (decide_eq_true rfl), if_pos rfl, if_pos rfl]
theorem szHead_is2 (cs : List S91) (fc st : List Int) (x y : Int) (hc : cs.length ≤ 9223372036854775807) (hb : fc.length ≤ 9223372036854775807) (hs : st.length ≤ 9223372036854775807) : ∃ r, laws_szHead.f cs fc st x y 1048576 = some r ∧ r ≤ 1048576 ∧ (r < 0 ∨ (cs.length ≤ 1048576 ∧ fc.length ≤ 1048576 ∧ st.length ≤ 1048576)) := by
  unfold laws_szHead.f laws_szCutterS.f laws_szInt64S.f
  rw [w64 (1048576 - (cs.length : Int)) (by omega) (by omega)]
  by_cases h1 : 1048576 - (cs.length : Int) < 0
  · rw [if_pos h1, bind_some_, if_pos (by omega)]
    exact ⟨_, rfl, by omega, Or.inl (by omega)⟩
  · rw [if_neg h1, bind_some_, if_neg h1, w64 (1048576 - (cs.length : Int) - (fc.length : Int)) (by omega) (by omega)]
    by_cases h2 : 1048576 - (cs.length : Int) - (fc.length : Int) < 0
    · rw [if_pos h2, bind_some_, if_pos (by omega)]
      exact ⟨_, rfl, by omega, Or.inl (by omega)⟩
    · rw [if_neg h2, bind_some_, if_neg h2, w64 (1048576 - (cs.length : Int) - (fc.length : Int) - (st.length : Int)) (by omega) (by omega)]
      by_cases h3 : 1048576 - (cs.length : Int) - (fc.length : Int) - (st.length : Int) < 0
      · rw [if_pos h3, bind_some_, if_pos (by omega)]
        exact ⟨_, rfl, by omega, Or.inl (by omega)⟩
      · rw [if_neg h3, bind_some_, if_neg h3]
        exact ⟨_, rfl, by omega, Or.inr (by omega)⟩
theorem szHead_is (cs : List S91) (fc st : List Int) (x y : Int) (hc : cs.length ≤ 9223372036854775807) (hb : fc.length ≤ 9223372036854775807) (hs : st.length ≤ 9223372036854775807) : ∃ r, laws_szHead.f cs fc st x y 1048576 = some r ∧ (r < 0 ∨ (cs.length ≤ 1048576 ∧ fc.length ≤ 1048576 ∧ st.length ≤ 1048576)) := by
  obtain ⟨r, h1, _, h2⟩ := szHead_is2 cs fc st x y hc hb hs
  exact ⟨r, h1, h2⟩

end Go.Proofs.YtfcadpkhmkjibaaDoor.P
/- A row whose library variables are laid, proved by a contract that is handed the laid ones and the world's shape. -/
namespace Go.Proofs.YtfcadpkhmkjibaaDoor.P
open Go.RowKit Go.Proofs.YtfcadpkhmkjibaaDoor.P Go.Proofs.YtfcadpkhmkjibaaDoorW.PrintWords Go.Proofs.YtfcadpkhmkjibaaDoorW.PrintLast Go.Proofs.YtfcadpkhmkjibaaDoorW.PrintMore
set_option linter.unusedVariables false
set_option linter.unusedSimpArgs false
theorem hold_handed {H : Type} {enc : TypeId × Value → H} {a : Assume} {C : Checked} {os : Os} {f : FuncId} {fn : Func} {s : ChangeSpec} {conds : List PathCond} {apart fresh handsOn again : Bool} {X : World → Array Value → Prop}
    (hX : ∀ (w w' : World) (args : Array Value), w.heap = w'.heap → X w args → X w' args)
    (own : ownKnob C.prog.godebug = none) (started : os.Started) (noInit : C.prog.inits.idxOf? f = none) (hfn : C.prog.funcs[f]? = some fn)
    (witness : ∃ (w : World) (tape : Tape) (i : Input), w.os = os ∧ (w.forCall tape i).Shaped C.prog ∧ i.vars = [] ∧ Input.okWide C.prog (w.forCall tape i) .any w.heap.size f i ∧
      ((s.pre enc C.prog fn conds apart (w.forCall tape i).memory i.args ∧ X (w.forCall tape i).memory i.args) ∧ sizedMet enc C.prog fn (OpenSpec.ofChange s) apart (w.forCall tape i).memory i.args) ∧ a.holds C.prog (lone (Frame.enter C.prog f i.args .normal) [] (w.forCall tape i)))
    (contract : ∀ (W : World) (base : Nat) (args : Array Value) (ds gs : List (DataW H)) (before : List MemPlace),
      (∀ (j : Nat) t v, fn.params[j]? = some t → args[j]? = some v → Value.okWide C.prog W .any base t v) →
      DataW.Whole enc C.prog fn.params.toList s.vars apart W args.toList ds gs before →
      conds.all (PathCond.test C.prog ⟨fn.params.toList, ds, s.plain.varTypes C.prog, gs⟩) = true →
      (DataW.weightsEach C.prog (fn.params.toList ++ s.plain.varTypes C.prog) (ds ++ gs)).all (· ≤ reachBytes) = true →
      W.ShapedOpen C.prog ∧ X W args →
      Calls C.prog f args W fun e W' => ∃ v, e = .returned v ∧ s.post enc C.prog fn apart fresh handsOn again W args v W') :
    ReturnsInHanded a C os f .any (fun w args => (s.pre enc C.prog fn conds apart w args ∧ X w args) ∧ sizedMet enc C.prog fn (OpenSpec.ofChange s) apart w args) (s.post enc C.prog fn apart fresh handsOn again) := by
  refine returnsInHanded_of_calls own started noInit witness ?_
  intro w tape i _ hsh _ hok hpre _
  obtain ⟨_, _, _, fn', hfn', _, _, _, _, hval⟩ := hok
  obtain rfl : fn' = fn := Option.some.inj (hfn'.symm.trans hfn)
  obtain ⟨⟨⟨ds, gs, before, hw, hc⟩, hx⟩, hz⟩ := hpre
  refine (contract (w.forCall tape i) w.heap.size i.args ds gs before hval (DataW.Whole.of_heap (w' := w.forCall tape i) (by rfl) hw) hc (hz.weights hw) ⟨hsh, hX _ _ _ (by rfl) hx⟩).mono fun e W' ⟨v, he, hp⟩ => ?_
  subst he
  exact ChangeSpec.post_blind hp

end Go.Proofs.YtfcadpkhmkjibaaDoor.P
