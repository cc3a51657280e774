/-
  No cell of these rows narrows 'for every input' (looked for: loops, veiled, ifaces, maps, wideKeys, modest, calm, conditions, laid).
  DERIVED. THE GIVEN ROWS OF THIS SEAT. 11 by the template 'for every input the law returns true; each argument reads behind the call as it read before'; 0 by the template 'total and deterministic' (their statements: YtajndapolblhmabTotals.lean).
  GIVEN WITH THE SEED: the statements are not yours to turn. If you find one false, say at which input.
  Laid BY PROGRAM, IN A SANDBOX (cutbox-rows.mjs): the forced cells as the released guide's own fill.sh prints them over the translation 5e9ee61f47215897… (all of the seat's roots in one cut). By AI agents, Wed Nov 11 2026. No macro, syntax, notation, axiom, sorry.
-/
import Derived.Test.YtajndapolblhmabChecked
import GoSem.Claim
import GoSem.ClaimJoined
import GoSem.ClaimMapViews
import Derived.JoinedTies
import Derived.KernelRfl
namespace Go.Proofs.Ytajndapolblhmab
/- THE CELL 'sum', in the pinned program and in every row, IS THE sha256 OF THE DUMP (.gsa) THAT YtajndapolblhmabProg.lean LOADS. Nothing in Lean hashes anything: it is a label: what it is worth is what the hold of that sum in a sandbox is worth. -/
noncomputable def Try.pinned : Pinned := { name := "ytajndapolblhmab", sum := "5e9ee61f47215897e888e01e4a01f9b5d46ac2722e68dc1e9018cbc2526c4039", checked := Try.checked }
namespace Rows
def none {H : Type} : Left H := { results := [], args := [] }

/-- 'laws.FnWatched': WHATEVER THE INPUT: true; the input reads as it did. -/
def fnWatchedSpec : ChangeSpec := { name := "fnWatched", fn := fun _ => fun
  | [d1, d2] => { results := [.lit (.bool true)], args := [d1, d2] }
  | _ => none }
def fnWatchedRow : OpenClaim := { program := "ytajndapolblhmab", sum := "5e9ee61f47215897e888e01e4a01f9b5d46ac2722e68dc1e9018cbc2526c4039", func := "loop.example/g01099/laws.FnWatched", spec := "fnWatched", unfollowed := true, recurses := true, plainKeys := false, apart := false }
def FnWatchedSaid : Prop := fnWatchedRow.holds Try.pinned (OpenSpec.ofChange fnWatchedSpec)

/-- ITS FALSE NEIGHBOUR: 'it returns false'. Refute it at one input. -/
def fnWatchedWrong : ChangeSpec := { name := "fnWatched", fn := fun _ => fun
  | [d1, d2] => { results := [.lit (.bool false)], args := [d1, d2] }
  | _ => none }
def FnWatchedWrongFalsely : Prop := fnWatchedRow.holds Try.pinned (OpenSpec.ofChange fnWatchedWrong)

/-- 'laws.FnExactShortDays': WHATEVER THE INPUT: true; the input reads as it did. -/
def fnExactShortDaysSpec : ChangeSpec := { name := "fnExactShortDays", fn := fun _ => fun
  | [d1, d2] => { results := [.lit (.bool true)], args := [d1, d2] }
  | _ => none }
def fnExactShortDaysRow : OpenClaim := { program := "ytajndapolblhmab", sum := "5e9ee61f47215897e888e01e4a01f9b5d46ac2722e68dc1e9018cbc2526c4039", func := "loop.example/g01099/laws.FnExactShortDays", spec := "fnExactShortDays", plainKeys := false, apart := false }
def FnExactShortDaysSaid : Prop := fnExactShortDaysRow.holds Try.pinned (OpenSpec.ofChange fnExactShortDaysSpec)

/-- ITS FALSE NEIGHBOUR: 'it returns false'. Refute it at one input. -/
def fnExactShortDaysWrong : ChangeSpec := { name := "fnExactShortDays", fn := fun _ => fun
  | [d1, d2] => { results := [.lit (.bool false)], args := [d1, d2] }
  | _ => none }
def FnExactShortDaysWrongFalsely : Prop := fnExactShortDaysRow.holds Try.pinned (OpenSpec.ofChange fnExactShortDaysWrong)

/-- 'laws.FnExactSettlementsOf': WHATEVER THE INPUT: true; the input reads as it did. -/
def fnExactSettlementsOfSpec : ChangeSpec := { name := "fnExactSettlementsOf", fn := fun _ => fun
  | [d] => { results := [.lit (.bool true)], args := [d] }
  | _ => none }
def fnExactSettlementsOfRow : OpenClaim := { program := "ytajndapolblhmab", sum := "5e9ee61f47215897e888e01e4a01f9b5d46ac2722e68dc1e9018cbc2526c4039", func := "loop.example/g01099/laws.FnExactSettlementsOf", spec := "fnExactSettlementsOf", plainKeys := false, apart := false }
def FnExactSettlementsOfSaid : Prop := fnExactSettlementsOfRow.holds Try.pinned (OpenSpec.ofChange fnExactSettlementsOfSpec)

/-- ITS FALSE NEIGHBOUR: 'it returns false'. Refute it at one input. -/
def fnExactSettlementsOfWrong : ChangeSpec := { name := "fnExactSettlementsOf", fn := fun _ => fun
  | [d] => { results := [.lit (.bool false)], args := [d] }
  | _ => none }
def FnExactSettlementsOfWrongFalsely : Prop := fnExactSettlementsOfRow.holds Try.pinned (OpenSpec.ofChange fnExactSettlementsOfWrong)

/-- 'laws.FnExactValidHead': WHATEVER THE INPUT: true; the input reads as it did. -/
def fnExactValidHeadSpec : ChangeSpec := { name := "fnExactValidHead", fn := fun _ => fun
  | [d] => { results := [.lit (.bool true)], args := [d] }
  | _ => none }
def fnExactValidHeadRow : OpenClaim := { program := "ytajndapolblhmab", sum := "5e9ee61f47215897e888e01e4a01f9b5d46ac2722e68dc1e9018cbc2526c4039", func := "loop.example/g01099/laws.FnExactValidHead", spec := "fnExactValidHead", unfollowed := true, recurses := true, plainKeys := false, apart := false }
def FnExactValidHeadSaid : Prop := fnExactValidHeadRow.holds Try.pinned (OpenSpec.ofChange fnExactValidHeadSpec)

/-- ITS FALSE NEIGHBOUR: 'it returns false'. Refute it at one input. -/
def fnExactValidHeadWrong : ChangeSpec := { name := "fnExactValidHead", fn := fun _ => fun
  | [d] => { results := [.lit (.bool false)], args := [d] }
  | _ => none }
def FnExactValidHeadWrongFalsely : Prop := fnExactValidHeadRow.holds Try.pinned (OpenSpec.ofChange fnExactValidHeadWrong)

/-- 'laws.FnExactLeastUnits': WHATEVER THE INPUT: true; the input reads as it did. -/
def fnExactLeastUnitsSpec : ChangeSpec := { name := "fnExactLeastUnits", fn := fun _ => fun
  | [d] => { results := [.lit (.bool true)], args := [d] }
  | _ => none }
def fnExactLeastUnitsRow : OpenClaim := { program := "ytajndapolblhmab", sum := "5e9ee61f47215897e888e01e4a01f9b5d46ac2722e68dc1e9018cbc2526c4039", func := "loop.example/g01099/laws.FnExactLeastUnits", spec := "fnExactLeastUnits", unfollowed := true, recurses := true, plainKeys := false, apart := false }
def FnExactLeastUnitsSaid : Prop := fnExactLeastUnitsRow.holds Try.pinned (OpenSpec.ofChange fnExactLeastUnitsSpec)

/-- ITS FALSE NEIGHBOUR: 'it returns false'. Refute it at one input. -/
def fnExactLeastUnitsWrong : ChangeSpec := { name := "fnExactLeastUnits", fn := fun _ => fun
  | [d] => { results := [.lit (.bool false)], args := [d] }
  | _ => none }
def FnExactLeastUnitsWrongFalsely : Prop := fnExactLeastUnitsRow.holds Try.pinned (OpenSpec.ofChange fnExactLeastUnitsWrong)

/-- 'laws.FnWorn': WHATEVER THE INPUT: true; the input reads as it did. -/
def fnWornSpec : ChangeSpec := { name := "fnWorn", fn := fun _ => fun
  | [d1, d2] => { results := [.lit (.bool true)], args := [d1, d2] }
  | _ => none }
def fnWornRow : OpenClaim := { program := "ytajndapolblhmab", sum := "5e9ee61f47215897e888e01e4a01f9b5d46ac2722e68dc1e9018cbc2526c4039", func := "loop.example/g01099/laws.FnWorn", spec := "fnWorn", unfollowed := true, recurses := true, plainKeys := false, apart := false }
def FnWornSaid : Prop := fnWornRow.holds Try.pinned (OpenSpec.ofChange fnWornSpec)

/-- ITS FALSE NEIGHBOUR: 'it returns false'. Refute it at one input. -/
def fnWornWrong : ChangeSpec := { name := "fnWorn", fn := fun _ => fun
  | [d1, d2] => { results := [.lit (.bool false)], args := [d1, d2] }
  | _ => none }
def FnWornWrongFalsely : Prop := fnWornRow.holds Try.pinned (OpenSpec.ofChange fnWornWrong)

/-- 'laws.FnExactRangeOf': WHATEVER THE INPUT: true; the input reads as it did. -/
def fnExactRangeOfSpec : ChangeSpec := { name := "fnExactRangeOf", fn := fun _ => fun
  | [d1, d2, d3] => { results := [.lit (.bool true)], args := [d1, d2, d3] }
  | _ => none }
def fnExactRangeOfRow : OpenClaim := { program := "ytajndapolblhmab", sum := "5e9ee61f47215897e888e01e4a01f9b5d46ac2722e68dc1e9018cbc2526c4039", func := "loop.example/g01099/laws.FnExactRangeOf", spec := "fnExactRangeOf", unfollowed := true, recurses := true, plainKeys := false, apart := false }
def FnExactRangeOfSaid : Prop := fnExactRangeOfRow.holds Try.pinned (OpenSpec.ofChange fnExactRangeOfSpec)

/-- ITS FALSE NEIGHBOUR: 'it returns false'. Refute it at one input. -/
def fnExactRangeOfWrong : ChangeSpec := { name := "fnExactRangeOf", fn := fun _ => fun
  | [d1, d2, d3] => { results := [.lit (.bool false)], args := [d1, d2, d3] }
  | _ => none }
def FnExactRangeOfWrongFalsely : Prop := fnExactRangeOfRow.holds Try.pinned (OpenSpec.ofChange fnExactRangeOfWrong)

/-- 'laws.FnExactLossesOf': WHATEVER THE INPUT: true; the input reads as it did. -/
def fnExactLossesOfSpec : ChangeSpec := { name := "fnExactLossesOf", fn := fun _ => fun
  | [d1, d2] => { results := [.lit (.bool true)], args := [d1, d2] }
  | _ => none }
def fnExactLossesOfRow : OpenClaim := { program := "ytajndapolblhmab", sum := "5e9ee61f47215897e888e01e4a01f9b5d46ac2722e68dc1e9018cbc2526c4039", func := "loop.example/g01099/laws.FnExactLossesOf", spec := "fnExactLossesOf", unfollowed := true, recurses := true, plainKeys := false, apart := false }
def FnExactLossesOfSaid : Prop := fnExactLossesOfRow.holds Try.pinned (OpenSpec.ofChange fnExactLossesOfSpec)

/-- ITS FALSE NEIGHBOUR: 'it returns false'. Refute it at one input. -/
def fnExactLossesOfWrong : ChangeSpec := { name := "fnExactLossesOf", fn := fun _ => fun
  | [d1, d2] => { results := [.lit (.bool false)], args := [d1, d2] }
  | _ => none }
def FnExactLossesOfWrongFalsely : Prop := fnExactLossesOfRow.holds Try.pinned (OpenSpec.ofChange fnExactLossesOfWrong)

/-- 'laws.FnPlans': WHATEVER THE INPUT: true; the input reads as it did. -/
def fnPlansSpec : ChangeSpec := { name := "fnPlans", fn := fun _ => fun
  | [d1, d2] => { results := [.lit (.bool true)], args := [d1, d2] }
  | _ => none }
def fnPlansRow : OpenClaim := { program := "ytajndapolblhmab", sum := "5e9ee61f47215897e888e01e4a01f9b5d46ac2722e68dc1e9018cbc2526c4039", func := "loop.example/g01099/laws.FnPlans", spec := "fnPlans", unfollowed := true, recurses := true, plainKeys := false, apart := false }
def FnPlansSaid : Prop := fnPlansRow.holds Try.pinned (OpenSpec.ofChange fnPlansSpec)

/-- ITS FALSE NEIGHBOUR: 'it returns false'. Refute it at one input. -/
def fnPlansWrong : ChangeSpec := { name := "fnPlans", fn := fun _ => fun
  | [d1, d2] => { results := [.lit (.bool false)], args := [d1, d2] }
  | _ => none }
def FnPlansWrongFalsely : Prop := fnPlansRow.holds Try.pinned (OpenSpec.ofChange fnPlansWrong)

/-- 'laws.FnExactIsPlan': WHATEVER THE INPUT: true; the input reads as it did. -/
def fnExactIsPlanSpec : ChangeSpec := { name := "fnExactIsPlan", fn := fun _ => fun
  | [d1, d2] => { results := [.lit (.bool true)], args := [d1, d2] }
  | _ => none }
def fnExactIsPlanRow : OpenClaim := { program := "ytajndapolblhmab", sum := "5e9ee61f47215897e888e01e4a01f9b5d46ac2722e68dc1e9018cbc2526c4039", func := "loop.example/g01099/laws.FnExactIsPlan", spec := "fnExactIsPlan", unfollowed := true, recurses := true, plainKeys := false, apart := false }
def FnExactIsPlanSaid : Prop := fnExactIsPlanRow.holds Try.pinned (OpenSpec.ofChange fnExactIsPlanSpec)

/-- ITS FALSE NEIGHBOUR: 'it returns false'. Refute it at one input. -/
def fnExactIsPlanWrong : ChangeSpec := { name := "fnExactIsPlan", fn := fun _ => fun
  | [d1, d2] => { results := [.lit (.bool false)], args := [d1, d2] }
  | _ => none }
def FnExactIsPlanWrongFalsely : Prop := fnExactIsPlanRow.holds Try.pinned (OpenSpec.ofChange fnExactIsPlanWrong)

/-- 'laws.FnExactBoundOf': WHATEVER THE INPUT: true; the input reads as it did. -/
def fnExactBoundOfSpec : ChangeSpec := { name := "fnExactBoundOf", fn := fun _ => fun
  | [d] => { results := [.lit (.bool true)], args := [d] }
  | _ => none }
def fnExactBoundOfRow : OpenClaim := { program := "ytajndapolblhmab", sum := "5e9ee61f47215897e888e01e4a01f9b5d46ac2722e68dc1e9018cbc2526c4039", func := "loop.example/g01099/laws.FnExactBoundOf", spec := "fnExactBoundOf", unfollowed := true, recurses := true, plainKeys := false, apart := false }
def FnExactBoundOfSaid : Prop := fnExactBoundOfRow.holds Try.pinned (OpenSpec.ofChange fnExactBoundOfSpec)

/-- ITS FALSE NEIGHBOUR: 'it returns false'. Refute it at one input. -/
def fnExactBoundOfWrong : ChangeSpec := { name := "fnExactBoundOf", fn := fun _ => fun
  | [d] => { results := [.lit (.bool false)], args := [d] }
  | _ => none }
def FnExactBoundOfWrongFalsely : Prop := fnExactBoundOfRow.holds Try.pinned (OpenSpec.ofChange fnExactBoundOfWrong)

/- THE SECOND FORM. 'bulk': how many values and letters a reading holds, each counted each time it is reached (what is shared counts as often as it is met; a slice's spare places count too). A statement '..UptoSaid' is the law's where the arguments, and the package variables that the reading takes, are together of bulk at most 1048576: NARROWER than '..Said'. Prove '..Said' where nothing that the law and all that it calls make is longer than what came in: it says more and counts as full. Else prove '..UptoSaid'. A law counts once. -/
mutual
def uptoBulk {H : Type} : DataW H → Nat
  | .lit (.string bytes) => bytes.length + 1
  | .lit _ => 1
  | .nil => 1
  | .ptr d => uptoBulk d + 1
  | .slice elems spare => uptoBulkAll elems + uptoBulkAll spare + 1
  | .agg parts => uptoBulkAll parts + 1
  | .iface _ d => uptoBulk d + 1
  | .map entries => uptoBulkEntries entries + 1
  | .held _ => 1
def uptoBulkAll {H : Type} : List (DataW H) → Nat
  | [] => 0
  | d :: r => uptoBulk d + uptoBulkAll r
def uptoBulkEntries {H : Type} : List (Lit × DataW H) → Nat
  | [] => 0
  | x :: r => uptoBulkEntry x + uptoBulkEntries r
def uptoBulkEntry {H : Type} : Lit × DataW H → Nat
  | (.string bytes, d) => bytes.length + uptoBulk d + 1
  | (_, d) => uptoBulk d + 1
 end
def uptoSmall : (H : Type) → List (DataW H) → Bool := fun _ ds => decide (uptoBulkAll ds ≤ 1048576)
def OpenSpec.upto (s : _root_.Go.ChangeSpec) : _root_.Go.OpenSpec := { _root_.Go.OpenSpec.ofChange s with cond := some uptoSmall }

/-- 'laws.FnWatched', WHERE WHAT IT READS IS OF BULK AT MOST 1048576: true; the input reads as it did. -/
def fnWatchedUptoRow : OpenClaim := { program := "ytajndapolblhmab", sum := "5e9ee61f47215897e888e01e4a01f9b5d46ac2722e68dc1e9018cbc2526c4039", func := "loop.example/g01099/laws.FnWatched", spec := "fnWatched", unfollowed := true, recurses := true, plainKeys := false, apart := false, narrowed := true }
def FnWatchedUptoSaid : Prop := fnWatchedUptoRow.holds Try.pinned (OpenSpec.upto fnWatchedSpec)

/-- 'laws.FnExactShortDays', WHERE WHAT IT READS IS OF BULK AT MOST 1048576: true; the input reads as it did. -/
def fnExactShortDaysUptoRow : OpenClaim := { program := "ytajndapolblhmab", sum := "5e9ee61f47215897e888e01e4a01f9b5d46ac2722e68dc1e9018cbc2526c4039", func := "loop.example/g01099/laws.FnExactShortDays", spec := "fnExactShortDays", plainKeys := false, apart := false, narrowed := true }
def FnExactShortDaysUptoSaid : Prop := fnExactShortDaysUptoRow.holds Try.pinned (OpenSpec.upto fnExactShortDaysSpec)

/-- 'laws.FnExactSettlementsOf', WHERE WHAT IT READS IS OF BULK AT MOST 1048576: true; the input reads as it did. -/
def fnExactSettlementsOfUptoRow : OpenClaim := { program := "ytajndapolblhmab", sum := "5e9ee61f47215897e888e01e4a01f9b5d46ac2722e68dc1e9018cbc2526c4039", func := "loop.example/g01099/laws.FnExactSettlementsOf", spec := "fnExactSettlementsOf", plainKeys := false, apart := false, narrowed := true }
def FnExactSettlementsOfUptoSaid : Prop := fnExactSettlementsOfUptoRow.holds Try.pinned (OpenSpec.upto fnExactSettlementsOfSpec)

/-- 'laws.FnExactValidHead', WHERE WHAT IT READS IS OF BULK AT MOST 1048576: true; the input reads as it did. -/
def fnExactValidHeadUptoRow : OpenClaim := { program := "ytajndapolblhmab", sum := "5e9ee61f47215897e888e01e4a01f9b5d46ac2722e68dc1e9018cbc2526c4039", func := "loop.example/g01099/laws.FnExactValidHead", spec := "fnExactValidHead", unfollowed := true, recurses := true, plainKeys := false, apart := false, narrowed := true }
def FnExactValidHeadUptoSaid : Prop := fnExactValidHeadUptoRow.holds Try.pinned (OpenSpec.upto fnExactValidHeadSpec)

/-- 'laws.FnExactLeastUnits', WHERE WHAT IT READS IS OF BULK AT MOST 1048576: true; the input reads as it did. -/
def fnExactLeastUnitsUptoRow : OpenClaim := { program := "ytajndapolblhmab", sum := "5e9ee61f47215897e888e01e4a01f9b5d46ac2722e68dc1e9018cbc2526c4039", func := "loop.example/g01099/laws.FnExactLeastUnits", spec := "fnExactLeastUnits", unfollowed := true, recurses := true, plainKeys := false, apart := false, narrowed := true }
def FnExactLeastUnitsUptoSaid : Prop := fnExactLeastUnitsUptoRow.holds Try.pinned (OpenSpec.upto fnExactLeastUnitsSpec)

/-- 'laws.FnWorn', WHERE WHAT IT READS IS OF BULK AT MOST 1048576: true; the input reads as it did. -/
def fnWornUptoRow : OpenClaim := { program := "ytajndapolblhmab", sum := "5e9ee61f47215897e888e01e4a01f9b5d46ac2722e68dc1e9018cbc2526c4039", func := "loop.example/g01099/laws.FnWorn", spec := "fnWorn", unfollowed := true, recurses := true, plainKeys := false, apart := false, narrowed := true }
def FnWornUptoSaid : Prop := fnWornUptoRow.holds Try.pinned (OpenSpec.upto fnWornSpec)

/-- 'laws.FnExactRangeOf', WHERE WHAT IT READS IS OF BULK AT MOST 1048576: true; the input reads as it did. -/
def fnExactRangeOfUptoRow : OpenClaim := { program := "ytajndapolblhmab", sum := "5e9ee61f47215897e888e01e4a01f9b5d46ac2722e68dc1e9018cbc2526c4039", func := "loop.example/g01099/laws.FnExactRangeOf", spec := "fnExactRangeOf", unfollowed := true, recurses := true, plainKeys := false, apart := false, narrowed := true }
def FnExactRangeOfUptoSaid : Prop := fnExactRangeOfUptoRow.holds Try.pinned (OpenSpec.upto fnExactRangeOfSpec)

/-- 'laws.FnExactLossesOf', WHERE WHAT IT READS IS OF BULK AT MOST 1048576: true; the input reads as it did. -/
def fnExactLossesOfUptoRow : OpenClaim := { program := "ytajndapolblhmab", sum := "5e9ee61f47215897e888e01e4a01f9b5d46ac2722e68dc1e9018cbc2526c4039", func := "loop.example/g01099/laws.FnExactLossesOf", spec := "fnExactLossesOf", unfollowed := true, recurses := true, plainKeys := false, apart := false, narrowed := true }
def FnExactLossesOfUptoSaid : Prop := fnExactLossesOfUptoRow.holds Try.pinned (OpenSpec.upto fnExactLossesOfSpec)

/-- 'laws.FnPlans', WHERE WHAT IT READS IS OF BULK AT MOST 1048576: true; the input reads as it did. -/
def fnPlansUptoRow : OpenClaim := { program := "ytajndapolblhmab", sum := "5e9ee61f47215897e888e01e4a01f9b5d46ac2722e68dc1e9018cbc2526c4039", func := "loop.example/g01099/laws.FnPlans", spec := "fnPlans", unfollowed := true, recurses := true, plainKeys := false, apart := false, narrowed := true }
def FnPlansUptoSaid : Prop := fnPlansUptoRow.holds Try.pinned (OpenSpec.upto fnPlansSpec)

/-- 'laws.FnExactIsPlan', WHERE WHAT IT READS IS OF BULK AT MOST 1048576: true; the input reads as it did. -/
def fnExactIsPlanUptoRow : OpenClaim := { program := "ytajndapolblhmab", sum := "5e9ee61f47215897e888e01e4a01f9b5d46ac2722e68dc1e9018cbc2526c4039", func := "loop.example/g01099/laws.FnExactIsPlan", spec := "fnExactIsPlan", unfollowed := true, recurses := true, plainKeys := false, apart := false, narrowed := true }
def FnExactIsPlanUptoSaid : Prop := fnExactIsPlanUptoRow.holds Try.pinned (OpenSpec.upto fnExactIsPlanSpec)

/-- 'laws.FnExactBoundOf', WHERE WHAT IT READS IS OF BULK AT MOST 1048576: true; the input reads as it did. -/
def fnExactBoundOfUptoRow : OpenClaim := { program := "ytajndapolblhmab", sum := "5e9ee61f47215897e888e01e4a01f9b5d46ac2722e68dc1e9018cbc2526c4039", func := "loop.example/g01099/laws.FnExactBoundOf", spec := "fnExactBoundOf", unfollowed := true, recurses := true, plainKeys := false, apart := false, narrowed := true }
def FnExactBoundOfUptoSaid : Prop := fnExactBoundOfUptoRow.holds Try.pinned (OpenSpec.upto fnExactBoundOfSpec)

end Rows
end Go.Proofs.Ytajndapolblhmab
