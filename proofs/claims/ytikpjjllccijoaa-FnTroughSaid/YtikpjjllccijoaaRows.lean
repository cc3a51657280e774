/-
  No cell of these rows narrows 'for every input' (looked for: loops, veiled, ifaces, maps, wideKeys, modest, calm, conditions, laid).
  DERIVED. THE GIVEN ROWS OF THIS SEAT. 12 by the template 'for every input the law returns true; each argument reads behind the call as it read before'; 0 by the template 'total and deterministic' (their statements: YtikpjjllccijoaaTotals.lean).
  GIVEN WITH THE SEED: the statements are not yours to turn. If you find one false, say at which input.
  Laid BY PROGRAM, IN A SANDBOX (cutbox-rows.mjs): the forced cells as the released guide's own fill.sh prints them over the translation c451a048b9f21b80… (all of the seat's roots in one cut). By AI agents, Wed Nov 11 2026. No macro, syntax, notation, axiom, sorry.
-/
import Derived.Test.YtikpjjllccijoaaChecked
import GoSem.Claim
import GoSem.ClaimJoined
import GoSem.ClaimMapViews
import Derived.JoinedTies
import Derived.KernelRfl
namespace Go.Proofs.Ytikpjjllccijoaa
/- THE CELL 'sum', in the pinned program and in every row, IS THE sha256 OF THE DUMP (.gsa) THAT YtikpjjllccijoaaProg.lean LOADS. Nothing in Lean hashes anything: it is a label: what it is worth is what the hold of that sum in a sandbox is worth. -/
noncomputable def Try.pinned : Pinned := { name := "ytikpjjllccijoaa", sum := "c451a048b9f21b80f867695c341d12354c8844224be42b8ae8852d14aade9829", checked := Try.checked }
namespace Rows
def none {H : Type} : Left H := { results := [], args := [] }

/-- 'laws.FnExactValidWorks': WHATEVER THE INPUT: true; the input reads as it did. -/
def fnExactValidWorksSpec : ChangeSpec := { name := "fnExactValidWorks", fn := fun _ => fun
  | [d] => { results := [.lit (.bool true)], args := [d] }
  | _ => none }
def fnExactValidWorksRow : OpenClaim := { program := "ytikpjjllccijoaa", sum := "c451a048b9f21b80f867695c341d12354c8844224be42b8ae8852d14aade9829", func := "loop.example/g01099/laws.FnExactValidWorks", spec := "fnExactValidWorks", plainKeys := false, apart := false }
def FnExactValidWorksSaid : Prop := fnExactValidWorksRow.holds Try.pinned (OpenSpec.ofChange fnExactValidWorksSpec)

/-- ITS FALSE NEIGHBOUR: 'it returns false'. Refute it at one input. -/
def fnExactValidWorksWrong : ChangeSpec := { name := "fnExactValidWorks", fn := fun _ => fun
  | [d] => { results := [.lit (.bool false)], args := [d] }
  | _ => none }
def FnExactValidWorksWrongFalsely : Prop := fnExactValidWorksRow.holds Try.pinned (OpenSpec.ofChange fnExactValidWorksWrong)

/-- 'laws.FnExactReadyBy': WHATEVER THE INPUT: true; the input reads as it did. -/
def fnExactReadyBySpec : ChangeSpec := { name := "fnExactReadyBy", fn := fun _ => fun
  | [d1, d2] => { results := [.lit (.bool true)], args := [d1, d2] }
  | _ => none }
def fnExactReadyByRow : OpenClaim := { program := "ytikpjjllccijoaa", sum := "c451a048b9f21b80f867695c341d12354c8844224be42b8ae8852d14aade9829", func := "loop.example/g01099/laws.FnExactReadyBy", spec := "fnExactReadyBy", plainKeys := false, apart := false }
def FnExactReadyBySaid : Prop := fnExactReadyByRow.holds Try.pinned (OpenSpec.ofChange fnExactReadyBySpec)

/-- ITS FALSE NEIGHBOUR: 'it returns false'. Refute it at one input. -/
def fnExactReadyByWrong : ChangeSpec := { name := "fnExactReadyBy", fn := fun _ => fun
  | [d1, d2] => { results := [.lit (.bool false)], args := [d1, d2] }
  | _ => none }
def FnExactReadyByWrongFalsely : Prop := fnExactReadyByRow.holds Try.pinned (OpenSpec.ofChange fnExactReadyByWrong)

/-- 'laws.FnTrough': WHATEVER THE INPUT: true; the input reads as it did. -/
def fnTroughSpec : ChangeSpec := { name := "fnTrough", fn := fun _ => fun
  | [d1, d2] => { results := [.lit (.bool true)], args := [d1, d2] }
  | _ => none }
def fnTroughRow : OpenClaim := { program := "ytikpjjllccijoaa", sum := "c451a048b9f21b80f867695c341d12354c8844224be42b8ae8852d14aade9829", func := "loop.example/g01099/laws.FnTrough", spec := "fnTrough", plainKeys := false, apart := false }
def FnTroughSaid : Prop := fnTroughRow.holds Try.pinned (OpenSpec.ofChange fnTroughSpec)

/-- ITS FALSE NEIGHBOUR: 'it returns false'. Refute it at one input. -/
def fnTroughWrong : ChangeSpec := { name := "fnTrough", fn := fun _ => fun
  | [d1, d2] => { results := [.lit (.bool false)], args := [d1, d2] }
  | _ => none }
def FnTroughWrongFalsely : Prop := fnTroughRow.holds Try.pinned (OpenSpec.ofChange fnTroughWrong)

/-- 'laws.FnExactValidOrders': WHATEVER THE INPUT: true; the input reads as it did. -/
def fnExactValidOrdersSpec : ChangeSpec := { name := "fnExactValidOrders", fn := fun _ => fun
  | [d] => { results := [.lit (.bool true)], args := [d] }
  | _ => none }
def fnExactValidOrdersRow : OpenClaim := { program := "ytikpjjllccijoaa", sum := "c451a048b9f21b80f867695c341d12354c8844224be42b8ae8852d14aade9829", func := "loop.example/g01099/laws.FnExactValidOrders", spec := "fnExactValidOrders", plainKeys := false, apart := false }
def FnExactValidOrdersSaid : Prop := fnExactValidOrdersRow.holds Try.pinned (OpenSpec.ofChange fnExactValidOrdersSpec)

/-- ITS FALSE NEIGHBOUR: 'it returns false'. Refute it at one input. -/
def fnExactValidOrdersWrong : ChangeSpec := { name := "fnExactValidOrders", fn := fun _ => fun
  | [d] => { results := [.lit (.bool false)], args := [d] }
  | _ => none }
def FnExactValidOrdersWrongFalsely : Prop := fnExactValidOrdersRow.holds Try.pinned (OpenSpec.ofChange fnExactValidOrdersWrong)

/-- 'laws.FnExactLossOf': WHATEVER THE INPUT: true; the input reads as it did. -/
def fnExactLossOfSpec : ChangeSpec := { name := "fnExactLossOf", fn := fun _ => fun
  | [d] => { results := [.lit (.bool true)], args := [d] }
  | _ => none }
def fnExactLossOfRow : OpenClaim := { program := "ytikpjjllccijoaa", sum := "c451a048b9f21b80f867695c341d12354c8844224be42b8ae8852d14aade9829", func := "loop.example/g01099/laws.FnExactLossOf", spec := "fnExactLossOf", unfollowed := true, recurses := true, plainKeys := false, apart := false }
def FnExactLossOfSaid : Prop := fnExactLossOfRow.holds Try.pinned (OpenSpec.ofChange fnExactLossOfSpec)

/-- ITS FALSE NEIGHBOUR: 'it returns false'. Refute it at one input. -/
def fnExactLossOfWrong : ChangeSpec := { name := "fnExactLossOf", fn := fun _ => fun
  | [d] => { results := [.lit (.bool false)], args := [d] }
  | _ => none }
def FnExactLossOfWrongFalsely : Prop := fnExactLossOfRow.holds Try.pinned (OpenSpec.ofChange fnExactLossOfWrong)

/-- 'laws.FnExactValidLosses': WHATEVER THE INPUT: true; the input reads as it did. -/
def fnExactValidLossesSpec : ChangeSpec := { name := "fnExactValidLosses", fn := fun _ => fun
  | [d] => { results := [.lit (.bool true)], args := [d] }
  | _ => none }
def fnExactValidLossesRow : OpenClaim := { program := "ytikpjjllccijoaa", sum := "c451a048b9f21b80f867695c341d12354c8844224be42b8ae8852d14aade9829", func := "loop.example/g01099/laws.FnExactValidLosses", spec := "fnExactValidLosses", plainKeys := false, apart := false }
def FnExactValidLossesSaid : Prop := fnExactValidLossesRow.holds Try.pinned (OpenSpec.ofChange fnExactValidLossesSpec)

/-- ITS FALSE NEIGHBOUR: 'it returns false'. Refute it at one input. -/
def fnExactValidLossesWrong : ChangeSpec := { name := "fnExactValidLosses", fn := fun _ => fun
  | [d] => { results := [.lit (.bool false)], args := [d] }
  | _ => none }
def FnExactValidLossesWrongFalsely : Prop := fnExactValidLossesRow.holds Try.pinned (OpenSpec.ofChange fnExactValidLossesWrong)

/-- 'laws.FnLifted': WHATEVER THE INPUT: true; the input reads as it did. -/
def fnLiftedSpec : ChangeSpec := { name := "fnLifted", fn := fun _ => fun
  | [d1, d2] => { results := [.lit (.bool true)], args := [d1, d2] }
  | _ => none }
def fnLiftedRow : OpenClaim := { program := "ytikpjjllccijoaa", sum := "c451a048b9f21b80f867695c341d12354c8844224be42b8ae8852d14aade9829", func := "loop.example/g01099/laws.FnLifted", spec := "fnLifted", unfollowed := true, recurses := true, plainKeys := false, apart := false }
def FnLiftedSaid : Prop := fnLiftedRow.holds Try.pinned (OpenSpec.ofChange fnLiftedSpec)

/-- ITS FALSE NEIGHBOUR: 'it returns false'. Refute it at one input. -/
def fnLiftedWrong : ChangeSpec := { name := "fnLifted", fn := fun _ => fun
  | [d1, d2] => { results := [.lit (.bool false)], args := [d1, d2] }
  | _ => none }
def FnLiftedWrongFalsely : Prop := fnLiftedRow.holds Try.pinned (OpenSpec.ofChange fnLiftedWrong)

/-- 'laws.FnExactVolumeOf': WHATEVER THE INPUT: true; the input reads as it did. -/
def fnExactVolumeOfSpec : ChangeSpec := { name := "fnExactVolumeOf", fn := fun _ => fun
  | [d] => { results := [.lit (.bool true)], args := [d] }
  | _ => none }
def fnExactVolumeOfRow : OpenClaim := { program := "ytikpjjllccijoaa", sum := "c451a048b9f21b80f867695c341d12354c8844224be42b8ae8852d14aade9829", func := "loop.example/g01099/laws.FnExactVolumeOf", spec := "fnExactVolumeOf", unfollowed := true, recurses := true, plainKeys := false, apart := false }
def FnExactVolumeOfSaid : Prop := fnExactVolumeOfRow.holds Try.pinned (OpenSpec.ofChange fnExactVolumeOfSpec)

/-- ITS FALSE NEIGHBOUR: 'it returns false'. Refute it at one input. -/
def fnExactVolumeOfWrong : ChangeSpec := { name := "fnExactVolumeOf", fn := fun _ => fun
  | [d] => { results := [.lit (.bool false)], args := [d] }
  | _ => none }
def FnExactVolumeOfWrongFalsely : Prop := fnExactVolumeOfRow.holds Try.pinned (OpenSpec.ofChange fnExactVolumeOfWrong)

/-- 'laws.FnExactTroughOf': WHATEVER THE INPUT: true; the input reads as it did. -/
def fnExactTroughOfSpec : ChangeSpec := { name := "fnExactTroughOf", fn := fun _ => fun
  | [d1, d2] => { results := [.lit (.bool true)], args := [d1, d2] }
  | _ => none }
def fnExactTroughOfRow : OpenClaim := { program := "ytikpjjllccijoaa", sum := "c451a048b9f21b80f867695c341d12354c8844224be42b8ae8852d14aade9829", func := "loop.example/g01099/laws.FnExactTroughOf", spec := "fnExactTroughOf", plainKeys := false, apart := false }
def FnExactTroughOfSaid : Prop := fnExactTroughOfRow.holds Try.pinned (OpenSpec.ofChange fnExactTroughOfSpec)

/-- ITS FALSE NEIGHBOUR: 'it returns false'. Refute it at one input. -/
def fnExactTroughOfWrong : ChangeSpec := { name := "fnExactTroughOf", fn := fun _ => fun
  | [d1, d2] => { results := [.lit (.bool false)], args := [d1, d2] }
  | _ => none }
def FnExactTroughOfWrongFalsely : Prop := fnExactTroughOfRow.holds Try.pinned (OpenSpec.ofChange fnExactTroughOfWrong)

/-- 'laws.FnExactSteepestOf': WHATEVER THE INPUT: true; the input reads as it did. -/
def fnExactSteepestOfSpec : ChangeSpec := { name := "fnExactSteepestOf", fn := fun _ => fun
  | [d] => { results := [.lit (.bool true)], args := [d] }
  | _ => none }
def fnExactSteepestOfRow : OpenClaim := { program := "ytikpjjllccijoaa", sum := "c451a048b9f21b80f867695c341d12354c8844224be42b8ae8852d14aade9829", func := "loop.example/g01099/laws.FnExactSteepestOf", spec := "fnExactSteepestOf", unfollowed := true, recurses := true, plainKeys := false, apart := false }
def FnExactSteepestOfSaid : Prop := fnExactSteepestOfRow.holds Try.pinned (OpenSpec.ofChange fnExactSteepestOfSpec)

/-- ITS FALSE NEIGHBOUR: 'it returns false'. Refute it at one input. -/
def fnExactSteepestOfWrong : ChangeSpec := { name := "fnExactSteepestOf", fn := fun _ => fun
  | [d] => { results := [.lit (.bool false)], args := [d] }
  | _ => none }
def FnExactSteepestOfWrongFalsely : Prop := fnExactSteepestOfRow.holds Try.pinned (OpenSpec.ofChange fnExactSteepestOfWrong)

/-- 'laws.FnExactValidGrouts': WHATEVER THE INPUT: true; the input reads as it did. -/
def fnExactValidGroutsSpec : ChangeSpec := { name := "fnExactValidGrouts", fn := fun _ => fun
  | [d] => { results := [.lit (.bool true)], args := [d] }
  | _ => none }
def fnExactValidGroutsRow : OpenClaim := { program := "ytikpjjllccijoaa", sum := "c451a048b9f21b80f867695c341d12354c8844224be42b8ae8852d14aade9829", func := "loop.example/g01099/laws.FnExactValidGrouts", spec := "fnExactValidGrouts", unfollowed := true, recurses := true, plainKeys := false, apart := false }
def FnExactValidGroutsSaid : Prop := fnExactValidGroutsRow.holds Try.pinned (OpenSpec.ofChange fnExactValidGroutsSpec)

/-- ITS FALSE NEIGHBOUR: 'it returns false'. Refute it at one input. -/
def fnExactValidGroutsWrong : ChangeSpec := { name := "fnExactValidGrouts", fn := fun _ => fun
  | [d] => { results := [.lit (.bool false)], args := [d] }
  | _ => none }
def FnExactValidGroutsWrongFalsely : Prop := fnExactValidGroutsRow.holds Try.pinned (OpenSpec.ofChange fnExactValidGroutsWrong)

/-- 'laws.FnExactLevelsOf': WHATEVER THE INPUT: true; the input reads as it did. -/
def fnExactLevelsOfSpec : ChangeSpec := { name := "fnExactLevelsOf", fn := fun _ => fun
  | [d1, d2, d3] => { results := [.lit (.bool true)], args := [d1, d2, d3] }
  | _ => none }
def fnExactLevelsOfRow : OpenClaim := { program := "ytikpjjllccijoaa", sum := "c451a048b9f21b80f867695c341d12354c8844224be42b8ae8852d14aade9829", func := "loop.example/g01099/laws.FnExactLevelsOf", spec := "fnExactLevelsOf", unfollowed := true, recurses := true, plainKeys := false, apart := false }
def FnExactLevelsOfSaid : Prop := fnExactLevelsOfRow.holds Try.pinned (OpenSpec.ofChange fnExactLevelsOfSpec)

/-- ITS FALSE NEIGHBOUR: 'it returns false'. Refute it at one input. -/
def fnExactLevelsOfWrong : ChangeSpec := { name := "fnExactLevelsOf", fn := fun _ => fun
  | [d1, d2, d3] => { results := [.lit (.bool false)], args := [d1, d2, d3] }
  | _ => none }
def FnExactLevelsOfWrongFalsely : Prop := fnExactLevelsOfRow.holds Try.pinned (OpenSpec.ofChange fnExactLevelsOfWrong)

/- THE SECOND FORM. 'bulk': how many values and letters a reading holds, each counted each time it is reached (what is shared counts as often as it is met; a slice's spare places count too). A statement '..UptoSaid' is the law's where the arguments, and the package variables that the reading takes, are together of bulk at most 1048576: NARROWER than '..Said'. Prove '..Said' where nothing that the law and all that it calls make is longer than what came in: it says more and counts as full. Else prove '..UptoSaid'. A law counts once. -/
mutual
def uptoBulk {H : Type} : DataW H → Nat
  | .lit (.string bytes) => bytes.length + 1
  | .lit _ => 1
  | .nil => 1
  | .ptr d => uptoBulk d + 1
  | .slice elems spare => uptoBulkAll elems + uptoBulkAll spare + 1
  | .agg parts => uptoBulkAll parts + 1
  | .iface _ d => uptoBulk d + 1
  | .map entries => uptoBulkEntries entries + 1
  | .held _ => 1
def uptoBulkAll {H : Type} : List (DataW H) → Nat
  | [] => 0
  | d :: r => uptoBulk d + uptoBulkAll r
def uptoBulkEntries {H : Type} : List (Lit × DataW H) → Nat
  | [] => 0
  | x :: r => uptoBulkEntry x + uptoBulkEntries r
def uptoBulkEntry {H : Type} : Lit × DataW H → Nat
  | (.string bytes, d) => bytes.length + uptoBulk d + 1
  | (_, d) => uptoBulk d + 1
 end
def uptoSmall : (H : Type) → List (DataW H) → Bool := fun _ ds => decide (uptoBulkAll ds ≤ 1048576)
def OpenSpec.upto (s : _root_.Go.ChangeSpec) : _root_.Go.OpenSpec := { _root_.Go.OpenSpec.ofChange s with cond := some uptoSmall }

/-- 'laws.FnExactValidWorks', WHERE WHAT IT READS IS OF BULK AT MOST 1048576: true; the input reads as it did. -/
def fnExactValidWorksUptoRow : OpenClaim := { program := "ytikpjjllccijoaa", sum := "c451a048b9f21b80f867695c341d12354c8844224be42b8ae8852d14aade9829", func := "loop.example/g01099/laws.FnExactValidWorks", spec := "fnExactValidWorks", plainKeys := false, apart := false, narrowed := true }
def FnExactValidWorksUptoSaid : Prop := fnExactValidWorksUptoRow.holds Try.pinned (OpenSpec.upto fnExactValidWorksSpec)

/-- 'laws.FnExactReadyBy', WHERE WHAT IT READS IS OF BULK AT MOST 1048576: true; the input reads as it did. -/
def fnExactReadyByUptoRow : OpenClaim := { program := "ytikpjjllccijoaa", sum := "c451a048b9f21b80f867695c341d12354c8844224be42b8ae8852d14aade9829", func := "loop.example/g01099/laws.FnExactReadyBy", spec := "fnExactReadyBy", plainKeys := false, apart := false, narrowed := true }
def FnExactReadyByUptoSaid : Prop := fnExactReadyByUptoRow.holds Try.pinned (OpenSpec.upto fnExactReadyBySpec)

/-- 'laws.FnTrough', WHERE WHAT IT READS IS OF BULK AT MOST 1048576: true; the input reads as it did. -/
def fnTroughUptoRow : OpenClaim := { program := "ytikpjjllccijoaa", sum := "c451a048b9f21b80f867695c341d12354c8844224be42b8ae8852d14aade9829", func := "loop.example/g01099/laws.FnTrough", spec := "fnTrough", plainKeys := false, apart := false, narrowed := true }
def FnTroughUptoSaid : Prop := fnTroughUptoRow.holds Try.pinned (OpenSpec.upto fnTroughSpec)

/-- 'laws.FnExactValidOrders', WHERE WHAT IT READS IS OF BULK AT MOST 1048576: true; the input reads as it did. -/
def fnExactValidOrdersUptoRow : OpenClaim := { program := "ytikpjjllccijoaa", sum := "c451a048b9f21b80f867695c341d12354c8844224be42b8ae8852d14aade9829", func := "loop.example/g01099/laws.FnExactValidOrders", spec := "fnExactValidOrders", plainKeys := false, apart := false, narrowed := true }
def FnExactValidOrdersUptoSaid : Prop := fnExactValidOrdersUptoRow.holds Try.pinned (OpenSpec.upto fnExactValidOrdersSpec)

/-- 'laws.FnExactLossOf', WHERE WHAT IT READS IS OF BULK AT MOST 1048576: true; the input reads as it did. -/
def fnExactLossOfUptoRow : OpenClaim := { program := "ytikpjjllccijoaa", sum := "c451a048b9f21b80f867695c341d12354c8844224be42b8ae8852d14aade9829", func := "loop.example/g01099/laws.FnExactLossOf", spec := "fnExactLossOf", unfollowed := true, recurses := true, plainKeys := false, apart := false, narrowed := true }
def FnExactLossOfUptoSaid : Prop := fnExactLossOfUptoRow.holds Try.pinned (OpenSpec.upto fnExactLossOfSpec)

/-- 'laws.FnExactValidLosses', WHERE WHAT IT READS IS OF BULK AT MOST 1048576: true; the input reads as it did. -/
def fnExactValidLossesUptoRow : OpenClaim := { program := "ytikpjjllccijoaa", sum := "c451a048b9f21b80f867695c341d12354c8844224be42b8ae8852d14aade9829", func := "loop.example/g01099/laws.FnExactValidLosses", spec := "fnExactValidLosses", plainKeys := false, apart := false, narrowed := true }
def FnExactValidLossesUptoSaid : Prop := fnExactValidLossesUptoRow.holds Try.pinned (OpenSpec.upto fnExactValidLossesSpec)

/-- 'laws.FnLifted', WHERE WHAT IT READS IS OF BULK AT MOST 1048576: true; the input reads as it did. -/
def fnLiftedUptoRow : OpenClaim := { program := "ytikpjjllccijoaa", sum := "c451a048b9f21b80f867695c341d12354c8844224be42b8ae8852d14aade9829", func := "loop.example/g01099/laws.FnLifted", spec := "fnLifted", unfollowed := true, recurses := true, plainKeys := false, apart := false, narrowed := true }
def FnLiftedUptoSaid : Prop := fnLiftedUptoRow.holds Try.pinned (OpenSpec.upto fnLiftedSpec)

/-- 'laws.FnExactVolumeOf', WHERE WHAT IT READS IS OF BULK AT MOST 1048576: true; the input reads as it did. -/
def fnExactVolumeOfUptoRow : OpenClaim := { program := "ytikpjjllccijoaa", sum := "c451a048b9f21b80f867695c341d12354c8844224be42b8ae8852d14aade9829", func := "loop.example/g01099/laws.FnExactVolumeOf", spec := "fnExactVolumeOf", unfollowed := true, recurses := true, plainKeys := false, apart := false, narrowed := true }
def FnExactVolumeOfUptoSaid : Prop := fnExactVolumeOfUptoRow.holds Try.pinned (OpenSpec.upto fnExactVolumeOfSpec)

/-- 'laws.FnExactTroughOf', WHERE WHAT IT READS IS OF BULK AT MOST 1048576: true; the input reads as it did. -/
def fnExactTroughOfUptoRow : OpenClaim := { program := "ytikpjjllccijoaa", sum := "c451a048b9f21b80f867695c341d12354c8844224be42b8ae8852d14aade9829", func := "loop.example/g01099/laws.FnExactTroughOf", spec := "fnExactTroughOf", plainKeys := false, apart := false, narrowed := true }
def FnExactTroughOfUptoSaid : Prop := fnExactTroughOfUptoRow.holds Try.pinned (OpenSpec.upto fnExactTroughOfSpec)

/-- 'laws.FnExactSteepestOf', WHERE WHAT IT READS IS OF BULK AT MOST 1048576: true; the input reads as it did. -/
def fnExactSteepestOfUptoRow : OpenClaim := { program := "ytikpjjllccijoaa", sum := "c451a048b9f21b80f867695c341d12354c8844224be42b8ae8852d14aade9829", func := "loop.example/g01099/laws.FnExactSteepestOf", spec := "fnExactSteepestOf", unfollowed := true, recurses := true, plainKeys := false, apart := false, narrowed := true }
def FnExactSteepestOfUptoSaid : Prop := fnExactSteepestOfUptoRow.holds Try.pinned (OpenSpec.upto fnExactSteepestOfSpec)

/-- 'laws.FnExactValidGrouts', WHERE WHAT IT READS IS OF BULK AT MOST 1048576: true; the input reads as it did. -/
def fnExactValidGroutsUptoRow : OpenClaim := { program := "ytikpjjllccijoaa", sum := "c451a048b9f21b80f867695c341d12354c8844224be42b8ae8852d14aade9829", func := "loop.example/g01099/laws.FnExactValidGrouts", spec := "fnExactValidGrouts", unfollowed := true, recurses := true, plainKeys := false, apart := false, narrowed := true }
def FnExactValidGroutsUptoSaid : Prop := fnExactValidGroutsUptoRow.holds Try.pinned (OpenSpec.upto fnExactValidGroutsSpec)

/-- 'laws.FnExactLevelsOf', WHERE WHAT IT READS IS OF BULK AT MOST 1048576: true; the input reads as it did. -/
def fnExactLevelsOfUptoRow : OpenClaim := { program := "ytikpjjllccijoaa", sum := "c451a048b9f21b80f867695c341d12354c8844224be42b8ae8852d14aade9829", func := "loop.example/g01099/laws.FnExactLevelsOf", spec := "fnExactLevelsOf", unfollowed := true, recurses := true, plainKeys := false, apart := false, narrowed := true }
def FnExactLevelsOfUptoSaid : Prop := fnExactLevelsOfUptoRow.holds Try.pinned (OpenSpec.upto fnExactLevelsOfSpec)

end Rows
end Go.Proofs.Ytikpjjllccijoaa
