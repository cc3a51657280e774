/-
  No cell of these rows narrows 'for every input' (looked for: loops, veiled, ifaces, maps, wideKeys, modest, calm, conditions, laid).
  DERIVED. THE GIVEN ROWS OF THIS SEAT. 10 by the template 'for every input the law returns true; each argument reads behind the call as it read before'; 0 by the template 'total and deterministic' (their statements: YtagmaflnnaonjaaTotals.lean).
  GIVEN WITH THE SEED: the statements are not yours to turn. If you find one false, say at which input.
  Laid BY PROGRAM, IN A SANDBOX (cutbox-rows.mjs): the forced cells as the released guide's own fill.sh prints them over the translation 5e8081bc44d64fa2… (all of the seat's roots in one cut). By AI agents, Wed Nov 11 2026. No macro, syntax, notation, axiom, sorry.
-/
import Derived.Test.YtagmaflnnaonjaaChecked
import GoSem.Claim
import GoSem.ClaimJoined
import GoSem.ClaimMapViews
import Derived.JoinedTies
import Derived.KernelRfl
namespace Go.Proofs.Ytagmaflnnaonjaa
/- THE CELL 'sum', in the pinned program and in every row, IS THE sha256 OF THE DUMP (.gsa) THAT YtagmaflnnaonjaaProg.lean LOADS. Nothing in Lean hashes anything: it is a label: what it is worth is what the hold of that sum in a sandbox is worth. -/
noncomputable def Try.pinned : Pinned := { name := "ytagmaflnnaonjaa", sum := "5e8081bc44d64fa2ea79450cf7feb82fbd001a3bbde1c5a5fa8db63d6f7dd7e1", checked := Try.checked }
namespace Rows
def none {H : Type} : Left H := { results := [], args := [] }

/-- 'laws.FnExactCostOf': WHATEVER THE INPUT: true; the input reads as it did. -/
def fnExactCostOfSpec : ChangeSpec := { name := "fnExactCostOf", fn := fun _ => fun
  | [d1, d2] => { results := [.lit (.bool true)], args := [d1, d2] }
  | _ => none }
def fnExactCostOfRow : OpenClaim := { program := "ytagmaflnnaonjaa", sum := "5e8081bc44d64fa2ea79450cf7feb82fbd001a3bbde1c5a5fa8db63d6f7dd7e1", func := "loop.example/g01099/laws.FnExactCostOf", spec := "fnExactCostOf", unfollowed := true, recurses := true, apart := false }
def FnExactCostOfSaid : Prop := fnExactCostOfRow.holds Try.pinned (OpenSpec.ofChange fnExactCostOfSpec)

/-- ITS FALSE NEIGHBOUR: 'it returns false'. Refute it at one input. -/
def fnExactCostOfWrong : ChangeSpec := { name := "fnExactCostOf", fn := fun _ => fun
  | [d1, d2] => { results := [.lit (.bool false)], args := [d1, d2] }
  | _ => none }
def FnExactCostOfWrongFalsely : Prop := fnExactCostOfRow.holds Try.pinned (OpenSpec.ofChange fnExactCostOfWrong)

/-- 'laws.FnExactNeedsOf': WHATEVER THE INPUT: true; the input reads as it did. -/
def fnExactNeedsOfSpec : ChangeSpec := { name := "fnExactNeedsOf", fn := fun _ => fun
  | [d1, d2] => { results := [.lit (.bool true)], args := [d1, d2] }
  | _ => none }
def fnExactNeedsOfRow : OpenClaim := { program := "ytagmaflnnaonjaa", sum := "5e8081bc44d64fa2ea79450cf7feb82fbd001a3bbde1c5a5fa8db63d6f7dd7e1", func := "loop.example/g01099/laws.FnExactNeedsOf", spec := "fnExactNeedsOf", unfollowed := true, recurses := true, apart := false }
def FnExactNeedsOfSaid : Prop := fnExactNeedsOfRow.holds Try.pinned (OpenSpec.ofChange fnExactNeedsOfSpec)

/-- ITS FALSE NEIGHBOUR: 'it returns false'. Refute it at one input. -/
def fnExactNeedsOfWrong : ChangeSpec := { name := "fnExactNeedsOf", fn := fun _ => fun
  | [d1, d2] => { results := [.lit (.bool false)], args := [d1, d2] }
  | _ => none }
def FnExactNeedsOfWrongFalsely : Prop := fnExactNeedsOfRow.holds Try.pinned (OpenSpec.ofChange fnExactNeedsOfWrong)

/-- 'laws.FnExactFaceOf': WHATEVER THE INPUT: true; the input reads as it did. -/
def fnExactFaceOfSpec : ChangeSpec := { name := "fnExactFaceOf", fn := fun _ => fun
  | [d1, d2, d3] => { results := [.lit (.bool true)], args := [d1, d2, d3] }
  | _ => none }
def fnExactFaceOfRow : OpenClaim := { program := "ytagmaflnnaonjaa", sum := "5e8081bc44d64fa2ea79450cf7feb82fbd001a3bbde1c5a5fa8db63d6f7dd7e1", func := "loop.example/g01099/laws.FnExactFaceOf", spec := "fnExactFaceOf", unfollowed := true, recurses := true, apart := false }
def FnExactFaceOfSaid : Prop := fnExactFaceOfRow.holds Try.pinned (OpenSpec.ofChange fnExactFaceOfSpec)

/-- ITS FALSE NEIGHBOUR: 'it returns false'. Refute it at one input. -/
def fnExactFaceOfWrong : ChangeSpec := { name := "fnExactFaceOf", fn := fun _ => fun
  | [d1, d2, d3] => { results := [.lit (.bool false)], args := [d1, d2, d3] }
  | _ => none }
def FnExactFaceOfWrongFalsely : Prop := fnExactFaceOfRow.holds Try.pinned (OpenSpec.ofChange fnExactFaceOfWrong)

/-- 'laws.FnExactWeightOf': WHATEVER THE INPUT: true; the input reads as it did. -/
def fnExactWeightOfSpec : ChangeSpec := { name := "fnExactWeightOf", fn := fun _ => fun
  | [d1, d2, d3] => { results := [.lit (.bool true)], args := [d1, d2, d3] }
  | _ => none }
def fnExactWeightOfRow : OpenClaim := { program := "ytagmaflnnaonjaa", sum := "5e8081bc44d64fa2ea79450cf7feb82fbd001a3bbde1c5a5fa8db63d6f7dd7e1", func := "loop.example/g01099/laws.FnExactWeightOf", spec := "fnExactWeightOf", unfollowed := true, recurses := true, apart := false }
def FnExactWeightOfSaid : Prop := fnExactWeightOfRow.holds Try.pinned (OpenSpec.ofChange fnExactWeightOfSpec)

/-- ITS FALSE NEIGHBOUR: 'it returns false'. Refute it at one input. -/
def fnExactWeightOfWrong : ChangeSpec := { name := "fnExactWeightOf", fn := fun _ => fun
  | [d1, d2, d3] => { results := [.lit (.bool false)], args := [d1, d2, d3] }
  | _ => none }
def FnExactWeightOfWrongFalsely : Prop := fnExactWeightOfRow.holds Try.pinned (OpenSpec.ofChange fnExactWeightOfWrong)

/-- 'laws.FnExactIsEnough': WHATEVER THE INPUT: true; the input reads as it did. -/
def fnExactIsEnoughSpec : ChangeSpec := { name := "fnExactIsEnough", fn := fun _ => fun
  | [d1, d2] => { results := [.lit (.bool true)], args := [d1, d2] }
  | _ => none }
def fnExactIsEnoughRow : OpenClaim := { program := "ytagmaflnnaonjaa", sum := "5e8081bc44d64fa2ea79450cf7feb82fbd001a3bbde1c5a5fa8db63d6f7dd7e1", func := "loop.example/g01099/laws.FnExactIsEnough", spec := "fnExactIsEnough", unfollowed := true, recurses := true, apart := false }
def FnExactIsEnoughSaid : Prop := fnExactIsEnoughRow.holds Try.pinned (OpenSpec.ofChange fnExactIsEnoughSpec)

/-- ITS FALSE NEIGHBOUR: 'it returns false'. Refute it at one input. -/
def fnExactIsEnoughWrong : ChangeSpec := { name := "fnExactIsEnough", fn := fun _ => fun
  | [d1, d2] => { results := [.lit (.bool false)], args := [d1, d2] }
  | _ => none }
def FnExactIsEnoughWrongFalsely : Prop := fnExactIsEnoughRow.holds Try.pinned (OpenSpec.ofChange fnExactIsEnoughWrong)

/-- 'laws.FnExactFirstFailure': WHATEVER THE INPUT: true; the input reads as it did. -/
def fnExactFirstFailureSpec : ChangeSpec := { name := "fnExactFirstFailure", fn := fun _ => fun
  | [d1, d2] => { results := [.lit (.bool true)], args := [d1, d2] }
  | _ => none }
def fnExactFirstFailureRow : OpenClaim := { program := "ytagmaflnnaonjaa", sum := "5e8081bc44d64fa2ea79450cf7feb82fbd001a3bbde1c5a5fa8db63d6f7dd7e1", func := "loop.example/g01099/laws.FnExactFirstFailure", spec := "fnExactFirstFailure", unfollowed := true, recurses := true, apart := false }
def FnExactFirstFailureSaid : Prop := fnExactFirstFailureRow.holds Try.pinned (OpenSpec.ofChange fnExactFirstFailureSpec)

/-- ITS FALSE NEIGHBOUR: 'it returns false'. Refute it at one input. -/
def fnExactFirstFailureWrong : ChangeSpec := { name := "fnExactFirstFailure", fn := fun _ => fun
  | [d1, d2] => { results := [.lit (.bool false)], args := [d1, d2] }
  | _ => none }
def FnExactFirstFailureWrongFalsely : Prop := fnExactFirstFailureRow.holds Try.pinned (OpenSpec.ofChange fnExactFirstFailureWrong)

/-- 'laws.FnAlong': WHATEVER THE INPUT: true; the input reads as it did. -/
def fnAlongSpec : ChangeSpec := { name := "fnAlong", fn := fun _ => fun
  | [d1, d2] => { results := [.lit (.bool true)], args := [d1, d2] }
  | _ => none }
def fnAlongRow : OpenClaim := { program := "ytagmaflnnaonjaa", sum := "5e8081bc44d64fa2ea79450cf7feb82fbd001a3bbde1c5a5fa8db63d6f7dd7e1", func := "loop.example/g01099/laws.FnAlong", spec := "fnAlong", unfollowed := true, recurses := true, apart := false }
def FnAlongSaid : Prop := fnAlongRow.holds Try.pinned (OpenSpec.ofChange fnAlongSpec)

/-- ITS FALSE NEIGHBOUR: 'it returns false'. Refute it at one input. -/
def fnAlongWrong : ChangeSpec := { name := "fnAlong", fn := fun _ => fun
  | [d1, d2] => { results := [.lit (.bool false)], args := [d1, d2] }
  | _ => none }
def FnAlongWrongFalsely : Prop := fnAlongRow.holds Try.pinned (OpenSpec.ofChange fnAlongWrong)

/-- 'laws.FnExactWornAt': WHATEVER THE INPUT: true; the input reads as it did. -/
def fnExactWornAtSpec : ChangeSpec := { name := "fnExactWornAt", fn := fun _ => fun
  | [d1, d2, d3] => { results := [.lit (.bool true)], args := [d1, d2, d3] }
  | _ => none }
def fnExactWornAtRow : OpenClaim := { program := "ytagmaflnnaonjaa", sum := "5e8081bc44d64fa2ea79450cf7feb82fbd001a3bbde1c5a5fa8db63d6f7dd7e1", func := "loop.example/g01099/laws.FnExactWornAt", spec := "fnExactWornAt", unfollowed := true, recurses := true, apart := false }
def FnExactWornAtSaid : Prop := fnExactWornAtRow.holds Try.pinned (OpenSpec.ofChange fnExactWornAtSpec)

/-- ITS FALSE NEIGHBOUR: 'it returns false'. Refute it at one input. -/
def fnExactWornAtWrong : ChangeSpec := { name := "fnExactWornAt", fn := fun _ => fun
  | [d1, d2, d3] => { results := [.lit (.bool false)], args := [d1, d2, d3] }
  | _ => none }
def FnExactWornAtWrongFalsely : Prop := fnExactWornAtRow.holds Try.pinned (OpenSpec.ofChange fnExactWornAtWrong)

/-- 'laws.FnExactAddHole': WHATEVER THE INPUT: true; the input reads as it did. -/
def fnExactAddHoleSpec : ChangeSpec := { name := "fnExactAddHole", fn := fun _ => fun
  | [d1, d2] => { results := [.lit (.bool true)], args := [d1, d2] }
  | _ => none }
def fnExactAddHoleRow : OpenClaim := { program := "ytagmaflnnaonjaa", sum := "5e8081bc44d64fa2ea79450cf7feb82fbd001a3bbde1c5a5fa8db63d6f7dd7e1", func := "loop.example/g01099/laws.FnExactAddHole", spec := "fnExactAddHole", inPlace := ["slices.overlaps[loop.example/g01099/impl.Hole]"], unfollowed := true, recurses := true, apart := false }
def FnExactAddHoleSaid : Prop := fnExactAddHoleRow.holds Try.pinned (OpenSpec.ofChange fnExactAddHoleSpec)

/-- ITS FALSE NEIGHBOUR: 'it returns false'. Refute it at one input. -/
def fnExactAddHoleWrong : ChangeSpec := { name := "fnExactAddHole", fn := fun _ => fun
  | [d1, d2] => { results := [.lit (.bool false)], args := [d1, d2] }
  | _ => none }
def FnExactAddHoleWrongFalsely : Prop := fnExactAddHoleRow.holds Try.pinned (OpenSpec.ofChange fnExactAddHoleWrong)

/-- 'laws.FnExactPlanFor': WHATEVER THE INPUT: true; the input reads as it did. -/
def fnExactPlanForSpec : ChangeSpec := { name := "fnExactPlanFor", fn := fun _ => fun
  | [d1, d2] => { results := [.lit (.bool true)], args := [d1, d2] }
  | _ => none }
def fnExactPlanForRow : OpenClaim := { program := "ytagmaflnnaonjaa", sum := "5e8081bc44d64fa2ea79450cf7feb82fbd001a3bbde1c5a5fa8db63d6f7dd7e1", func := "loop.example/g01099/laws.FnExactPlanFor", spec := "fnExactPlanFor", unfollowed := true, recurses := true, apart := false }
def FnExactPlanForSaid : Prop := fnExactPlanForRow.holds Try.pinned (OpenSpec.ofChange fnExactPlanForSpec)

/-- ITS FALSE NEIGHBOUR: 'it returns false'. Refute it at one input. -/
def fnExactPlanForWrong : ChangeSpec := { name := "fnExactPlanFor", fn := fun _ => fun
  | [d1, d2] => { results := [.lit (.bool false)], args := [d1, d2] }
  | _ => none }
def FnExactPlanForWrongFalsely : Prop := fnExactPlanForRow.holds Try.pinned (OpenSpec.ofChange fnExactPlanForWrong)

/- THE SECOND FORM. 'bulk': how many values and letters a reading holds, each counted each time it is reached (what is shared counts as often as it is met; a slice's spare places count too). A statement '..UptoSaid' is the law's where the arguments, and the package variables that the reading takes, are together of bulk at most 1048576: NARROWER than '..Said'. Prove '..Said' where nothing that the law and all that it calls make is longer than what came in: it says more and counts as full. Else prove '..UptoSaid'. A law counts once. -/
mutual
def uptoBulk {H : Type} : DataW H → Nat
  | .lit (.string bytes) => bytes.length + 1
  | .lit _ => 1
  | .nil => 1
  | .ptr d => uptoBulk d + 1
  | .slice elems spare => uptoBulkAll elems + uptoBulkAll spare + 1
  | .agg parts => uptoBulkAll parts + 1
  | .iface _ d => uptoBulk d + 1
  | .map entries => uptoBulkEntries entries + 1
  | .held _ => 1
def uptoBulkAll {H : Type} : List (DataW H) → Nat
  | [] => 0
  | d :: r => uptoBulk d + uptoBulkAll r
def uptoBulkEntries {H : Type} : List (Lit × DataW H) → Nat
  | [] => 0
  | x :: r => uptoBulkEntry x + uptoBulkEntries r
def uptoBulkEntry {H : Type} : Lit × DataW H → Nat
  | (.string bytes, d) => bytes.length + uptoBulk d + 1
  | (_, d) => uptoBulk d + 1
 end
def uptoSmall : (H : Type) → List (DataW H) → Bool := fun _ ds => decide (uptoBulkAll ds ≤ 1048576)
def OpenSpec.upto (s : _root_.Go.ChangeSpec) : _root_.Go.OpenSpec := { _root_.Go.OpenSpec.ofChange s with cond := some uptoSmall }

/-- 'laws.FnExactCostOf', WHERE WHAT IT READS IS OF BULK AT MOST 1048576: true; the input reads as it did. -/
def fnExactCostOfUptoRow : OpenClaim := { program := "ytagmaflnnaonjaa", sum := "5e8081bc44d64fa2ea79450cf7feb82fbd001a3bbde1c5a5fa8db63d6f7dd7e1", func := "loop.example/g01099/laws.FnExactCostOf", spec := "fnExactCostOf", unfollowed := true, recurses := true, apart := false, narrowed := true }
def FnExactCostOfUptoSaid : Prop := fnExactCostOfUptoRow.holds Try.pinned (OpenSpec.upto fnExactCostOfSpec)

/-- 'laws.FnExactNeedsOf', WHERE WHAT IT READS IS OF BULK AT MOST 1048576: true; the input reads as it did. -/
def fnExactNeedsOfUptoRow : OpenClaim := { program := "ytagmaflnnaonjaa", sum := "5e8081bc44d64fa2ea79450cf7feb82fbd001a3bbde1c5a5fa8db63d6f7dd7e1", func := "loop.example/g01099/laws.FnExactNeedsOf", spec := "fnExactNeedsOf", unfollowed := true, recurses := true, apart := false, narrowed := true }
def FnExactNeedsOfUptoSaid : Prop := fnExactNeedsOfUptoRow.holds Try.pinned (OpenSpec.upto fnExactNeedsOfSpec)

/-- 'laws.FnExactFaceOf', WHERE WHAT IT READS IS OF BULK AT MOST 1048576: true; the input reads as it did. -/
def fnExactFaceOfUptoRow : OpenClaim := { program := "ytagmaflnnaonjaa", sum := "5e8081bc44d64fa2ea79450cf7feb82fbd001a3bbde1c5a5fa8db63d6f7dd7e1", func := "loop.example/g01099/laws.FnExactFaceOf", spec := "fnExactFaceOf", unfollowed := true, recurses := true, apart := false, narrowed := true }
def FnExactFaceOfUptoSaid : Prop := fnExactFaceOfUptoRow.holds Try.pinned (OpenSpec.upto fnExactFaceOfSpec)

/-- 'laws.FnExactWeightOf', WHERE WHAT IT READS IS OF BULK AT MOST 1048576: true; the input reads as it did. -/
def fnExactWeightOfUptoRow : OpenClaim := { program := "ytagmaflnnaonjaa", sum := "5e8081bc44d64fa2ea79450cf7feb82fbd001a3bbde1c5a5fa8db63d6f7dd7e1", func := "loop.example/g01099/laws.FnExactWeightOf", spec := "fnExactWeightOf", unfollowed := true, recurses := true, apart := false, narrowed := true }
def FnExactWeightOfUptoSaid : Prop := fnExactWeightOfUptoRow.holds Try.pinned (OpenSpec.upto fnExactWeightOfSpec)

/-- 'laws.FnExactIsEnough', WHERE WHAT IT READS IS OF BULK AT MOST 1048576: true; the input reads as it did. -/
def fnExactIsEnoughUptoRow : OpenClaim := { program := "ytagmaflnnaonjaa", sum := "5e8081bc44d64fa2ea79450cf7feb82fbd001a3bbde1c5a5fa8db63d6f7dd7e1", func := "loop.example/g01099/laws.FnExactIsEnough", spec := "fnExactIsEnough", unfollowed := true, recurses := true, apart := false, narrowed := true }
def FnExactIsEnoughUptoSaid : Prop := fnExactIsEnoughUptoRow.holds Try.pinned (OpenSpec.upto fnExactIsEnoughSpec)

/-- 'laws.FnExactFirstFailure', WHERE WHAT IT READS IS OF BULK AT MOST 1048576: true; the input reads as it did. -/
def fnExactFirstFailureUptoRow : OpenClaim := { program := "ytagmaflnnaonjaa", sum := "5e8081bc44d64fa2ea79450cf7feb82fbd001a3bbde1c5a5fa8db63d6f7dd7e1", func := "loop.example/g01099/laws.FnExactFirstFailure", spec := "fnExactFirstFailure", unfollowed := true, recurses := true, apart := false, narrowed := true }
def FnExactFirstFailureUptoSaid : Prop := fnExactFirstFailureUptoRow.holds Try.pinned (OpenSpec.upto fnExactFirstFailureSpec)

/-- 'laws.FnAlong', WHERE WHAT IT READS IS OF BULK AT MOST 1048576: true; the input reads as it did. -/
def fnAlongUptoRow : OpenClaim := { program := "ytagmaflnnaonjaa", sum := "5e8081bc44d64fa2ea79450cf7feb82fbd001a3bbde1c5a5fa8db63d6f7dd7e1", func := "loop.example/g01099/laws.FnAlong", spec := "fnAlong", unfollowed := true, recurses := true, apart := false, narrowed := true }
def FnAlongUptoSaid : Prop := fnAlongUptoRow.holds Try.pinned (OpenSpec.upto fnAlongSpec)

/-- 'laws.FnExactWornAt', WHERE WHAT IT READS IS OF BULK AT MOST 1048576: true; the input reads as it did. -/
def fnExactWornAtUptoRow : OpenClaim := { program := "ytagmaflnnaonjaa", sum := "5e8081bc44d64fa2ea79450cf7feb82fbd001a3bbde1c5a5fa8db63d6f7dd7e1", func := "loop.example/g01099/laws.FnExactWornAt", spec := "fnExactWornAt", unfollowed := true, recurses := true, apart := false, narrowed := true }
def FnExactWornAtUptoSaid : Prop := fnExactWornAtUptoRow.holds Try.pinned (OpenSpec.upto fnExactWornAtSpec)

/-- 'laws.FnExactAddHole', WHERE WHAT IT READS IS OF BULK AT MOST 1048576: true; the input reads as it did. -/
def fnExactAddHoleUptoRow : OpenClaim := { program := "ytagmaflnnaonjaa", sum := "5e8081bc44d64fa2ea79450cf7feb82fbd001a3bbde1c5a5fa8db63d6f7dd7e1", func := "loop.example/g01099/laws.FnExactAddHole", spec := "fnExactAddHole", inPlace := ["slices.overlaps[loop.example/g01099/impl.Hole]"], unfollowed := true, recurses := true, apart := false, narrowed := true }
def FnExactAddHoleUptoSaid : Prop := fnExactAddHoleUptoRow.holds Try.pinned (OpenSpec.upto fnExactAddHoleSpec)

/-- 'laws.FnExactPlanFor', WHERE WHAT IT READS IS OF BULK AT MOST 1048576: true; the input reads as it did. -/
def fnExactPlanForUptoRow : OpenClaim := { program := "ytagmaflnnaonjaa", sum := "5e8081bc44d64fa2ea79450cf7feb82fbd001a3bbde1c5a5fa8db63d6f7dd7e1", func := "loop.example/g01099/laws.FnExactPlanFor", spec := "fnExactPlanFor", unfollowed := true, recurses := true, apart := false, narrowed := true }
def FnExactPlanForUptoSaid : Prop := fnExactPlanForUptoRow.holds Try.pinned (OpenSpec.upto fnExactPlanForSpec)

end Rows
end Go.Proofs.Ytagmaflnnaonjaa
