/-
  No cell of these rows narrows 'for every input' (looked for: loops, veiled, ifaces, maps, wideKeys, modest, calm, conditions, laid).
  DERIVED. THE GIVEN ROWS OF THIS SEAT. 7 by the template 'for every input the law returns true; each argument reads behind the call as it read before'; 0 by the template 'total and deterministic' (their statements: YtgfpbiaocokdeaaTotals.lean).
  GIVEN WITH THE SEED: the statements are not yours to turn. If you find one false, say at which input.
  Laid BY PROGRAM, IN A SANDBOX (cutbox-rows.mjs): the forced cells as the released guide's own fill.sh prints them over the translation cbd7aaa9e5a2ae88… (all of the seat's roots in one cut). By AI agents, Wed Nov 11 2026. No macro, syntax, notation, axiom, sorry.
-/
import Derived.Test.YtgfpbiaocokdeaaChecked
import GoSem.Claim
import GoSem.ClaimJoined
import GoSem.ClaimMapViews
import Derived.JoinedTies
import Derived.KernelRfl
namespace Go.Proofs.Ytgfpbiaocokdeaa
/- THE CELL 'sum', in the pinned program and in every row, IS THE sha256 OF THE DUMP (.gsa) THAT YtgfpbiaocokdeaaProg.lean LOADS. Nothing in Lean hashes anything: it is a label: what it is worth is what the hold of that sum in a sandbox is worth. -/
noncomputable def Try.pinned : Pinned := { name := "ytgfpbiaocokdeaa", sum := "cbd7aaa9e5a2ae88776abb744516c6f1904c616828bce863e5b2e465d4b23861", checked := Try.checked }
namespace Rows
def none {H : Type} : Left H := { results := [], args := [] }

/-- 'laws.FnExactFaceOf': WHATEVER THE INPUT: true; the input reads as it did. -/
def fnExactFaceOfSpec : ChangeSpec := { name := "fnExactFaceOf", fn := fun _ => fun
  | [d1, d2, d3] => { results := [.lit (.bool true)], args := [d1, d2, d3] }
  | _ => none }
def fnExactFaceOfRow : OpenClaim := { program := "ytgfpbiaocokdeaa", sum := "cbd7aaa9e5a2ae88776abb744516c6f1904c616828bce863e5b2e465d4b23861", func := "loop.example/g01099/laws.FnExactFaceOf", spec := "fnExactFaceOf", unfollowed := true, recurses := true, apart := false }
def FnExactFaceOfSaid : Prop := fnExactFaceOfRow.holds Try.pinned (OpenSpec.ofChange fnExactFaceOfSpec)

/-- ITS FALSE NEIGHBOUR: 'it returns false'. Refute it at one input. -/
def fnExactFaceOfWrong : ChangeSpec := { name := "fnExactFaceOf", fn := fun _ => fun
  | [d1, d2, d3] => { results := [.lit (.bool false)], args := [d1, d2, d3] }
  | _ => none }
def FnExactFaceOfWrongFalsely : Prop := fnExactFaceOfRow.holds Try.pinned (OpenSpec.ofChange fnExactFaceOfWrong)

/-- 'laws.FnExactWeightOf': WHATEVER THE INPUT: true; the input reads as it did. -/
def fnExactWeightOfSpec : ChangeSpec := { name := "fnExactWeightOf", fn := fun _ => fun
  | [d1, d2, d3] => { results := [.lit (.bool true)], args := [d1, d2, d3] }
  | _ => none }
def fnExactWeightOfRow : OpenClaim := { program := "ytgfpbiaocokdeaa", sum := "cbd7aaa9e5a2ae88776abb744516c6f1904c616828bce863e5b2e465d4b23861", func := "loop.example/g01099/laws.FnExactWeightOf", spec := "fnExactWeightOf", unfollowed := true, recurses := true, apart := false }
def FnExactWeightOfSaid : Prop := fnExactWeightOfRow.holds Try.pinned (OpenSpec.ofChange fnExactWeightOfSpec)

/-- ITS FALSE NEIGHBOUR: 'it returns false'. Refute it at one input. -/
def fnExactWeightOfWrong : ChangeSpec := { name := "fnExactWeightOf", fn := fun _ => fun
  | [d1, d2, d3] => { results := [.lit (.bool false)], args := [d1, d2, d3] }
  | _ => none }
def FnExactWeightOfWrongFalsely : Prop := fnExactWeightOfRow.holds Try.pinned (OpenSpec.ofChange fnExactWeightOfWrong)

/-- 'laws.FnAlong': WHATEVER THE INPUT: true; the input reads as it did. -/
def fnAlongSpec : ChangeSpec := { name := "fnAlong", fn := fun _ => fun
  | [d1, d2] => { results := [.lit (.bool true)], args := [d1, d2] }
  | _ => none }
def fnAlongRow : OpenClaim := { program := "ytgfpbiaocokdeaa", sum := "cbd7aaa9e5a2ae88776abb744516c6f1904c616828bce863e5b2e465d4b23861", func := "loop.example/g01099/laws.FnAlong", spec := "fnAlong", unfollowed := true, recurses := true, apart := false }
def FnAlongSaid : Prop := fnAlongRow.holds Try.pinned (OpenSpec.ofChange fnAlongSpec)

/-- ITS FALSE NEIGHBOUR: 'it returns false'. Refute it at one input. -/
def fnAlongWrong : ChangeSpec := { name := "fnAlong", fn := fun _ => fun
  | [d1, d2] => { results := [.lit (.bool false)], args := [d1, d2] }
  | _ => none }
def FnAlongWrongFalsely : Prop := fnAlongRow.holds Try.pinned (OpenSpec.ofChange fnAlongWrong)

/-- 'laws.FnExactAddHole': WHATEVER THE INPUT: true; the input reads as it did. -/
def fnExactAddHoleSpec : ChangeSpec := { name := "fnExactAddHole", fn := fun _ => fun
  | [d1, d2] => { results := [.lit (.bool true)], args := [d1, d2] }
  | _ => none }
def fnExactAddHoleRow : OpenClaim := { program := "ytgfpbiaocokdeaa", sum := "cbd7aaa9e5a2ae88776abb744516c6f1904c616828bce863e5b2e465d4b23861", func := "loop.example/g01099/laws.FnExactAddHole", spec := "fnExactAddHole", inPlace := ["slices.overlaps[loop.example/g01099/impl.Hole]"], unfollowed := true, recurses := true, apart := false }
def FnExactAddHoleSaid : Prop := fnExactAddHoleRow.holds Try.pinned (OpenSpec.ofChange fnExactAddHoleSpec)

/-- ITS FALSE NEIGHBOUR: 'it returns false'. Refute it at one input. -/
def fnExactAddHoleWrong : ChangeSpec := { name := "fnExactAddHole", fn := fun _ => fun
  | [d1, d2] => { results := [.lit (.bool false)], args := [d1, d2] }
  | _ => none }
def FnExactAddHoleWrongFalsely : Prop := fnExactAddHoleRow.holds Try.pinned (OpenSpec.ofChange fnExactAddHoleWrong)

/-- 'laws.FnExactClassesAlong': WHATEVER THE INPUT: true; the input reads as it did. -/
def fnExactClassesAlongSpec : ChangeSpec := { name := "fnExactClassesAlong", fn := fun _ => fun
  | [d1, d2] => { results := [.lit (.bool true)], args := [d1, d2] }
  | _ => none }
def fnExactClassesAlongRow : OpenClaim := { program := "ytgfpbiaocokdeaa", sum := "cbd7aaa9e5a2ae88776abb744516c6f1904c616828bce863e5b2e465d4b23861", func := "loop.example/g01099/laws.FnExactClassesAlong", spec := "fnExactClassesAlong", unfollowed := true, recurses := true, apart := false }
def FnExactClassesAlongSaid : Prop := fnExactClassesAlongRow.holds Try.pinned (OpenSpec.ofChange fnExactClassesAlongSpec)

/-- ITS FALSE NEIGHBOUR: 'it returns false'. Refute it at one input. -/
def fnExactClassesAlongWrong : ChangeSpec := { name := "fnExactClassesAlong", fn := fun _ => fun
  | [d1, d2] => { results := [.lit (.bool false)], args := [d1, d2] }
  | _ => none }
def FnExactClassesAlongWrongFalsely : Prop := fnExactClassesAlongRow.holds Try.pinned (OpenSpec.ofChange fnExactClassesAlongWrong)

/-- 'laws.FnExactMixedRings': WHATEVER THE INPUT: true; the input reads as it did. -/
def fnExactMixedRingsSpec : ChangeSpec := { name := "fnExactMixedRings", fn := fun _ => fun
  | [d1, d2] => { results := [.lit (.bool true)], args := [d1, d2] }
  | _ => none }
def fnExactMixedRingsRow : OpenClaim := { program := "ytgfpbiaocokdeaa", sum := "cbd7aaa9e5a2ae88776abb744516c6f1904c616828bce863e5b2e465d4b23861", func := "loop.example/g01099/laws.FnExactMixedRings", spec := "fnExactMixedRings", unfollowed := true, recurses := true, apart := false }
def FnExactMixedRingsSaid : Prop := fnExactMixedRingsRow.holds Try.pinned (OpenSpec.ofChange fnExactMixedRingsSpec)

/-- ITS FALSE NEIGHBOUR: 'it returns false'. Refute it at one input. -/
def fnExactMixedRingsWrong : ChangeSpec := { name := "fnExactMixedRings", fn := fun _ => fun
  | [d1, d2] => { results := [.lit (.bool false)], args := [d1, d2] }
  | _ => none }
def FnExactMixedRingsWrongFalsely : Prop := fnExactMixedRingsRow.holds Try.pinned (OpenSpec.ofChange fnExactMixedRingsWrong)

/-- 'laws.FnExactPrognosisOf': WHATEVER THE INPUT: true; the input reads as it did. -/
def fnExactPrognosisOfSpec : ChangeSpec := { name := "fnExactPrognosisOf", fn := fun _ => fun
  | [d1, d2] => { results := [.lit (.bool true)], args := [d1, d2] }
  | _ => none }
def fnExactPrognosisOfRow : OpenClaim := { program := "ytgfpbiaocokdeaa", sum := "cbd7aaa9e5a2ae88776abb744516c6f1904c616828bce863e5b2e465d4b23861", func := "loop.example/g01099/laws.FnExactPrognosisOf", spec := "fnExactPrognosisOf", unfollowed := true, recurses := true, apart := false }
def FnExactPrognosisOfSaid : Prop := fnExactPrognosisOfRow.holds Try.pinned (OpenSpec.ofChange fnExactPrognosisOfSpec)

/-- ITS FALSE NEIGHBOUR: 'it returns false'. Refute it at one input. -/
def fnExactPrognosisOfWrong : ChangeSpec := { name := "fnExactPrognosisOf", fn := fun _ => fun
  | [d1, d2] => { results := [.lit (.bool false)], args := [d1, d2] }
  | _ => none }
def FnExactPrognosisOfWrongFalsely : Prop := fnExactPrognosisOfRow.holds Try.pinned (OpenSpec.ofChange fnExactPrognosisOfWrong)

/- THE SECOND FORM. 'bulk': how many values and letters a reading holds, each counted each time it is reached (what is shared counts as often as it is met; a slice's spare places count too). A statement '..UptoSaid' is the law's where the arguments, and the package variables that the reading takes, are together of bulk at most 1048576: NARROWER than '..Said'. Prove '..Said' where nothing that the law and all that it calls make is longer than what came in: it says more and counts as full. Else prove '..UptoSaid'. A law counts once. -/
mutual
def uptoBulk {H : Type} : DataW H → Nat
  | .lit (.string bytes) => bytes.length + 1
  | .lit _ => 1
  | .nil => 1
  | .ptr d => uptoBulk d + 1
  | .slice elems spare => uptoBulkAll elems + uptoBulkAll spare + 1
  | .agg parts => uptoBulkAll parts + 1
  | .iface _ d => uptoBulk d + 1
  | .map entries => uptoBulkEntries entries + 1
  | .held _ => 1
def uptoBulkAll {H : Type} : List (DataW H) → Nat
  | [] => 0
  | d :: r => uptoBulk d + uptoBulkAll r
def uptoBulkEntries {H : Type} : List (Lit × DataW H) → Nat
  | [] => 0
  | x :: r => uptoBulkEntry x + uptoBulkEntries r
def uptoBulkEntry {H : Type} : Lit × DataW H → Nat
  | (.string bytes, d) => bytes.length + uptoBulk d + 1
  | (_, d) => uptoBulk d + 1
 end
def uptoSmall : (H : Type) → List (DataW H) → Bool := fun _ ds => decide (uptoBulkAll ds ≤ 1048576)
def OpenSpec.upto (s : _root_.Go.ChangeSpec) : _root_.Go.OpenSpec := { _root_.Go.OpenSpec.ofChange s with cond := some uptoSmall }

/-- 'laws.FnExactFaceOf', WHERE WHAT IT READS IS OF BULK AT MOST 1048576: true; the input reads as it did. -/
def fnExactFaceOfUptoRow : OpenClaim := { program := "ytgfpbiaocokdeaa", sum := "cbd7aaa9e5a2ae88776abb744516c6f1904c616828bce863e5b2e465d4b23861", func := "loop.example/g01099/laws.FnExactFaceOf", spec := "fnExactFaceOf", unfollowed := true, recurses := true, apart := false, narrowed := true }
def FnExactFaceOfUptoSaid : Prop := fnExactFaceOfUptoRow.holds Try.pinned (OpenSpec.upto fnExactFaceOfSpec)

/-- 'laws.FnExactWeightOf', WHERE WHAT IT READS IS OF BULK AT MOST 1048576: true; the input reads as it did. -/
def fnExactWeightOfUptoRow : OpenClaim := { program := "ytgfpbiaocokdeaa", sum := "cbd7aaa9e5a2ae88776abb744516c6f1904c616828bce863e5b2e465d4b23861", func := "loop.example/g01099/laws.FnExactWeightOf", spec := "fnExactWeightOf", unfollowed := true, recurses := true, apart := false, narrowed := true }
def FnExactWeightOfUptoSaid : Prop := fnExactWeightOfUptoRow.holds Try.pinned (OpenSpec.upto fnExactWeightOfSpec)

/-- 'laws.FnAlong', WHERE WHAT IT READS IS OF BULK AT MOST 1048576: true; the input reads as it did. -/
def fnAlongUptoRow : OpenClaim := { program := "ytgfpbiaocokdeaa", sum := "cbd7aaa9e5a2ae88776abb744516c6f1904c616828bce863e5b2e465d4b23861", func := "loop.example/g01099/laws.FnAlong", spec := "fnAlong", unfollowed := true, recurses := true, apart := false, narrowed := true }
def FnAlongUptoSaid : Prop := fnAlongUptoRow.holds Try.pinned (OpenSpec.upto fnAlongSpec)

/-- 'laws.FnExactAddHole', WHERE WHAT IT READS IS OF BULK AT MOST 1048576: true; the input reads as it did. -/
def fnExactAddHoleUptoRow : OpenClaim := { program := "ytgfpbiaocokdeaa", sum := "cbd7aaa9e5a2ae88776abb744516c6f1904c616828bce863e5b2e465d4b23861", func := "loop.example/g01099/laws.FnExactAddHole", spec := "fnExactAddHole", inPlace := ["slices.overlaps[loop.example/g01099/impl.Hole]"], unfollowed := true, recurses := true, apart := false, narrowed := true }
def FnExactAddHoleUptoSaid : Prop := fnExactAddHoleUptoRow.holds Try.pinned (OpenSpec.upto fnExactAddHoleSpec)

/-- 'laws.FnExactClassesAlong', WHERE WHAT IT READS IS OF BULK AT MOST 1048576: true; the input reads as it did. -/
def fnExactClassesAlongUptoRow : OpenClaim := { program := "ytgfpbiaocokdeaa", sum := "cbd7aaa9e5a2ae88776abb744516c6f1904c616828bce863e5b2e465d4b23861", func := "loop.example/g01099/laws.FnExactClassesAlong", spec := "fnExactClassesAlong", unfollowed := true, recurses := true, apart := false, narrowed := true }
def FnExactClassesAlongUptoSaid : Prop := fnExactClassesAlongUptoRow.holds Try.pinned (OpenSpec.upto fnExactClassesAlongSpec)

/-- 'laws.FnExactMixedRings', WHERE WHAT IT READS IS OF BULK AT MOST 1048576: true; the input reads as it did. -/
def fnExactMixedRingsUptoRow : OpenClaim := { program := "ytgfpbiaocokdeaa", sum := "cbd7aaa9e5a2ae88776abb744516c6f1904c616828bce863e5b2e465d4b23861", func := "loop.example/g01099/laws.FnExactMixedRings", spec := "fnExactMixedRings", unfollowed := true, recurses := true, apart := false, narrowed := true }
def FnExactMixedRingsUptoSaid : Prop := fnExactMixedRingsUptoRow.holds Try.pinned (OpenSpec.upto fnExactMixedRingsSpec)

/-- 'laws.FnExactPrognosisOf', WHERE WHAT IT READS IS OF BULK AT MOST 1048576: true; the input reads as it did. -/
def fnExactPrognosisOfUptoRow : OpenClaim := { program := "ytgfpbiaocokdeaa", sum := "cbd7aaa9e5a2ae88776abb744516c6f1904c616828bce863e5b2e465d4b23861", func := "loop.example/g01099/laws.FnExactPrognosisOf", spec := "fnExactPrognosisOf", unfollowed := true, recurses := true, apart := false, narrowed := true }
def FnExactPrognosisOfUptoSaid : Prop := fnExactPrognosisOfUptoRow.holds Try.pinned (OpenSpec.upto fnExactPrognosisOfSpec)

end Rows
end Go.Proofs.Ytgfpbiaocokdeaa
