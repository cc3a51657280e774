/-
  No cell of these rows narrows 'for every input' (looked for: loops, veiled, ifaces, maps, wideKeys, modest, calm, conditions, laid).
  DERIVED. THE GIVEN ROWS OF THIS SEAT. 12 by the template 'for every input the law returns true; each argument reads behind the call as it read before'; 0 by the template 'total and deterministic' (their statements: YtajndapolblhmaaTotals.lean).
  GIVEN WITH THE SEED: the statements are not yours to turn. If you find one false, say at which input.
  Laid BY PROGRAM, IN A SANDBOX (cutbox-rows.mjs): the forced cells as the released guide's own fill.sh prints them over the translation f67114b030ee2699… (all of the seat's roots in one cut). By AI agents, Wed Nov 11 2026. No macro, syntax, notation, axiom, sorry.
-/
import Derived.Test.YtajndapolblhmaaChecked
import GoSem.Claim
import GoSem.ClaimJoined
import GoSem.ClaimMapViews
import Derived.JoinedTies
import Derived.KernelRfl
namespace Go.Proofs.Ytajndapolblhmaa
/- THE CELL 'sum', in the pinned program and in every row, IS THE sha256 OF THE DUMP (.gsa) THAT YtajndapolblhmaaProg.lean LOADS. Nothing in Lean hashes anything: it is a label: what it is worth is what the hold of that sum in a sandbox is worth. -/
noncomputable def Try.pinned : Pinned := { name := "ytajndapolblhmaa", sum := "f67114b030ee26998af3315747528ad7db2a79dd2a0947c724facd54a3661faf", checked := Try.checked }
namespace Rows
def none {H : Type} : Left H := { results := [], args := [] }

/-- 'laws.FnExactLiftNeeds': WHATEVER THE INPUT: true; the input reads as it did. -/
def fnExactLiftNeedsSpec : ChangeSpec := { name := "fnExactLiftNeeds", fn := fun _ => fun
  | [d1, d2, d3, d4] => { results := [.lit (.bool true)], args := [d1, d2, d3, d4] }
  | _ => none }
def fnExactLiftNeedsRow : OpenClaim := { program := "ytajndapolblhmaa", sum := "f67114b030ee26998af3315747528ad7db2a79dd2a0947c724facd54a3661faf", func := "loop.example/g01099/laws.FnExactLiftNeeds", spec := "fnExactLiftNeeds", unfollowed := true, recurses := true, apart := false }
def FnExactLiftNeedsSaid : Prop := fnExactLiftNeedsRow.holds Try.pinned (OpenSpec.ofChange fnExactLiftNeedsSpec)

/-- ITS FALSE NEIGHBOUR: 'it returns false'. Refute it at one input. -/
def fnExactLiftNeedsWrong : ChangeSpec := { name := "fnExactLiftNeeds", fn := fun _ => fun
  | [d1, d2, d3, d4] => { results := [.lit (.bool false)], args := [d1, d2, d3, d4] }
  | _ => none }
def FnExactLiftNeedsWrongFalsely : Prop := fnExactLiftNeedsRow.holds Try.pinned (OpenSpec.ofChange fnExactLiftNeedsWrong)

/-- 'laws.FnGrouted': WHATEVER THE INPUT: true; the input reads as it did. -/
def fnGroutedSpec : ChangeSpec := { name := "fnGrouted", fn := fun _ => fun
  | [d1, d2] => { results := [.lit (.bool true)], args := [d1, d2] }
  | _ => none }
def fnGroutedRow : OpenClaim := { program := "ytajndapolblhmaa", sum := "f67114b030ee26998af3315747528ad7db2a79dd2a0947c724facd54a3661faf", func := "loop.example/g01099/laws.FnGrouted", spec := "fnGrouted", unfollowed := true, recurses := true, apart := false }
def FnGroutedSaid : Prop := fnGroutedRow.holds Try.pinned (OpenSpec.ofChange fnGroutedSpec)

/-- ITS FALSE NEIGHBOUR: 'it returns false'. Refute it at one input. -/
def fnGroutedWrong : ChangeSpec := { name := "fnGrouted", fn := fun _ => fun
  | [d1, d2] => { results := [.lit (.bool false)], args := [d1, d2] }
  | _ => none }
def FnGroutedWrongFalsely : Prop := fnGroutedRow.holds Try.pinned (OpenSpec.ofChange fnGroutedWrong)

/-- 'laws.FnNeeds': WHATEVER THE INPUT: true; the input reads as it did. -/
def fnNeedsSpec : ChangeSpec := { name := "fnNeeds", fn := fun _ => fun
  | [d1, d2] => { results := [.lit (.bool true)], args := [d1, d2] }
  | _ => none }
def fnNeedsRow : OpenClaim := { program := "ytajndapolblhmaa", sum := "f67114b030ee26998af3315747528ad7db2a79dd2a0947c724facd54a3661faf", func := "loop.example/g01099/laws.FnNeeds", spec := "fnNeeds", unfollowed := true, recurses := true, apart := false }
def FnNeedsSaid : Prop := fnNeedsRow.holds Try.pinned (OpenSpec.ofChange fnNeedsSpec)

/-- ITS FALSE NEIGHBOUR: 'it returns false'. Refute it at one input. -/
def fnNeedsWrong : ChangeSpec := { name := "fnNeeds", fn := fun _ => fun
  | [d1, d2] => { results := [.lit (.bool false)], args := [d1, d2] }
  | _ => none }
def FnNeedsWrongFalsely : Prop := fnNeedsRow.holds Try.pinned (OpenSpec.ofChange fnNeedsWrong)

/-- 'laws.FnExactIsLifted': WHATEVER THE INPUT: true; the input reads as it did. -/
def fnExactIsLiftedSpec : ChangeSpec := { name := "fnExactIsLifted", fn := fun _ => fun
  | [d1, d2] => { results := [.lit (.bool true)], args := [d1, d2] }
  | _ => none }
def fnExactIsLiftedRow : OpenClaim := { program := "ytajndapolblhmaa", sum := "f67114b030ee26998af3315747528ad7db2a79dd2a0947c724facd54a3661faf", func := "loop.example/g01099/laws.FnExactIsLifted", spec := "fnExactIsLifted", unfollowed := true, recurses := true, apart := false }
def FnExactIsLiftedSaid : Prop := fnExactIsLiftedRow.holds Try.pinned (OpenSpec.ofChange fnExactIsLiftedSpec)

/-- ITS FALSE NEIGHBOUR: 'it returns false'. Refute it at one input. -/
def fnExactIsLiftedWrong : ChangeSpec := { name := "fnExactIsLifted", fn := fun _ => fun
  | [d1, d2] => { results := [.lit (.bool false)], args := [d1, d2] }
  | _ => none }
def FnExactIsLiftedWrongFalsely : Prop := fnExactIsLiftedRow.holds Try.pinned (OpenSpec.ofChange fnExactIsLiftedWrong)

/-- 'laws.FnExactLiftsOf': WHATEVER THE INPUT: true; the input reads as it did. -/
def fnExactLiftsOfSpec : ChangeSpec := { name := "fnExactLiftsOf", fn := fun _ => fun
  | [d] => { results := [.lit (.bool true)], args := [d] }
  | _ => none }
def fnExactLiftsOfRow : OpenClaim := { program := "ytajndapolblhmaa", sum := "f67114b030ee26998af3315747528ad7db2a79dd2a0947c724facd54a3661faf", func := "loop.example/g01099/laws.FnExactLiftsOf", spec := "fnExactLiftsOf", unfollowed := true, recurses := true, apart := false }
def FnExactLiftsOfSaid : Prop := fnExactLiftsOfRow.holds Try.pinned (OpenSpec.ofChange fnExactLiftsOfSpec)

/-- ITS FALSE NEIGHBOUR: 'it returns false'. Refute it at one input. -/
def fnExactLiftsOfWrong : ChangeSpec := { name := "fnExactLiftsOf", fn := fun _ => fun
  | [d] => { results := [.lit (.bool false)], args := [d] }
  | _ => none }
def FnExactLiftsOfWrongFalsely : Prop := fnExactLiftsOfRow.holds Try.pinned (OpenSpec.ofChange fnExactLiftsOfWrong)

/-- 'laws.FnExactSpareOf': WHATEVER THE INPUT: true; the input reads as it did. -/
def fnExactSpareOfSpec : ChangeSpec := { name := "fnExactSpareOf", fn := fun _ => fun
  | [d] => { results := [.lit (.bool true)], args := [d] }
  | _ => none }
def fnExactSpareOfRow : OpenClaim := { program := "ytajndapolblhmaa", sum := "f67114b030ee26998af3315747528ad7db2a79dd2a0947c724facd54a3661faf", func := "loop.example/g01099/laws.FnExactSpareOf", spec := "fnExactSpareOf", unfollowed := true, recurses := true, apart := false }
def FnExactSpareOfSaid : Prop := fnExactSpareOfRow.holds Try.pinned (OpenSpec.ofChange fnExactSpareOfSpec)

/-- ITS FALSE NEIGHBOUR: 'it returns false'. Refute it at one input. -/
def fnExactSpareOfWrong : ChangeSpec := { name := "fnExactSpareOf", fn := fun _ => fun
  | [d] => { results := [.lit (.bool false)], args := [d] }
  | _ => none }
def FnExactSpareOfWrongFalsely : Prop := fnExactSpareOfRow.holds Try.pinned (OpenSpec.ofChange fnExactSpareOfWrong)

/-- 'laws.FnExactFewestMoulds': WHATEVER THE INPUT: true; the input reads as it did. -/
def fnExactFewestMouldsSpec : ChangeSpec := { name := "fnExactFewestMoulds", fn := fun _ => fun
  | [d1, d2, d3] => { results := [.lit (.bool true)], args := [d1, d2, d3] }
  | _ => none }
def fnExactFewestMouldsRow : OpenClaim := { program := "ytajndapolblhmaa", sum := "f67114b030ee26998af3315747528ad7db2a79dd2a0947c724facd54a3661faf", func := "loop.example/g01099/laws.FnExactFewestMoulds", spec := "fnExactFewestMoulds", apart := false }
def FnExactFewestMouldsSaid : Prop := fnExactFewestMouldsRow.holds Try.pinned (OpenSpec.ofChange fnExactFewestMouldsSpec)

/-- ITS FALSE NEIGHBOUR: 'it returns false'. Refute it at one input. -/
def fnExactFewestMouldsWrong : ChangeSpec := { name := "fnExactFewestMoulds", fn := fun _ => fun
  | [d1, d2, d3] => { results := [.lit (.bool false)], args := [d1, d2, d3] }
  | _ => none }
def FnExactFewestMouldsWrongFalsely : Prop := fnExactFewestMouldsRow.holds Try.pinned (OpenSpec.ofChange fnExactFewestMouldsWrong)

/-- 'laws.FnExactStretchesAt': WHATEVER THE INPUT: true; the input reads as it did. -/
def fnExactStretchesAtSpec : ChangeSpec := { name := "fnExactStretchesAt", fn := fun _ => fun
  | [d1, d2] => { results := [.lit (.bool true)], args := [d1, d2] }
  | _ => none }
def fnExactStretchesAtRow : OpenClaim := { program := "ytajndapolblhmaa", sum := "f67114b030ee26998af3315747528ad7db2a79dd2a0947c724facd54a3661faf", func := "loop.example/g01099/laws.FnExactStretchesAt", spec := "fnExactStretchesAt", unfollowed := true, recurses := true, apart := false }
def FnExactStretchesAtSaid : Prop := fnExactStretchesAtRow.holds Try.pinned (OpenSpec.ofChange fnExactStretchesAtSpec)

/-- ITS FALSE NEIGHBOUR: 'it returns false'. Refute it at one input. -/
def fnExactStretchesAtWrong : ChangeSpec := { name := "fnExactStretchesAt", fn := fun _ => fun
  | [d1, d2] => { results := [.lit (.bool false)], args := [d1, d2] }
  | _ => none }
def FnExactStretchesAtWrongFalsely : Prop := fnExactStretchesAtRow.holds Try.pinned (OpenSpec.ofChange fnExactStretchesAtWrong)

/-- 'laws.FnExactLatestStart': WHATEVER THE INPUT: true; the input reads as it did. -/
def fnExactLatestStartSpec : ChangeSpec := { name := "fnExactLatestStart", fn := fun _ => fun
  | [d1, d2] => { results := [.lit (.bool true)], args := [d1, d2] }
  | _ => none }
def fnExactLatestStartRow : OpenClaim := { program := "ytajndapolblhmaa", sum := "f67114b030ee26998af3315747528ad7db2a79dd2a0947c724facd54a3661faf", func := "loop.example/g01099/laws.FnExactLatestStart", spec := "fnExactLatestStart", apart := false }
def FnExactLatestStartSaid : Prop := fnExactLatestStartRow.holds Try.pinned (OpenSpec.ofChange fnExactLatestStartSpec)

/-- ITS FALSE NEIGHBOUR: 'it returns false'. Refute it at one input. -/
def fnExactLatestStartWrong : ChangeSpec := { name := "fnExactLatestStart", fn := fun _ => fun
  | [d1, d2] => { results := [.lit (.bool false)], args := [d1, d2] }
  | _ => none }
def FnExactLatestStartWrongFalsely : Prop := fnExactLatestStartRow.holds Try.pinned (OpenSpec.ofChange fnExactLatestStartWrong)

/-- 'laws.FnCheapest': WHATEVER THE INPUT: true; the input reads as it did. -/
def fnCheapestSpec : ChangeSpec := { name := "fnCheapest", fn := fun _ => fun
  | [d1, d2] => { results := [.lit (.bool true)], args := [d1, d2] }
  | _ => none }
def fnCheapestRow : OpenClaim := { program := "ytajndapolblhmaa", sum := "f67114b030ee26998af3315747528ad7db2a79dd2a0947c724facd54a3661faf", func := "loop.example/g01099/laws.FnCheapest", spec := "fnCheapest", unfollowed := true, recurses := true, apart := false }
def FnCheapestSaid : Prop := fnCheapestRow.holds Try.pinned (OpenSpec.ofChange fnCheapestSpec)

/-- ITS FALSE NEIGHBOUR: 'it returns false'. Refute it at one input. -/
def fnCheapestWrong : ChangeSpec := { name := "fnCheapest", fn := fun _ => fun
  | [d1, d2] => { results := [.lit (.bool false)], args := [d1, d2] }
  | _ => none }
def FnCheapestWrongFalsely : Prop := fnCheapestRow.holds Try.pinned (OpenSpec.ofChange fnCheapestWrong)

/-- 'laws.FnCast': WHATEVER THE INPUT: true; the input reads as it did. -/
def fnCastSpec : ChangeSpec := { name := "fnCast", fn := fun _ => fun
  | [d1, d2] => { results := [.lit (.bool true)], args := [d1, d2] }
  | _ => none }
def fnCastRow : OpenClaim := { program := "ytajndapolblhmaa", sum := "f67114b030ee26998af3315747528ad7db2a79dd2a0947c724facd54a3661faf", func := "loop.example/g01099/laws.FnCast", spec := "fnCast", apart := false }
def FnCastSaid : Prop := fnCastRow.holds Try.pinned (OpenSpec.ofChange fnCastSpec)

/-- ITS FALSE NEIGHBOUR: 'it returns false'. Refute it at one input. -/
def fnCastWrong : ChangeSpec := { name := "fnCast", fn := fun _ => fun
  | [d1, d2] => { results := [.lit (.bool false)], args := [d1, d2] }
  | _ => none }
def FnCastWrongFalsely : Prop := fnCastRow.holds Try.pinned (OpenSpec.ofChange fnCastWrong)

/-- 'laws.FnExactStockOn': WHATEVER THE INPUT: true; the input reads as it did. -/
def fnExactStockOnSpec : ChangeSpec := { name := "fnExactStockOn", fn := fun _ => fun
  | [d1, d2, d3] => { results := [.lit (.bool true)], args := [d1, d2, d3] }
  | _ => none }
def fnExactStockOnRow : OpenClaim := { program := "ytajndapolblhmaa", sum := "f67114b030ee26998af3315747528ad7db2a79dd2a0947c724facd54a3661faf", func := "loop.example/g01099/laws.FnExactStockOn", spec := "fnExactStockOn", apart := false }
def FnExactStockOnSaid : Prop := fnExactStockOnRow.holds Try.pinned (OpenSpec.ofChange fnExactStockOnSpec)

/-- ITS FALSE NEIGHBOUR: 'it returns false'. Refute it at one input. -/
def fnExactStockOnWrong : ChangeSpec := { name := "fnExactStockOn", fn := fun _ => fun
  | [d1, d2, d3] => { results := [.lit (.bool false)], args := [d1, d2, d3] }
  | _ => none }
def FnExactStockOnWrongFalsely : Prop := fnExactStockOnRow.holds Try.pinned (OpenSpec.ofChange fnExactStockOnWrong)

/- THE SECOND FORM. 'bulk': how many values and letters a reading holds, each counted each time it is reached (what is shared counts as often as it is met; a slice's spare places count too). A statement '..UptoSaid' is the law's where the arguments, and the package variables that the reading takes, are together of bulk at most 1048576: NARROWER than '..Said'. Prove '..Said' where nothing that the law and all that it calls make is longer than what came in: it says more and counts as full. Else prove '..UptoSaid'. A law counts once. -/
mutual
def uptoBulk {H : Type} : DataW H → Nat
  | .lit (.string bytes) => bytes.length + 1
  | .lit _ => 1
  | .nil => 1
  | .ptr d => uptoBulk d + 1
  | .slice elems spare => uptoBulkAll elems + uptoBulkAll spare + 1
  | .agg parts => uptoBulkAll parts + 1
  | .iface _ d => uptoBulk d + 1
  | .map entries => uptoBulkEntries entries + 1
  | .held _ => 1
def uptoBulkAll {H : Type} : List (DataW H) → Nat
  | [] => 0
  | d :: r => uptoBulk d + uptoBulkAll r
def uptoBulkEntries {H : Type} : List (Lit × DataW H) → Nat
  | [] => 0
  | x :: r => uptoBulkEntry x + uptoBulkEntries r
def uptoBulkEntry {H : Type} : Lit × DataW H → Nat
  | (.string bytes, d) => bytes.length + uptoBulk d + 1
  | (_, d) => uptoBulk d + 1
 end
def uptoSmall : (H : Type) → List (DataW H) → Bool := fun _ ds => decide (uptoBulkAll ds ≤ 1048576)
def OpenSpec.upto (s : _root_.Go.ChangeSpec) : _root_.Go.OpenSpec := { _root_.Go.OpenSpec.ofChange s with cond := some uptoSmall }

/-- 'laws.FnExactLiftNeeds', WHERE WHAT IT READS IS OF BULK AT MOST 1048576: true; the input reads as it did. -/
def fnExactLiftNeedsUptoRow : OpenClaim := { program := "ytajndapolblhmaa", sum := "f67114b030ee26998af3315747528ad7db2a79dd2a0947c724facd54a3661faf", func := "loop.example/g01099/laws.FnExactLiftNeeds", spec := "fnExactLiftNeeds", unfollowed := true, recurses := true, apart := false, narrowed := true }
def FnExactLiftNeedsUptoSaid : Prop := fnExactLiftNeedsUptoRow.holds Try.pinned (OpenSpec.upto fnExactLiftNeedsSpec)

/-- 'laws.FnGrouted', WHERE WHAT IT READS IS OF BULK AT MOST 1048576: true; the input reads as it did. -/
def fnGroutedUptoRow : OpenClaim := { program := "ytajndapolblhmaa", sum := "f67114b030ee26998af3315747528ad7db2a79dd2a0947c724facd54a3661faf", func := "loop.example/g01099/laws.FnGrouted", spec := "fnGrouted", unfollowed := true, recurses := true, apart := false, narrowed := true }
def FnGroutedUptoSaid : Prop := fnGroutedUptoRow.holds Try.pinned (OpenSpec.upto fnGroutedSpec)

/-- 'laws.FnNeeds', WHERE WHAT IT READS IS OF BULK AT MOST 1048576: true; the input reads as it did. -/
def fnNeedsUptoRow : OpenClaim := { program := "ytajndapolblhmaa", sum := "f67114b030ee26998af3315747528ad7db2a79dd2a0947c724facd54a3661faf", func := "loop.example/g01099/laws.FnNeeds", spec := "fnNeeds", unfollowed := true, recurses := true, apart := false, narrowed := true }
def FnNeedsUptoSaid : Prop := fnNeedsUptoRow.holds Try.pinned (OpenSpec.upto fnNeedsSpec)

/-- 'laws.FnExactIsLifted', WHERE WHAT IT READS IS OF BULK AT MOST 1048576: true; the input reads as it did. -/
def fnExactIsLiftedUptoRow : OpenClaim := { program := "ytajndapolblhmaa", sum := "f67114b030ee26998af3315747528ad7db2a79dd2a0947c724facd54a3661faf", func := "loop.example/g01099/laws.FnExactIsLifted", spec := "fnExactIsLifted", unfollowed := true, recurses := true, apart := false, narrowed := true }
def FnExactIsLiftedUptoSaid : Prop := fnExactIsLiftedUptoRow.holds Try.pinned (OpenSpec.upto fnExactIsLiftedSpec)

/-- 'laws.FnExactLiftsOf', WHERE WHAT IT READS IS OF BULK AT MOST 1048576: true; the input reads as it did. -/
def fnExactLiftsOfUptoRow : OpenClaim := { program := "ytajndapolblhmaa", sum := "f67114b030ee26998af3315747528ad7db2a79dd2a0947c724facd54a3661faf", func := "loop.example/g01099/laws.FnExactLiftsOf", spec := "fnExactLiftsOf", unfollowed := true, recurses := true, apart := false, narrowed := true }
def FnExactLiftsOfUptoSaid : Prop := fnExactLiftsOfUptoRow.holds Try.pinned (OpenSpec.upto fnExactLiftsOfSpec)

/-- 'laws.FnExactSpareOf', WHERE WHAT IT READS IS OF BULK AT MOST 1048576: true; the input reads as it did. -/
def fnExactSpareOfUptoRow : OpenClaim := { program := "ytajndapolblhmaa", sum := "f67114b030ee26998af3315747528ad7db2a79dd2a0947c724facd54a3661faf", func := "loop.example/g01099/laws.FnExactSpareOf", spec := "fnExactSpareOf", unfollowed := true, recurses := true, apart := false, narrowed := true }
def FnExactSpareOfUptoSaid : Prop := fnExactSpareOfUptoRow.holds Try.pinned (OpenSpec.upto fnExactSpareOfSpec)

/-- 'laws.FnExactFewestMoulds', WHERE WHAT IT READS IS OF BULK AT MOST 1048576: true; the input reads as it did. -/
def fnExactFewestMouldsUptoRow : OpenClaim := { program := "ytajndapolblhmaa", sum := "f67114b030ee26998af3315747528ad7db2a79dd2a0947c724facd54a3661faf", func := "loop.example/g01099/laws.FnExactFewestMoulds", spec := "fnExactFewestMoulds", apart := false, narrowed := true }
def FnExactFewestMouldsUptoSaid : Prop := fnExactFewestMouldsUptoRow.holds Try.pinned (OpenSpec.upto fnExactFewestMouldsSpec)

/-- 'laws.FnExactStretchesAt', WHERE WHAT IT READS IS OF BULK AT MOST 1048576: true; the input reads as it did. -/
def fnExactStretchesAtUptoRow : OpenClaim := { program := "ytajndapolblhmaa", sum := "f67114b030ee26998af3315747528ad7db2a79dd2a0947c724facd54a3661faf", func := "loop.example/g01099/laws.FnExactStretchesAt", spec := "fnExactStretchesAt", unfollowed := true, recurses := true, apart := false, narrowed := true }
def FnExactStretchesAtUptoSaid : Prop := fnExactStretchesAtUptoRow.holds Try.pinned (OpenSpec.upto fnExactStretchesAtSpec)

/-- 'laws.FnExactLatestStart', WHERE WHAT IT READS IS OF BULK AT MOST 1048576: true; the input reads as it did. -/
def fnExactLatestStartUptoRow : OpenClaim := { program := "ytajndapolblhmaa", sum := "f67114b030ee26998af3315747528ad7db2a79dd2a0947c724facd54a3661faf", func := "loop.example/g01099/laws.FnExactLatestStart", spec := "fnExactLatestStart", apart := false, narrowed := true }
def FnExactLatestStartUptoSaid : Prop := fnExactLatestStartUptoRow.holds Try.pinned (OpenSpec.upto fnExactLatestStartSpec)

/-- 'laws.FnCheapest', WHERE WHAT IT READS IS OF BULK AT MOST 1048576: true; the input reads as it did. -/
def fnCheapestUptoRow : OpenClaim := { program := "ytajndapolblhmaa", sum := "f67114b030ee26998af3315747528ad7db2a79dd2a0947c724facd54a3661faf", func := "loop.example/g01099/laws.FnCheapest", spec := "fnCheapest", unfollowed := true, recurses := true, apart := false, narrowed := true }
def FnCheapestUptoSaid : Prop := fnCheapestUptoRow.holds Try.pinned (OpenSpec.upto fnCheapestSpec)

/-- 'laws.FnCast', WHERE WHAT IT READS IS OF BULK AT MOST 1048576: true; the input reads as it did. -/
def fnCastUptoRow : OpenClaim := { program := "ytajndapolblhmaa", sum := "f67114b030ee26998af3315747528ad7db2a79dd2a0947c724facd54a3661faf", func := "loop.example/g01099/laws.FnCast", spec := "fnCast", apart := false, narrowed := true }
def FnCastUptoSaid : Prop := fnCastUptoRow.holds Try.pinned (OpenSpec.upto fnCastSpec)

/-- 'laws.FnExactStockOn', WHERE WHAT IT READS IS OF BULK AT MOST 1048576: true; the input reads as it did. -/
def fnExactStockOnUptoRow : OpenClaim := { program := "ytajndapolblhmaa", sum := "f67114b030ee26998af3315747528ad7db2a79dd2a0947c724facd54a3661faf", func := "loop.example/g01099/laws.FnExactStockOn", spec := "fnExactStockOn", apart := false, narrowed := true }
def FnExactStockOnUptoSaid : Prop := fnExactStockOnUptoRow.holds Try.pinned (OpenSpec.upto fnExactStockOnSpec)

end Rows
end Go.Proofs.Ytajndapolblhmaa
