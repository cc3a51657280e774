/-
  DERIVED. GIVEN WITH THE SEED: THE CARDS: each row of YtgfpbiaocokdeaaDoorRows.lean that lists a variable, with what it lists TIED to the program's text (the seventh form; the later family's looks); each row that meets fmt, with fmt's text TOLD by the authors' own Lean function (tested against real Go, not proved from fmt's source: count such statements apart). THE CARD IS WHAT COUNTS. Prove the row's statement (the work); the ties are given (YtgfpbiaocokdeaaDoorTie.lean); close each card by the builder's one call (the guide's Derived/Test/ToyasCard.lean, 'card_holds'). Laid BY PROGRAM, IN A SANDBOX (cutbox-door.mjs). By AI agents, Wed Nov 11 2026. No macro, syntax, notation, axiom, sorry.
-/
import Derived.Test.YtgfpbiaocokdeaaDoorRows
import GoSem.ClaimSeven
namespace Go.Proofs.YtgfpbiaocokdeaaDoor
namespace Rows

/-- THE TIED CARD OF 'laws.FnExactGroundText'. -/
def fnExactGroundTextCard : Claim7 := { stood := { row := fnExactGroundTextRow, standIns := [], harness := (true, "d41362b3a29c24b14ac156cb734cdef8fa2060a94e9066372863130d98af66a2"), looks := true }, kinds := [], alts := [], laidByText := true, laidKinds := [.data, .data, .data], laidTests := true, laidLooks := .later }
def FnExactGroundTextCardSaid : Prop := Claim7.holds Tryd.pinned (.plain (OpenSpec.ofChange fnExactGroundTextSpec)) fnExactGroundTextCard

/-- THE TIED CARD OF 'laws.FnExactReadGround'. -/
def fnExactReadGroundCard : Claim7 := { stood := { row := fnExactReadGroundRow, standIns := [], harness := (true, "d41362b3a29c24b14ac156cb734cdef8fa2060a94e9066372863130d98af66a2"), looks := true }, kinds := [], alts := [], laidByText := true, laidKinds := [.data, .data, .data, .data, .sentinel, .sentinel, .pinned], laidTests := true, laidLooks := .later }
def FnExactReadGroundCardSaid : Prop := Claim7.holds Tryd.pinned (.plain (OpenSpec.ofChange fnExactReadGroundSpec)) fnExactReadGroundCard

/-- THE SECOND FORM's CARD OF 'laws.FnExactGroundText'. -/
def fnExactGroundTextUptoCard : Claim7 := { stood := { row := fnExactGroundTextUptoRow, standIns := [], harness := (true, "d41362b3a29c24b14ac156cb734cdef8fa2060a94e9066372863130d98af66a2"), looks := true }, kinds := [], alts := [], laidByText := true, laidKinds := [.data, .data, .data], laidTests := true, laidLooks := .later }
def FnExactGroundTextUptoCardSaid : Prop := Claim7.holds Tryd.pinned (.plain (OpenSpec.upto fnExactGroundTextSpec)) fnExactGroundTextUptoCard

/-- THE SECOND FORM's CARD OF 'laws.FnExactReadGround'. -/
def fnExactReadGroundUptoCard : Claim7 := { stood := { row := fnExactReadGroundUptoRow, standIns := [], harness := (true, "d41362b3a29c24b14ac156cb734cdef8fa2060a94e9066372863130d98af66a2"), looks := true }, kinds := [], alts := [], laidByText := true, laidKinds := [.data, .data, .data, .data, .sentinel, .sentinel, .pinned], laidTests := true, laidLooks := .later }
def FnExactReadGroundUptoCardSaid : Prop := Claim7.holds Tryd.pinned (.plain (OpenSpec.upto fnExactReadGroundSpec)) fnExactReadGroundUptoCard
end Rows
end Go.Proofs.YtgfpbiaocokdeaaDoor
