/-
  DERIVED. GIVEN WITH THE SEED: THE CARDS: each row of YtegjebiocgbmpaaDoorRows.lean that lists a variable, with what it lists TIED to the program's text (the seventh form; the later family's looks); each row that meets fmt, with fmt's text TOLD by the authors' own Lean function (tested against real Go, not proved from fmt's source: count such statements apart). THE CARD IS WHAT COUNTS. Prove the row's statement (the work); the ties are given (YtegjebiocgbmpaaDoorTie.lean); close each card by the builder's one call (the guide's Derived/Test/ToyasCard.lean, 'card_holds'). Laid BY PROGRAM, IN A SANDBOX (cutbox-door.mjs). By AI agents, Wed Nov 11 2026. No macro, syntax, notation, axiom, sorry.
-/
import Derived.Test.YtegjebiocgbmpaaDoorRows
import GoSem.ClaimSeven
namespace Go.Proofs.YtegjebiocgbmpaaDoor
namespace Rows

/-- THE TIED CARD OF 'laws.FnExactLossText'. -/
def fnExactLossTextCard : Claim7 := { stood := { row := fnExactLossTextRow, standIns := [], harness := (true, "83c45ec60fac768b800bb0fda32d26a9d9dcdc7244fa3a7890854d062dc23229"), looks := true }, kinds := [], alts := [], laidByText := true, laidKinds := [.data, .data, .data], laidTests := true, laidLooks := .later }
def FnExactLossTextCardSaid : Prop := Claim7.holds Tryd.pinned (.plain (OpenSpec.ofChange fnExactLossTextSpec)) fnExactLossTextCard

/-- THE TIED CARD OF 'laws.FnVolume'. -/
def fnVolumeCard : Claim7 := { stood := { row := fnVolumeRow, standIns := [], harness := (true, "83c45ec60fac768b800bb0fda32d26a9d9dcdc7244fa3a7890854d062dc23229"), looks := true }, kinds := [], alts := [], laidByText := true, laidKinds := [.data, .data, .data, .sentinel, .sentinel], laidTests := true, laidLooks := .later }
def FnVolumeCardSaid : Prop := Claim7.holds Tryd.pinned (.plain (OpenSpec.ofChange fnVolumeSpec)) fnVolumeCard

/-- THE TIED CARD OF 'laws.FnExactReadLoss'. -/
def fnExactReadLossCard : Claim7 := { stood := { row := fnExactReadLossRow, standIns := [], harness := (true, "83c45ec60fac768b800bb0fda32d26a9d9dcdc7244fa3a7890854d062dc23229"), looks := true }, kinds := [], alts := [], laidByText := true, laidKinds := [.data, .data, .data, .sentinel, .sentinel], laidTests := true, laidLooks := .later }
def FnExactReadLossCardSaid : Prop := Claim7.holds Tryd.pinned (.plain (OpenSpec.ofChange fnExactReadLossSpec)) fnExactReadLossCard

/-- THE SECOND FORM's CARD OF 'laws.FnExactLossText'. -/
def fnExactLossTextUptoCard : Claim7 := { stood := { row := fnExactLossTextUptoRow, standIns := [], harness := (true, "83c45ec60fac768b800bb0fda32d26a9d9dcdc7244fa3a7890854d062dc23229"), looks := true }, kinds := [], alts := [], laidByText := true, laidKinds := [.data, .data, .data], laidTests := true, laidLooks := .later }
def FnExactLossTextUptoCardSaid : Prop := Claim7.holds Tryd.pinned (.plain (OpenSpec.upto fnExactLossTextSpec)) fnExactLossTextUptoCard

/-- THE SECOND FORM's CARD OF 'laws.FnVolume'. -/
def fnVolumeUptoCard : Claim7 := { stood := { row := fnVolumeUptoRow, standIns := [], harness := (true, "83c45ec60fac768b800bb0fda32d26a9d9dcdc7244fa3a7890854d062dc23229"), looks := true }, kinds := [], alts := [], laidByText := true, laidKinds := [.data, .data, .data, .sentinel, .sentinel], laidTests := true, laidLooks := .later }
def FnVolumeUptoCardSaid : Prop := Claim7.holds Tryd.pinned (.plain (OpenSpec.upto fnVolumeSpec)) fnVolumeUptoCard

/-- THE SECOND FORM's CARD OF 'laws.FnExactReadLoss'. -/
def fnExactReadLossUptoCard : Claim7 := { stood := { row := fnExactReadLossUptoRow, standIns := [], harness := (true, "83c45ec60fac768b800bb0fda32d26a9d9dcdc7244fa3a7890854d062dc23229"), looks := true }, kinds := [], alts := [], laidByText := true, laidKinds := [.data, .data, .data, .sentinel, .sentinel], laidTests := true, laidLooks := .later }
def FnExactReadLossUptoCardSaid : Prop := Claim7.holds Tryd.pinned (.plain (OpenSpec.upto fnExactReadLossSpec)) fnExactReadLossUptoCard
end Rows
end Go.Proofs.YtegjebiocgbmpaaDoor
