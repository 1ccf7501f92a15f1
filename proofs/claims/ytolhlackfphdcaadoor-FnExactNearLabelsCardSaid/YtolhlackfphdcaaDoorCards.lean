/-
  DERIVED. GIVEN WITH THE SEED: THE CARDS: each row of YtolhlackfphdcaaDoorRows.lean that lists a variable, with what it lists TIED to the program's text (the seventh form; the later family's looks); each row that meets fmt, with fmt's text TOLD by the authors' own Lean function (tested against real Go, not proved from fmt's source: count such statements apart). THE CARD IS WHAT COUNTS. Prove the row's statement (the work); the ties are given (YtolhlackfphdcaaDoorTie.lean); close each card by the builder's one call (the guide's Derived/Test/ToyasCard.lean, 'card_holds'). Laid BY PROGRAM, IN A SANDBOX (cutbox-door.mjs). By AI agents, Wed Nov 11 2026. No macro, syntax, notation, axiom, sorry.
-/
import Derived.Test.YtolhlackfphdcaaDoorRows
import GoSem.ClaimSeven
namespace Go.Proofs.YtolhlackfphdcaaDoor
namespace Rows

/-- THE TIED CARD OF 'laws.FnExactSwappedLabels'. -/
def fnExactSwappedLabelsCard : Claim7 := { stood := { row := fnExactSwappedLabelsRow, standIns := [], harness := (true, "d363b90b07598b090e0bcbd7fc2e2508001ca77b36b353f103f085bc2c62e571"), looks := true }, kinds := [], alts := [], laidByText := true, laidKinds := [.data, .data, .data, .sentinel, .sentinel], laidTests := true, laidLooks := .later }
def FnExactSwappedLabelsCardSaid : Prop := Claim7.holds Tryd.pinned (.plain (OpenSpec.ofChange fnExactSwappedLabelsSpec)) fnExactSwappedLabelsCard

/-- THE TIED CARD OF 'laws.FnExactNearLabels'. -/
def fnExactNearLabelsCard : Claim7 := { stood := { row := fnExactNearLabelsRow, standIns := [], harness := (true, "d363b90b07598b090e0bcbd7fc2e2508001ca77b36b353f103f085bc2c62e571"), looks := true }, kinds := [], alts := [], laidByText := true, laidKinds := [.data, .data, .data, .sentinel, .sentinel], laidTests := true, laidLooks := .later }
def FnExactNearLabelsCardSaid : Prop := Claim7.holds Tryd.pinned (.plain (OpenSpec.ofChange fnExactNearLabelsSpec)) fnExactNearLabelsCard

/-- THE SECOND FORM's CARD OF 'laws.FnExactSwappedLabels'. -/
def fnExactSwappedLabelsUptoCard : Claim7 := { stood := { row := fnExactSwappedLabelsUptoRow, standIns := [], harness := (true, "d363b90b07598b090e0bcbd7fc2e2508001ca77b36b353f103f085bc2c62e571"), looks := true }, kinds := [], alts := [], laidByText := true, laidKinds := [.data, .data, .data, .sentinel, .sentinel], laidTests := true, laidLooks := .later }
def FnExactSwappedLabelsUptoCardSaid : Prop := Claim7.holds Tryd.pinned (.plain (OpenSpec.upto fnExactSwappedLabelsSpec)) fnExactSwappedLabelsUptoCard

/-- THE SECOND FORM's CARD OF 'laws.FnExactNearLabels'. -/
def fnExactNearLabelsUptoCard : Claim7 := { stood := { row := fnExactNearLabelsUptoRow, standIns := [], harness := (true, "d363b90b07598b090e0bcbd7fc2e2508001ca77b36b353f103f085bc2c62e571"), looks := true }, kinds := [], alts := [], laidByText := true, laidKinds := [.data, .data, .data, .sentinel, .sentinel], laidTests := true, laidLooks := .later }
def FnExactNearLabelsUptoCardSaid : Prop := Claim7.holds Tryd.pinned (.plain (OpenSpec.upto fnExactNearLabelsSpec)) fnExactNearLabelsUptoCard
end Rows
end Go.Proofs.YtolhlackfphdcaaDoor
