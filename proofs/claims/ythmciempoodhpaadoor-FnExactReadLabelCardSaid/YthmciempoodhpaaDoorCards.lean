/-
  DERIVED. GIVEN WITH THE SEED: THE CARDS: each row of YthmciempoodhpaaDoorRows.lean that lists a variable, with what it lists TIED to the program's text (the seventh form; the later family's looks); each row that meets fmt, with fmt's text TOLD by the authors' own Lean function (tested against real Go, not proved from fmt's source: count such statements apart). THE CARD IS WHAT COUNTS. Prove the row's statement (the work); the ties are given (YthmciempoodhpaaDoorTie.lean); close each card by the builder's one call (the guide's Derived/Test/ToyasCard.lean, 'card_holds'). Laid BY PROGRAM, IN A SANDBOX (cutbox-door.mjs). By AI agents, Wed Nov 11 2026. No macro, syntax, notation, axiom, sorry.
-/
import Derived.Test.YthmciempoodhpaaDoorRows
import GoSem.ClaimSeven
namespace Go.Proofs.YthmciempoodhpaaDoor
namespace Rows

/-- THE TIED CARD OF 'laws.FnExactCheckLabel'. -/
def fnExactCheckLabelCard : Claim7 := { stood := { row := fnExactCheckLabelRow, standIns := [], harness := (true, "b06d2207ab7a1692c3a9f5747d518e9614817c5b296a7bb640be4c8cf82fd435"), looks := true }, kinds := [], alts := [], laidByText := true, laidKinds := [.data, .data, .data, .sentinel, .sentinel], laidTests := true, laidLooks := .later }
def FnExactCheckLabelCardSaid : Prop := Claim7.holds Tryd.pinned (.plain (OpenSpec.ofChange fnExactCheckLabelSpec)) fnExactCheckLabelCard

/-- THE TIED CARD OF 'laws.FnExactReadLabel'. -/
def fnExactReadLabelCard : Claim7 := { stood := { row := fnExactReadLabelRow, standIns := [], harness := (true, "b06d2207ab7a1692c3a9f5747d518e9614817c5b296a7bb640be4c8cf82fd435"), looks := true }, kinds := [], alts := [], laidByText := true, laidKinds := [.data, .data, .data, .sentinel, .sentinel], laidTests := true, laidLooks := .later }
def FnExactReadLabelCardSaid : Prop := Claim7.holds Tryd.pinned (.plain (OpenSpec.ofChange fnExactReadLabelSpec)) fnExactReadLabelCard

/-- THE SECOND FORM's CARD OF 'laws.FnExactCheckLabel'. -/
def fnExactCheckLabelUptoCard : Claim7 := { stood := { row := fnExactCheckLabelUptoRow, standIns := [], harness := (true, "b06d2207ab7a1692c3a9f5747d518e9614817c5b296a7bb640be4c8cf82fd435"), looks := true }, kinds := [], alts := [], laidByText := true, laidKinds := [.data, .data, .data, .sentinel, .sentinel], laidTests := true, laidLooks := .later }
def FnExactCheckLabelUptoCardSaid : Prop := Claim7.holds Tryd.pinned (.plain (OpenSpec.upto fnExactCheckLabelSpec)) fnExactCheckLabelUptoCard

/-- THE SECOND FORM's CARD OF 'laws.FnExactReadLabel'. -/
def fnExactReadLabelUptoCard : Claim7 := { stood := { row := fnExactReadLabelUptoRow, standIns := [], harness := (true, "b06d2207ab7a1692c3a9f5747d518e9614817c5b296a7bb640be4c8cf82fd435"), looks := true }, kinds := [], alts := [], laidByText := true, laidKinds := [.data, .data, .data, .sentinel, .sentinel], laidTests := true, laidLooks := .later }
def FnExactReadLabelUptoCardSaid : Prop := Claim7.holds Tryd.pinned (.plain (OpenSpec.upto fnExactReadLabelSpec)) fnExactReadLabelUptoCard
end Rows
end Go.Proofs.YthmciempoodhpaaDoor
