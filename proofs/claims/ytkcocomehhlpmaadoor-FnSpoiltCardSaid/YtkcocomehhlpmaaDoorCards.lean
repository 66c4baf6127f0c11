/-
  DERIVED. GIVEN WITH THE SEED: THE CARDS: each row of YtkcocomehhlpmaaDoorRows.lean that lists a variable, with what it lists TIED to the program's text (the seventh form; the later family's looks); each row that meets fmt, with fmt's text TOLD by the authors' own Lean function (tested against real Go, not proved from fmt's source: count such statements apart). THE CARD IS WHAT COUNTS. Prove the row's statement (the work); the ties are given (YtkcocomehhlpmaaDoorTie.lean); close each card by the builder's one call (the guide's Derived/Test/ToyasCard.lean, 'card_holds'). Laid BY PROGRAM, IN A SANDBOX (cutbox-door.mjs). By AI agents, Wed Nov 11 2026. No macro, syntax, notation, axiom, sorry.
-/
import Derived.Test.YtkcocomehhlpmaaDoorRows
import GoSem.ClaimSeven
namespace Go.Proofs.YtkcocomehhlpmaaDoor
namespace Rows

/-- THE TIED CARD OF 'laws.FnExactShown'. -/
def fnExactShownCard : Claim7 := { stood := { row := fnExactShownRow, standIns := [], harness := (true, "f4891e62ff3d586fb5a9e2313a96513b1004b66531c4a67ec84b0c4ad287e08a"), looks := false }, kinds := [], alts := [], laidByText := true, laidKinds := [.data, .data, .data], laidTests := true, laidLooks := .later }
def FnExactShownCardSaid : Prop := Claim7.holds Tryd.pinned (.plain (OpenSpec.ofChange fnExactShownSpec)) fnExactShownCard

/-- THE TIED CARD OF 'laws.FnSpoilt'. -/
def fnSpoiltCard : Claim7 := { stood := { row := fnSpoiltRow, standIns := [], harness := (true, "f4891e62ff3d586fb5a9e2313a96513b1004b66531c4a67ec84b0c4ad287e08a"), looks := false }, kinds := [], alts := [], laidByText := true, laidKinds := [.data, .data, .data], laidTests := true, laidLooks := .later }
def FnSpoiltCardSaid : Prop := Claim7.holds Tryd.pinned (.plain (OpenSpec.ofChange fnSpoiltSpec)) fnSpoiltCard

/-- THE SECOND FORM's CARD OF 'laws.FnExactShown'. -/
def fnExactShownUptoCard : Claim7 := { stood := { row := fnExactShownUptoRow, standIns := [], harness := (true, "f4891e62ff3d586fb5a9e2313a96513b1004b66531c4a67ec84b0c4ad287e08a"), looks := false }, kinds := [], alts := [], laidByText := true, laidKinds := [.data, .data, .data], laidTests := true, laidLooks := .later }
def FnExactShownUptoCardSaid : Prop := Claim7.holds Tryd.pinned (.plain (OpenSpec.upto fnExactShownSpec)) fnExactShownUptoCard

/-- THE SECOND FORM's CARD OF 'laws.FnSpoilt'. -/
def fnSpoiltUptoCard : Claim7 := { stood := { row := fnSpoiltUptoRow, standIns := [], harness := (true, "f4891e62ff3d586fb5a9e2313a96513b1004b66531c4a67ec84b0c4ad287e08a"), looks := false }, kinds := [], alts := [], laidByText := true, laidKinds := [.data, .data, .data], laidTests := true, laidLooks := .later }
def FnSpoiltUptoCardSaid : Prop := Claim7.holds Tryd.pinned (.plain (OpenSpec.upto fnSpoiltSpec)) fnSpoiltUptoCard
end Rows
end Go.Proofs.YtkcocomehhlpmaaDoor
