/-
  DERIVED. GIVEN WITH THE SEED: THE CARDS: each row of YtlkjfjpcphlfeaaDoorRows.lean that lists a variable, with what it lists TIED to the program's text (the seventh form; the later family's looks); each row that meets fmt, with fmt's text TOLD by the authors' own Lean function (tested against real Go, not proved from fmt's source: count such statements apart). THE CARD IS WHAT COUNTS. Prove the row's statement (the work); the ties are given (YtlkjfjpcphlfeaaDoorTie.lean); close each card by the builder's one call (the guide's Derived/Test/ToyasCard.lean, 'card_holds'). Laid BY PROGRAM, IN A SANDBOX (cutbox-door.mjs). By AI agents, Wed Nov 11 2026. No macro, syntax, notation, axiom, sorry.
-/
import Derived.Test.YtlkjfjpcphlfeaaDoorRows
import GoSem.ClaimSeven
namespace Go.Proofs.YtlkjfjpcphlfeaaDoor
namespace Rows

/-- THE TIED CARD OF 'holtlaw5.SuperForms'. -/
def superFormsCard : Claim7 := { stood := { row := superFormsRow, standIns := [], harness := (true, "35d41fcee20942a92110a8757a27aaf5e3a1834e5ba683fa2e584cf5bea8de69"), looks := false }, kinds := [], alts := [], laidByText := true, laidKinds := [.data, .pinned], laidTests := true, laidLooks := .later }
def SuperFormsCardSaid : Prop := Claim7.holds Tryd.pinned (.plain (OpenSpec.ofChange superFormsSpec)) superFormsCard

/-- THE TIED CARD OF 'holtlaw5.SuperPicks'. -/
def superPicksCard : Claim7 := { stood := { row := superPicksRow, standIns := [], harness := (true, "35d41fcee20942a92110a8757a27aaf5e3a1834e5ba683fa2e584cf5bea8de69"), looks := false }, kinds := [], alts := [], laidByText := true, laidKinds := [.data, .pinned], laidTests := true, laidLooks := .later }
def SuperPicksCardSaid : Prop := Claim7.holds Tryd.pinned (.plain (OpenSpec.ofChange superPicksSpec)) superPicksCard

/-- THE TIED CARD OF 'holtlaw5.SuperTorn'. -/
def superTornCard : Claim7 := { stood := { row := superTornRow, standIns := [], harness := (true, "35d41fcee20942a92110a8757a27aaf5e3a1834e5ba683fa2e584cf5bea8de69"), looks := false }, kinds := [], alts := [], laidByText := true, laidKinds := [.data, .pinned], laidTests := true, laidLooks := .later }
def SuperTornCardSaid : Prop := Claim7.holds Tryd.pinned (.plain (OpenSpec.ofChange superTornSpec)) superTornCard

/-- THE SECOND FORM's CARD OF 'holtlaw5.SuperForms'. -/
def superFormsUptoCard : Claim7 := { stood := { row := superFormsUptoRow, standIns := [], harness := (true, "35d41fcee20942a92110a8757a27aaf5e3a1834e5ba683fa2e584cf5bea8de69"), looks := false }, kinds := [], alts := [], laidByText := true, laidKinds := [.data, .pinned], laidTests := true, laidLooks := .later }
def SuperFormsUptoCardSaid : Prop := Claim7.holds Tryd.pinned (.plain (OpenSpec.upto superFormsSpec)) superFormsUptoCard

/-- THE SECOND FORM's CARD OF 'holtlaw5.SuperPicks'. -/
def superPicksUptoCard : Claim7 := { stood := { row := superPicksUptoRow, standIns := [], harness := (true, "35d41fcee20942a92110a8757a27aaf5e3a1834e5ba683fa2e584cf5bea8de69"), looks := false }, kinds := [], alts := [], laidByText := true, laidKinds := [.data, .pinned], laidTests := true, laidLooks := .later }
def SuperPicksUptoCardSaid : Prop := Claim7.holds Tryd.pinned (.plain (OpenSpec.upto superPicksSpec)) superPicksUptoCard

/-- THE SECOND FORM's CARD OF 'holtlaw5.SuperTorn'. -/
def superTornUptoCard : Claim7 := { stood := { row := superTornUptoRow, standIns := [], harness := (true, "35d41fcee20942a92110a8757a27aaf5e3a1834e5ba683fa2e584cf5bea8de69"), looks := false }, kinds := [], alts := [], laidByText := true, laidKinds := [.data, .pinned], laidTests := true, laidLooks := .later }
def SuperTornUptoCardSaid : Prop := Claim7.holds Tryd.pinned (.plain (OpenSpec.upto superTornSpec)) superTornUptoCard
end Rows
end Go.Proofs.YtlkjfjpcphlfeaaDoor
