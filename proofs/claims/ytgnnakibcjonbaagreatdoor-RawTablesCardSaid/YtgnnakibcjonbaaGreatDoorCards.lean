/-
  DERIVED. GIVEN WITH THE SEED: THE CARDS: each row of YtgnnakibcjonbaaGreatDoorRows.lean that lists a variable, with what it lists TIED to the program's text (the seventh form; the later family's looks); each row that meets fmt, with fmt's text TOLD by the authors' own Lean function (tested against real Go, not proved from fmt's source: count such statements apart). THE CARD IS WHAT COUNTS. Prove the row's statement (the work); the ties are given (YtgnnakibcjonbaaGreatDoorTie.lean); close each card by the builder's one call (the guide's Derived/Test/ToyasCard.lean, 'card_holds'). Laid BY PROGRAM, IN A SANDBOX (cutbox-door.mjs). By AI agents, Wed Nov 11 2026. No macro, syntax, notation, axiom, sorry.
-/
import Derived.Test.YtgnnakibcjonbaaGreatDoorRows
import GoSem.ClaimSeven
namespace Go.Proofs.YtgnnakibcjonbaaGreatDoor
namespace Rows

/-- THE TIED CARD OF 'examinertop.LayoutsExact'. -/
def layoutsExactCard : Claim7 := { stood := { row := layoutsExactRow, standIns := [], harness := (true, "c8ecf5cb714340c53db32c2777dadd9382c7c82c3d440d988e6e2587b61e35c8"), looks := false }, kinds := [], alts := [], laidByText := true, laidKinds := [.data, .pinned], laidTests := true, laidLooks := .later }
def LayoutsExactCardSaid : Prop := Claim7.holds Tryz.pinned (.plain (OpenSpec.ofChange layoutsExactSpec)) layoutsExactCard

/-- THE TIED CARD OF 'examinerlaw16.RawTables'. -/
def rawTablesCard : Claim7 := { stood := { row := rawTablesRow, standIns := [], harness := (true, "c8ecf5cb714340c53db32c2777dadd9382c7c82c3d440d988e6e2587b61e35c8"), looks := false }, kinds := [], alts := [], laidByText := true, laidKinds := [.data, .pinned], laidTests := true, laidLooks := .later }
def RawTablesCardSaid : Prop := Claim7.holds Tryz.pinned (.plain (OpenSpec.ofChange rawTablesSpec)) rawTablesCard

/-- THE TIED CARD OF 'examinerlaw16.RawValues'. -/
def rawValuesCard : Claim7 := { stood := { row := rawValuesRow, standIns := [], harness := (true, "c8ecf5cb714340c53db32c2777dadd9382c7c82c3d440d988e6e2587b61e35c8"), looks := false }, kinds := [], alts := [], laidByText := true, laidKinds := [.data, .pinned], laidTests := true, laidLooks := .later }
def RawValuesCardSaid : Prop := Claim7.holds Tryz.pinned (.plain (OpenSpec.ofChange rawValuesSpec)) rawValuesCard

/-- THE TIED CARD OF 'examinerlaw16.RawWrites'. -/
def rawWritesCard : Claim7 := { stood := { row := rawWritesRow, standIns := [], harness := (true, "c8ecf5cb714340c53db32c2777dadd9382c7c82c3d440d988e6e2587b61e35c8"), looks := false }, kinds := [], alts := [], laidByText := true, laidKinds := [.data, .pinned], laidTests := true, laidLooks := .later }
def RawWritesCardSaid : Prop := Claim7.holds Tryz.pinned (.plain (OpenSpec.ofChange rawWritesSpec)) rawWritesCard

/-- THE TIED CARD OF 'examinerlaw16.RawBack'. -/
def rawBackCard : Claim7 := { stood := { row := rawBackRow, standIns := [], harness := (true, "c8ecf5cb714340c53db32c2777dadd9382c7c82c3d440d988e6e2587b61e35c8"), looks := false }, kinds := [], alts := [], laidByText := true, laidKinds := [.data, .pinned], laidTests := true, laidLooks := .later }
def RawBackCardSaid : Prop := Claim7.holds Tryz.pinned (.plain (OpenSpec.ofChange rawBackSpec)) rawBackCard

/-- THE TIED CARD OF 'examinerlaw16.RawReads'. -/
def rawReadsCard : Claim7 := { stood := { row := rawReadsRow, standIns := [], harness := (true, "c8ecf5cb714340c53db32c2777dadd9382c7c82c3d440d988e6e2587b61e35c8"), looks := false }, kinds := [], alts := [], laidByText := true, laidKinds := [.data, .pinned], laidTests := true, laidLooks := .later }
def RawReadsCardSaid : Prop := Claim7.holds Tryz.pinned (.plain (OpenSpec.ofChange rawReadsSpec)) rawReadsCard

/-- THE TIED CARD OF 'examinerlaw16.RawAgain'. -/
def rawAgainCard : Claim7 := { stood := { row := rawAgainRow, standIns := [], harness := (true, "c8ecf5cb714340c53db32c2777dadd9382c7c82c3d440d988e6e2587b61e35c8"), looks := false }, kinds := [], alts := [], laidByText := true, laidKinds := [.data, .pinned], laidTests := true, laidLooks := .later }
def RawAgainCardSaid : Prop := Claim7.holds Tryz.pinned (.plain (OpenSpec.ofChange rawAgainSpec)) rawAgainCard

/-- THE SECOND FORM's CARD OF 'examinertop.LayoutsExact'. -/
def layoutsExactUptoCard : Claim7 := { stood := { row := layoutsExactUptoRow, standIns := [], harness := (true, "c8ecf5cb714340c53db32c2777dadd9382c7c82c3d440d988e6e2587b61e35c8"), looks := false }, kinds := [], alts := [], laidByText := true, laidKinds := [.data, .pinned], laidTests := true, laidLooks := .later }
def LayoutsExactUptoCardSaid : Prop := Claim7.holds Tryz.pinned (.plain (OpenSpec.upto layoutsExactSpec)) layoutsExactUptoCard

/-- THE SECOND FORM's CARD OF 'examinerlaw16.RawTables'. -/
def rawTablesUptoCard : Claim7 := { stood := { row := rawTablesUptoRow, standIns := [], harness := (true, "c8ecf5cb714340c53db32c2777dadd9382c7c82c3d440d988e6e2587b61e35c8"), looks := false }, kinds := [], alts := [], laidByText := true, laidKinds := [.data, .pinned], laidTests := true, laidLooks := .later }
def RawTablesUptoCardSaid : Prop := Claim7.holds Tryz.pinned (.plain (OpenSpec.upto rawTablesSpec)) rawTablesUptoCard

/-- THE SECOND FORM's CARD OF 'examinerlaw16.RawValues'. -/
def rawValuesUptoCard : Claim7 := { stood := { row := rawValuesUptoRow, standIns := [], harness := (true, "c8ecf5cb714340c53db32c2777dadd9382c7c82c3d440d988e6e2587b61e35c8"), looks := false }, kinds := [], alts := [], laidByText := true, laidKinds := [.data, .pinned], laidTests := true, laidLooks := .later }
def RawValuesUptoCardSaid : Prop := Claim7.holds Tryz.pinned (.plain (OpenSpec.upto rawValuesSpec)) rawValuesUptoCard

/-- THE SECOND FORM's CARD OF 'examinerlaw16.RawWrites'. -/
def rawWritesUptoCard : Claim7 := { stood := { row := rawWritesUptoRow, standIns := [], harness := (true, "c8ecf5cb714340c53db32c2777dadd9382c7c82c3d440d988e6e2587b61e35c8"), looks := false }, kinds := [], alts := [], laidByText := true, laidKinds := [.data, .pinned], laidTests := true, laidLooks := .later }
def RawWritesUptoCardSaid : Prop := Claim7.holds Tryz.pinned (.plain (OpenSpec.upto rawWritesSpec)) rawWritesUptoCard

/-- THE SECOND FORM's CARD OF 'examinerlaw16.RawBack'. -/
def rawBackUptoCard : Claim7 := { stood := { row := rawBackUptoRow, standIns := [], harness := (true, "c8ecf5cb714340c53db32c2777dadd9382c7c82c3d440d988e6e2587b61e35c8"), looks := false }, kinds := [], alts := [], laidByText := true, laidKinds := [.data, .pinned], laidTests := true, laidLooks := .later }
def RawBackUptoCardSaid : Prop := Claim7.holds Tryz.pinned (.plain (OpenSpec.upto rawBackSpec)) rawBackUptoCard

/-- THE SECOND FORM's CARD OF 'examinerlaw16.RawReads'. -/
def rawReadsUptoCard : Claim7 := { stood := { row := rawReadsUptoRow, standIns := [], harness := (true, "c8ecf5cb714340c53db32c2777dadd9382c7c82c3d440d988e6e2587b61e35c8"), looks := false }, kinds := [], alts := [], laidByText := true, laidKinds := [.data, .pinned], laidTests := true, laidLooks := .later }
def RawReadsUptoCardSaid : Prop := Claim7.holds Tryz.pinned (.plain (OpenSpec.upto rawReadsSpec)) rawReadsUptoCard

/-- THE SECOND FORM's CARD OF 'examinerlaw16.RawAgain'. -/
def rawAgainUptoCard : Claim7 := { stood := { row := rawAgainUptoRow, standIns := [], harness := (true, "c8ecf5cb714340c53db32c2777dadd9382c7c82c3d440d988e6e2587b61e35c8"), looks := false }, kinds := [], alts := [], laidByText := true, laidKinds := [.data, .pinned], laidTests := true, laidLooks := .later }
def RawAgainUptoCardSaid : Prop := Claim7.holds Tryz.pinned (.plain (OpenSpec.upto rawAgainSpec)) rawAgainUptoCard
end Rows
end Go.Proofs.YtgnnakibcjonbaaGreatDoor
