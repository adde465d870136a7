/-
  DERIVED. GIVEN WITH THE SEED: THE CARDS: each row of YthicmbhldjebfaaDoorRows.lean that lists a variable, with what it lists TIED to the program's text (the seventh form; the later family's looks); each row that meets fmt, with fmt's text TOLD by the authors' own Lean function (tested against real Go, not proved from fmt's source: count such statements apart). THE CARD IS WHAT COUNTS. Prove the row's statement (the work); the ties are given (YthicmbhldjebfaaDoorTie.lean); close each card by the builder's one call (the guide's Derived/Test/ToyasCard.lean, 'card_holds'). Laid BY PROGRAM, IN A SANDBOX (cutbox-door.mjs). By AI agents, Wed Nov 11 2026. No macro, syntax, notation, axiom, sorry.
-/
import Derived.Test.YthicmbhldjebfaaDoorRows
import GoSem.ClaimSeven
namespace Go.Proofs.YthicmbhldjebfaaDoor
namespace Rows

/-- THE TIED CARD OF 'examinerlaw08.BitsWrites'. -/
def bitsWritesCard : Claim7 := { stood := { row := bitsWritesRow, standIns := [], harness := (true, "45439e038e261c86cb198b44cfe887e073bdb142c048801a57b743eff58ae2c3"), looks := false }, kinds := [], alts := [], laidByText := true, laidKinds := [.data, .pinned], laidTests := true, laidLooks := .later }
def BitsWritesCardSaid : Prop := Claim7.holds Tryd.pinned (.plain (OpenSpec.ofChange bitsWritesSpec)) bitsWritesCard

/-- THE TIED CARD OF 'examinerlaw08.BitsPacks'. -/
def bitsPacksCard : Claim7 := { stood := { row := bitsPacksRow, standIns := [], harness := (true, "45439e038e261c86cb198b44cfe887e073bdb142c048801a57b743eff58ae2c3"), looks := false }, kinds := [], alts := [], laidByText := true, laidKinds := [.data, .pinned], laidTests := true, laidLooks := .later }
def BitsPacksCardSaid : Prop := Claim7.holds Tryd.pinned (.plain (OpenSpec.ofChange bitsPacksSpec)) bitsPacksCard

/-- THE TIED CARD OF 'examinerlaw08.BitsFragments'. -/
def bitsFragmentsCard : Claim7 := { stood := { row := bitsFragmentsRow, standIns := [], harness := (true, "45439e038e261c86cb198b44cfe887e073bdb142c048801a57b743eff58ae2c3"), looks := false }, kinds := [], alts := [], laidByText := true, laidKinds := [.data, .pinned], laidTests := true, laidLooks := .later }
def BitsFragmentsCardSaid : Prop := Claim7.holds Tryd.pinned (.plain (OpenSpec.ofChange bitsFragmentsSpec)) bitsFragmentsCard

/-- THE TIED CARD OF 'examinerlaw08.BitsNumbers'. -/
def bitsNumbersCard : Claim7 := { stood := { row := bitsNumbersRow, standIns := [], harness := (true, "45439e038e261c86cb198b44cfe887e073bdb142c048801a57b743eff58ae2c3"), looks := false }, kinds := [], alts := [], laidByText := true, laidKinds := [.data, .pinned], laidTests := true, laidLooks := .later }
def BitsNumbersCardSaid : Prop := Claim7.holds Tryd.pinned (.plain (OpenSpec.ofChange bitsNumbersSpec)) bitsNumbersCard

/-- THE TIED CARD OF 'examinerlaw08.BitsShortest'. -/
def bitsShortestCard : Claim7 := { stood := { row := bitsShortestRow, standIns := [], harness := (true, "45439e038e261c86cb198b44cfe887e073bdb142c048801a57b743eff58ae2c3"), looks := false }, kinds := [], alts := [], laidByText := true, laidKinds := [.data, .pinned], laidTests := true, laidLooks := .later }
def BitsShortestCardSaid : Prop := Claim7.holds Tryd.pinned (.plain (OpenSpec.ofChange bitsShortestSpec)) bitsShortestCard

/-- THE TIED CARD OF 'examinerlaw08.BitsForms'. -/
def bitsFormsCard : Claim7 := { stood := { row := bitsFormsRow, standIns := [], harness := (true, "45439e038e261c86cb198b44cfe887e073bdb142c048801a57b743eff58ae2c3"), looks := false }, kinds := [], alts := [], laidByText := true, laidKinds := [.data, .pinned], laidTests := true, laidLooks := .later }
def BitsFormsCardSaid : Prop := Claim7.holds Tryd.pinned (.plain (OpenSpec.ofChange bitsFormsSpec)) bitsFormsCard

/-- THE TIED CARD OF 'examinerlaw08.BitsReads'. -/
def bitsReadsCard : Claim7 := { stood := { row := bitsReadsRow, standIns := [], harness := (true, "45439e038e261c86cb198b44cfe887e073bdb142c048801a57b743eff58ae2c3"), looks := false }, kinds := [], alts := [], laidByText := true, laidKinds := [.data, .pinned], laidTests := true, laidLooks := .later }
def BitsReadsCardSaid : Prop := Claim7.holds Tryd.pinned (.plain (OpenSpec.ofChange bitsReadsSpec)) bitsReadsCard

/-- THE TIED CARD OF 'examinerlaw08.BitsBack'. -/
def bitsBackCard : Claim7 := { stood := { row := bitsBackRow, standIns := [], harness := (true, "45439e038e261c86cb198b44cfe887e073bdb142c048801a57b743eff58ae2c3"), looks := false }, kinds := [], alts := [], laidByText := true, laidKinds := [.data, .pinned], laidTests := true, laidLooks := .later }
def BitsBackCardSaid : Prop := Claim7.holds Tryd.pinned (.plain (OpenSpec.ofChange bitsBackSpec)) bitsBackCard

/-- THE SECOND FORM's CARD OF 'examinerlaw08.BitsWrites'. -/
def bitsWritesUptoCard : Claim7 := { stood := { row := bitsWritesUptoRow, standIns := [], harness := (true, "45439e038e261c86cb198b44cfe887e073bdb142c048801a57b743eff58ae2c3"), looks := false }, kinds := [], alts := [], laidByText := true, laidKinds := [.data, .pinned], laidTests := true, laidLooks := .later }
def BitsWritesUptoCardSaid : Prop := Claim7.holds Tryd.pinned (.plain (OpenSpec.upto bitsWritesSpec)) bitsWritesUptoCard

/-- THE SECOND FORM's CARD OF 'examinerlaw08.BitsPacks'. -/
def bitsPacksUptoCard : Claim7 := { stood := { row := bitsPacksUptoRow, standIns := [], harness := (true, "45439e038e261c86cb198b44cfe887e073bdb142c048801a57b743eff58ae2c3"), looks := false }, kinds := [], alts := [], laidByText := true, laidKinds := [.data, .pinned], laidTests := true, laidLooks := .later }
def BitsPacksUptoCardSaid : Prop := Claim7.holds Tryd.pinned (.plain (OpenSpec.upto bitsPacksSpec)) bitsPacksUptoCard

/-- THE SECOND FORM's CARD OF 'examinerlaw08.BitsFragments'. -/
def bitsFragmentsUptoCard : Claim7 := { stood := { row := bitsFragmentsUptoRow, standIns := [], harness := (true, "45439e038e261c86cb198b44cfe887e073bdb142c048801a57b743eff58ae2c3"), looks := false }, kinds := [], alts := [], laidByText := true, laidKinds := [.data, .pinned], laidTests := true, laidLooks := .later }
def BitsFragmentsUptoCardSaid : Prop := Claim7.holds Tryd.pinned (.plain (OpenSpec.upto bitsFragmentsSpec)) bitsFragmentsUptoCard

/-- THE SECOND FORM's CARD OF 'examinerlaw08.BitsNumbers'. -/
def bitsNumbersUptoCard : Claim7 := { stood := { row := bitsNumbersUptoRow, standIns := [], harness := (true, "45439e038e261c86cb198b44cfe887e073bdb142c048801a57b743eff58ae2c3"), looks := false }, kinds := [], alts := [], laidByText := true, laidKinds := [.data, .pinned], laidTests := true, laidLooks := .later }
def BitsNumbersUptoCardSaid : Prop := Claim7.holds Tryd.pinned (.plain (OpenSpec.upto bitsNumbersSpec)) bitsNumbersUptoCard

/-- THE SECOND FORM's CARD OF 'examinerlaw08.BitsShortest'. -/
def bitsShortestUptoCard : Claim7 := { stood := { row := bitsShortestUptoRow, standIns := [], harness := (true, "45439e038e261c86cb198b44cfe887e073bdb142c048801a57b743eff58ae2c3"), looks := false }, kinds := [], alts := [], laidByText := true, laidKinds := [.data, .pinned], laidTests := true, laidLooks := .later }
def BitsShortestUptoCardSaid : Prop := Claim7.holds Tryd.pinned (.plain (OpenSpec.upto bitsShortestSpec)) bitsShortestUptoCard

/-- THE SECOND FORM's CARD OF 'examinerlaw08.BitsForms'. -/
def bitsFormsUptoCard : Claim7 := { stood := { row := bitsFormsUptoRow, standIns := [], harness := (true, "45439e038e261c86cb198b44cfe887e073bdb142c048801a57b743eff58ae2c3"), looks := false }, kinds := [], alts := [], laidByText := true, laidKinds := [.data, .pinned], laidTests := true, laidLooks := .later }
def BitsFormsUptoCardSaid : Prop := Claim7.holds Tryd.pinned (.plain (OpenSpec.upto bitsFormsSpec)) bitsFormsUptoCard

/-- THE SECOND FORM's CARD OF 'examinerlaw08.BitsReads'. -/
def bitsReadsUptoCard : Claim7 := { stood := { row := bitsReadsUptoRow, standIns := [], harness := (true, "45439e038e261c86cb198b44cfe887e073bdb142c048801a57b743eff58ae2c3"), looks := false }, kinds := [], alts := [], laidByText := true, laidKinds := [.data, .pinned], laidTests := true, laidLooks := .later }
def BitsReadsUptoCardSaid : Prop := Claim7.holds Tryd.pinned (.plain (OpenSpec.upto bitsReadsSpec)) bitsReadsUptoCard

/-- THE SECOND FORM's CARD OF 'examinerlaw08.BitsBack'. -/
def bitsBackUptoCard : Claim7 := { stood := { row := bitsBackUptoRow, standIns := [], harness := (true, "45439e038e261c86cb198b44cfe887e073bdb142c048801a57b743eff58ae2c3"), looks := false }, kinds := [], alts := [], laidByText := true, laidKinds := [.data, .pinned], laidTests := true, laidLooks := .later }
def BitsBackUptoCardSaid : Prop := Claim7.holds Tryd.pinned (.plain (OpenSpec.upto bitsBackSpec)) bitsBackUptoCard
end Rows
end Go.Proofs.YthicmbhldjebfaaDoor
