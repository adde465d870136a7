/-
  DERIVED. GIVEN WITH THE SEED: THE CARDS: each row of YtgflelipamofoaaDoorRows.lean that lists a variable, with what it lists TIED to the program's text (the seventh form; the later family's looks); each row that meets fmt, with fmt's text TOLD by the authors' own Lean function (tested against real Go, not proved from fmt's source: count such statements apart). THE CARD IS WHAT COUNTS. Prove the row's statement (the work); the ties are given (YtgflelipamofoaaDoorTie.lean); close each card by the builder's one call (the guide's Derived/Test/ToyasCard.lean, 'card_holds'). Laid BY PROGRAM, IN A SANDBOX (cutbox-door.mjs). By AI agents, Wed Nov 11 2026. No macro, syntax, notation, axiom, sorry.
-/
import Derived.Test.YtgflelipamofoaaDoorRows
import GoSem.ClaimSeven
namespace Go.Proofs.YtgflelipamofoaaDoor
namespace Rows

/-- THE TIED CARD OF 'examinerlaw43.CampaignAppends'. -/
def campaignAppendsCard : Claim7 := { stood := { row := campaignAppendsRow, standIns := [], harness := (true, "1835bccb81fb679fb0ca742ff78ca3c1a5f8850f1a6c2b87c02e62939d0d6779"), looks := false }, kinds := [], alts := [], laidByText := true, laidKinds := [.data, .pinned], laidTests := true, laidLooks := .later }
def CampaignAppendsCardSaid : Prop := Claim7.holds Tryd.pinned (.plain (OpenSpec.ofChange campaignAppendsSpec)) campaignAppendsCard

/-- THE TIED CARD OF 'examinerlaw43.CampaignReads'. -/
def campaignReadsCard : Claim7 := { stood := { row := campaignReadsRow, standIns := [], harness := (true, "1835bccb81fb679fb0ca742ff78ca3c1a5f8850f1a6c2b87c02e62939d0d6779"), looks := false }, kinds := [], alts := [], laidByText := true, laidKinds := [.data, .pinned], laidTests := true, laidLooks := .later }
def CampaignReadsCardSaid : Prop := Claim7.holds Tryd.pinned (.plain (OpenSpec.ofChange campaignReadsSpec)) campaignReadsCard

/-- THE TIED CARD OF 'examinerlaw43.CampaignSurvives'. -/
def campaignSurvivesCard : Claim7 := { stood := { row := campaignSurvivesRow, standIns := [], harness := (true, "1835bccb81fb679fb0ca742ff78ca3c1a5f8850f1a6c2b87c02e62939d0d6779"), looks := false }, kinds := [], alts := [], laidByText := true, laidKinds := [.data, .pinned], laidTests := true, laidLooks := .later }
def CampaignSurvivesCardSaid : Prop := Claim7.holds Tryd.pinned (.plain (OpenSpec.ofChange campaignSurvivesSpec)) campaignSurvivesCard

/-- THE SECOND FORM's CARD OF 'examinerlaw43.CampaignAppends'. -/
def campaignAppendsUptoCard : Claim7 := { stood := { row := campaignAppendsUptoRow, standIns := [], harness := (true, "1835bccb81fb679fb0ca742ff78ca3c1a5f8850f1a6c2b87c02e62939d0d6779"), looks := false }, kinds := [], alts := [], laidByText := true, laidKinds := [.data, .pinned], laidTests := true, laidLooks := .later }
def CampaignAppendsUptoCardSaid : Prop := Claim7.holds Tryd.pinned (.plain (OpenSpec.upto campaignAppendsSpec)) campaignAppendsUptoCard

/-- THE SECOND FORM's CARD OF 'examinerlaw43.CampaignReads'. -/
def campaignReadsUptoCard : Claim7 := { stood := { row := campaignReadsUptoRow, standIns := [], harness := (true, "1835bccb81fb679fb0ca742ff78ca3c1a5f8850f1a6c2b87c02e62939d0d6779"), looks := false }, kinds := [], alts := [], laidByText := true, laidKinds := [.data, .pinned], laidTests := true, laidLooks := .later }
def CampaignReadsUptoCardSaid : Prop := Claim7.holds Tryd.pinned (.plain (OpenSpec.upto campaignReadsSpec)) campaignReadsUptoCard

/-- THE SECOND FORM's CARD OF 'examinerlaw43.CampaignSurvives'. -/
def campaignSurvivesUptoCard : Claim7 := { stood := { row := campaignSurvivesUptoRow, standIns := [], harness := (true, "1835bccb81fb679fb0ca742ff78ca3c1a5f8850f1a6c2b87c02e62939d0d6779"), looks := false }, kinds := [], alts := [], laidByText := true, laidKinds := [.data, .pinned], laidTests := true, laidLooks := .later }
def CampaignSurvivesUptoCardSaid : Prop := Claim7.holds Tryd.pinned (.plain (OpenSpec.upto campaignSurvivesSpec)) campaignSurvivesUptoCard
end Rows
end Go.Proofs.YtgflelipamofoaaDoor
