/- The law CampaignEntries: the pure statement. -/
import Derived.Test.YtgflelipamofoaaPAx9
namespace Go.Proofs.Ytgflelipamofoaa.PA
open Go Go.RowKit Go.Proofs.YtgflelipamofoaaW.PrintWords Go.Proofs.YtgflelipamofoaaW.PrintLast Go.Proofs.YtgflelipamofoaaW.PrintMore
/-- What is left of the law CampaignEntries: plain Lean. -/
def PureCampaignEntries : Prop := ∀ (l0_0 : (List S61)) (a1 : ByteArray), (l0_0.length ≤ maxLen ∧ ∀ z1 ∈ l0_0, (z1.f0.size ≤ maxLen ∧ ((Lit.int .i64 z1.f1).wf = true ∧ ((Lit.int .i64 z1.f2).wf = true ∧ (Lit.int .i64 z1.f3).wf = true)))) → a1.size ≤ maxLen → ∃ k, examinerlaw43_CampaignEntries.f k l0_0 a1 = some true
end Go.Proofs.Ytgflelipamofoaa.PA
