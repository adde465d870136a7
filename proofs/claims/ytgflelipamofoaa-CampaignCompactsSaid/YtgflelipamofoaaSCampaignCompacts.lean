/- The law CampaignCompacts: the pure statement. -/
import Derived.Test.YtgflelipamofoaaPAx10
namespace Go.Proofs.Ytgflelipamofoaa.PA
open Go Go.RowKit Go.Proofs.YtgflelipamofoaaW.PrintWords Go.Proofs.YtgflelipamofoaaW.PrintLast Go.Proofs.YtgflelipamofoaaW.PrintMore
/-- What is left of the law CampaignCompacts: plain Lean. -/
def PureCampaignCompacts : Prop := ∀ (l0_0 : (List S61)) (l1_0 : (List S38)), (l0_0.length ≤ maxLen ∧ ∀ z1 ∈ l0_0, (z1.f0.size ≤ maxLen ∧ ((Lit.int .i64 z1.f1).wf = true ∧ ((Lit.int .i64 z1.f2).wf = true ∧ (Lit.int .i64 z1.f3).wf = true)))) → (l1_0.length ≤ maxLen ∧ ∀ z2 ∈ l1_0, (z2.f0.size ≤ maxLen ∧ (Lit.int .i64 z2.f1).wf = true)) → ∃ k, examinerlaw43_CampaignCompacts.f k l0_0 l1_0 = some true
end Go.Proofs.Ytgflelipamofoaa.PA
