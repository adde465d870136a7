/- The law CampaignWrites: the pure statement. -/
import Derived.Test.YtgflelipamofoaaPAx12
namespace Go.Proofs.Ytgflelipamofoaa.PA
open Go Go.RowKit Go.Proofs.YtgflelipamofoaaW.PrintWords Go.Proofs.YtgflelipamofoaaW.PrintLast Go.Proofs.YtgflelipamofoaaW.PrintMore
/-- What is left of the law CampaignWrites: plain Lean. -/
def PureCampaignWrites : Prop := ∀ (a0 : ByteArray) (l1_0 : (List S97)) (l1_1 : (List Int)), a0.size ≤ maxLen → (l1_0.length ≤ maxLen ∧ ∀ z1 ∈ l1_0, ((Lit.int .i64 z1.f0).wf = true ∧ z1.f1.size ≤ maxLen)) → (l1_1.length ≤ maxLen ∧ ∀ z2 ∈ l1_1, (Lit.int .i64 z2).wf = true) → ∃ k, examinerlaw43_CampaignWrites.f k a0 l1_0 l1_1 = some true
end Go.Proofs.Ytgflelipamofoaa.PA
