/- The law CampaignAppends: the pure statement. -/
import Derived.Test.YtgflelipamofoaaDoorPAx11
namespace Go.Proofs.YtgflelipamofoaaDoor.PA
open Go Go.RowKit Go.Proofs.YtgflelipamofoaaDoorW.PrintWords Go.Proofs.YtgflelipamofoaaDoorW.PrintLast Go.Proofs.YtgflelipamofoaaDoorW.PrintMore
/-- What is left of the law CampaignAppends: plain Lean. -/
def PureCampaignAppends : Prop := ∀ (a0 : ByteArray) (l1_0 : (List S57)), a0.size ≤ maxLen → (l1_0.length ≤ maxLen ∧ ∀ z1 ∈ l1_0, (z1.f0.size ≤ maxLen ∧ ((Lit.int .i64 z1.f1).wf = true ∧ ((Lit.int .i64 z1.f2).wf = true ∧ (Lit.int .i64 z1.f3).wf = true)))) → ∃ k, examinerlaw43_CampaignAppends.f k a0 l1_0 = some true
end Go.Proofs.YtgflelipamofoaaDoor.PA
