/- The law CampaignSurvives: the pure statement. -/
import Derived.Test.YtgflelipamofoaaDoorPAx13
namespace Go.Proofs.YtgflelipamofoaaDoor.PA
open Go Go.RowKit Go.Proofs.YtgflelipamofoaaDoorW.PrintWords Go.Proofs.YtgflelipamofoaaDoorW.PrintLast Go.Proofs.YtgflelipamofoaaDoorW.PrintMore
/-- What is left of the law CampaignSurvives: plain Lean. -/
def PureCampaignSurvives : Prop := ∀ (l0_0 : (List S57)) (l1_0 : (List S57)) (l2_0 : (List Int)) (l2_1 : (List Int)), (l0_0.length ≤ maxLen ∧ ∀ z1 ∈ l0_0, (z1.f0.size ≤ maxLen ∧ ((Lit.int .i64 z1.f1).wf = true ∧ ((Lit.int .i64 z1.f2).wf = true ∧ (Lit.int .i64 z1.f3).wf = true)))) → (l1_0.length ≤ maxLen ∧ ∀ z2 ∈ l1_0, (z2.f0.size ≤ maxLen ∧ ((Lit.int .i64 z2.f1).wf = true ∧ ((Lit.int .i64 z2.f2).wf = true ∧ (Lit.int .i64 z2.f3).wf = true)))) → (l2_0.length ≤ maxLen ∧ ∀ z3 ∈ l2_0, (Lit.int .u8 z3).wf = true) → (l2_1.length ≤ maxLen ∧ ∀ z4 ∈ l2_1, (Lit.int .u8 z4).wf = true) → ∃ k, examinerlaw43_CampaignSurvives.f k l0_0 l1_0 l2_0 l2_1 = some true
end Go.Proofs.YtgflelipamofoaaDoor.PA
