/- The law BitsWrites: the pure statement. -/
import Derived.Test.YthicmbhldjebfaaDoorPAx14
namespace Go.Proofs.YthicmbhldjebfaaDoor.PA
open Go Go.RowKit Go.Proofs.YthicmbhldjebfaaDoorW.PrintWords Go.Proofs.YthicmbhldjebfaaDoorW.PrintLast Go.Proofs.YthicmbhldjebfaaDoorW.PrintMore
/-- What is left of the law BitsWrites: plain Lean. -/
def PureBitsWrites : Prop := ∀ (l0 : (List S66)), (l0.length ≤ maxLen ∧ ∀ z1 ∈ l0, ((Lit.int .i64 z1.f0).wf = true ∧ ((Lit.int .i64 z1.f1).wf = true ∧ ((Lit.int .i64 z1.f2).wf = true ∧ z1.f3.size ≤ maxLen)))) → ∃ k, examinerlaw08_BitsWrites.f k l0 = some true
end Go.Proofs.YthicmbhldjebfaaDoor.PA
