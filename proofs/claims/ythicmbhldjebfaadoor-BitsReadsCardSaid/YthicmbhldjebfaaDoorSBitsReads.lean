/- The law BitsReads: the pure statement. -/
import Derived.Test.YthicmbhldjebfaaDoorPAx27
namespace Go.Proofs.YthicmbhldjebfaaDoor.PA
open Go Go.RowKit Go.Proofs.YthicmbhldjebfaaDoorW.PrintWords Go.Proofs.YthicmbhldjebfaaDoorW.PrintLast Go.Proofs.YthicmbhldjebfaaDoorW.PrintMore
/-- What is left of the law BitsReads: plain Lean. -/
def PureBitsReads : Prop := ∀ (a0 : ByteArray) (l1 : (List S66)), a0.size ≤ maxLen → (l1.length ≤ maxLen ∧ ∀ z1 ∈ l1, ((Lit.int .i64 z1.f0).wf = true ∧ ((Lit.int .i64 z1.f1).wf = true ∧ ((Lit.int .i64 z1.f2).wf = true ∧ z1.f3.size ≤ maxLen)))) → ∃ k, examinerlaw08_BitsReads.f k a0 l1 = some true
end Go.Proofs.YthicmbhldjebfaaDoor.PA
