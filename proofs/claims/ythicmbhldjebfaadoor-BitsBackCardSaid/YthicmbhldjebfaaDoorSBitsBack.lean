/- The law BitsBack: the pure statement. -/
import Derived.Test.YthicmbhldjebfaaDoorPAx28
namespace Go.Proofs.YthicmbhldjebfaaDoor.PA
open Go Go.RowKit Go.Proofs.YthicmbhldjebfaaDoorW.PrintWords Go.Proofs.YthicmbhldjebfaaDoorW.PrintLast Go.Proofs.YthicmbhldjebfaaDoorW.PrintMore
/-- What is left of the law BitsBack: plain Lean. -/
def PureBitsBack : Prop := ∀ (l0 : (List S66)) (a1 : Int) (a2 : ByteArray), (l0.length ≤ maxLen ∧ ∀ z1 ∈ l0, ((Lit.int .i64 z1.f0).wf = true ∧ ((Lit.int .i64 z1.f1).wf = true ∧ ((Lit.int .i64 z1.f2).wf = true ∧ z1.f3.size ≤ maxLen)))) → (Lit.int .i64 a1).wf = true → a2.size ≤ maxLen → ∃ k, examinerlaw08_BitsBack.f k l0 a1 a2 = some true
end Go.Proofs.YthicmbhldjebfaaDoor.PA
