/- campaign.blockOf: in the printer's form. -/
import Derived.Test.YtgflelipamofoaaDoorHBk
namespace Go.Proofs.YtgflelipamofoaaDoor.PA
open Go Go.RowKit Go.Proofs.YtgflelipamofoaaDoorW.PrintWords Go.Proofs.YtgflelipamofoaaDoorW.PrintLast Go.Proofs.YtgflelipamofoaaDoorW.PrintMore
def campaign_blockOf.f (s : ByteArray) (d v t : Int) : Option ByteArray := if s.size ≤ 20 ∧ 0 ≤ d ∧ d ≤ 1099511627775 ∧ 0 ≤ v ∧ v ≤ 4 ∧ 0 ≤ t ∧ t ≤ 200 then some (blockB s d v t) else none
theorem campaign_blockOf.calls (s : ByteArray) (d v t : Int) (r : ByteArray) (w : World) (h : campaign_blockOf.f s d v t = some r) :
    Calls Tryd.prog 30 #[.agg #[.string s, .int .i64 d, .int .i64 v, .int .i64 t]] w fun e w' => e = .returned (.string r) ∧ Below w.heap.size w w' := by
  unfold campaign_blockOf.f at h
  split at h
  · rename_i g
    obtain rfl := Option.some.inj h
    exact blockOf_calls s d v t g.1 g.2.1 g.2.2.1 g.2.2.2.1 g.2.2.2.2.1 g.2.2.2.2.2.1 g.2.2.2.2.2.2 w
  · cases h
end Go.Proofs.YtgflelipamofoaaDoor.PA
