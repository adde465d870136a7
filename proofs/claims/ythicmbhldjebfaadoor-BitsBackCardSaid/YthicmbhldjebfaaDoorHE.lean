/- math/bits.Len: the contract that the kit's contract.sh lays off its template, in the printer's form. -/
import Derived.Test.YthicmbhldjebfaaDoorWWords
import Derived.Test.YthicmbhldjebfaaDoorPAx0
import Derived.Test.YthicmbhldjebfaaDoorHL
import Derived.Lib.Strings
import Derived.Lib.Small
import Derived.Lib.Walk
import Derived.Lib.BitFns
namespace Go.Proofs.YthicmbhldjebfaaDoor.PA
open Go Go.RowKit Go.Proofs.YthicmbhldjebfaaDoorW.PrintWords Go.Proofs.YthicmbhldjebfaaDoorW.PrintLast Go.Proofs.YthicmbhldjebfaaDoorW.PrintMore
set_option linter.unusedVariables false
def bits_Len.f (x : Int) : Option Int := if 0 ≤ x then (if x ≤ 18446744073709551615 then some (Lib.bitLen x.toNat : Int) else none) else none
theorem bits_Len.calls (x : Int) (r : Int) (w : World) (h : bits_Len.f x = some r) :
    Calls Tryd.prog 69 #[.int .u64 x] w fun e w' => e = .returned (.int .i64 r) ∧ Drawn0 w w' := by
  unfold bits_Len.f at h
  split at h
  · rename_i h0
    split at h
    · rename_i h1
      obtain rfl := Option.some.inj h
      clear h
      go_enter Tryd.func69, Tryd.ntmps69
      go_wp2_with (go_at_call 80; refine (len64_of x _ h0 h1).mono ?_; rintro e w2 ⟨rfl, rfl⟩)
      go_ret
      exact ⟨rfl, 0, rfl⟩
    · cases h
  · cases h
end Go.Proofs.YthicmbhldjebfaaDoor.PA
