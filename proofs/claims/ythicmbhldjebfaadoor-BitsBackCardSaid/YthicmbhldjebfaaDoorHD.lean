/- strings.Contains at the one substring that the program asks for, in the printer's form. -/
import Derived.Test.YthicmbhldjebfaaDoorWWords
import Derived.Test.YthicmbhldjebfaaDoorPAx0
import Derived.Test.YthicmbhldjebfaaDoorHM
namespace Go.Proofs.YthicmbhldjebfaaDoor.PA
open Go Go.RowKit Go.Proofs.YthicmbhldjebfaaDoorW.PrintWords Go.Proofs.YthicmbhldjebfaaDoorW.PrintLast Go.Proofs.YthicmbhldjebfaaDoorW.PrintMore
set_option linter.unusedVariables false
def strings_Contains.f (s t : ByteArray) : Option Bool := if t = ⟨#[49]⟩ then some (decide (0 ≤ Lib.indexByte s.data.toList 49)) else none
theorem strings_Contains.calls (a0 a1 : ByteArray) (r : Bool) (w : World) (h : strings_Contains.f a0 a1 = some r) :
    Calls Tryd.prog 76 #[.string a0, .string a1] w fun e w' => e = .returned (.bool r) ∧ Drawn0 w w' := by
  unfold strings_Contains.f at h
  split at h
  · rename_i ht
    subst ht
    obtain rfl := Option.some.inj h
    exact (st_Contains_one a0 49 w).mono fun e w' ⟨h1, h2⟩ => ⟨h1, 0, h2⟩
  · cases h
end Go.Proofs.YthicmbhldjebfaaDoor.PA
