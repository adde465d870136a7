-- Laid by pp.py (a program of this session, over the kit's printer) out of the translation. Not trusted: Lean checks it.
import Derived.Test.YthicmbhldjebfaaDoorPAx0
import Derived.Test.YthicmbhldjebfaaDoorPAx7
import Derived.Test.YthicmbhldjebfaaDoorPAx10
namespace Go.Proofs.YthicmbhldjebfaaDoor.PA
open Go.RowKit Go.Proofs.YthicmbhldjebfaaDoorW.PrintWords Go.Proofs.YthicmbhldjebfaaDoorW.PrintLast Go.Proofs.YthicmbhldjebfaaDoorW.PrintMore
attribute [local go_sem] max2_int min2_int max_two min_two max_three min_three max_four min_four   -- for this text's walks alone
set_option linter.unusedVariables false
set_option linter.unusedSimpArgs false

/-! ### examinerref08_widthErr: function 77 -/
end Go.Proofs.YthicmbhldjebfaaDoor.PA
