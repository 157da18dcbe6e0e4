-- Printed by xprint.py of the repo (the kit's print with given contracts). Not trusted: Lean checks it.
import Derived.Test.YtocfiflcbblakaaXPt0
import Derived.Test.YtocfiflcbblakaaXPt1
import Derived.Test.YtocfiflcbblakaaXPt2
import Derived.Test.YtocfiflcbblakaaXPt3
namespace Go.Proofs.Ytocfiflcbblakaa.XPt
open Go.RowKit Go.Proofs.YtocfiflcbblakaaW.PrintWords Go.Proofs.YtocfiflcbblakaaW.PrintLast Go.Proofs.YtocfiflcbblakaaW.PrintMore
attribute [local go_sem] max2_int min2_int max_two min_two max_three min_three max_four min_four   -- for this text's walks alone
attribute [local go_sem] bytes_gt bool_ne
set_option linter.unusedVariables false
set_option linter.unusedSimpArgs false

end Go.Proofs.Ytocfiflcbblakaa.XPt
