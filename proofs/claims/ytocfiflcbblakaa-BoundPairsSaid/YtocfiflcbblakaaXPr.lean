-- Printed by xprint.py of the repo (the kit's print with given contracts). Not trusted: Lean checks it.
import Derived.Test.YtocfiflcbblakaaXPr0
import Derived.Test.YtocfiflcbblakaaXPr1
import Derived.Test.YtocfiflcbblakaaXPr2
import Derived.Test.YtocfiflcbblakaaXPr3
namespace Go.Proofs.Ytocfiflcbblakaa.XPr
open Go.RowKit Go.Proofs.YtocfiflcbblakaaW.PrintWords Go.Proofs.YtocfiflcbblakaaW.PrintLast Go.Proofs.YtocfiflcbblakaaW.PrintMore
attribute [local go_sem] max2_int min2_int max_two min_two max_three min_three max_four min_four   -- for this text's walks alone
attribute [local go_sem] bytes_gt bool_ne
set_option linter.unusedVariables false
set_option linter.unusedSimpArgs false

end Go.Proofs.Ytocfiflcbblakaa.XPr
