-- Laid by wip/gen/myprint.py of this session, on the kit's print.
import Derived.Test.YtiagbkpggeglgaaMRx0
import Derived.Test.YtiagbkpggeglgaaMRx1
import Derived.Test.YtiagbkpggeglgaaMRx2
import Derived.Test.YtiagbkpggeglgaaMRx3
import Derived.Test.YtiagbkpggeglgaaMRx4
namespace Go.Proofs.Ytiagbkpggeglgaa.MR
open Go.RowKit Go.Proofs.YtiagbkpggeglgaaW.PrintWords Go.Proofs.YtiagbkpggeglgaaW.PrintLast Go.Proofs.YtiagbkpggeglgaaW.PrintMore
attribute [local go_sem] max2_int min2_int max_two min_two max_three min_three max_four min_four   -- for this text's walks alone
set_option linter.unusedVariables false
set_option linter.unusedSimpArgs false

end Go.Proofs.Ytiagbkpggeglgaa.MR
