-- Laid by wip/gen/myprint.py of this session, on the kit's print.
import Derived.Test.YtiagbkpggeglgaaGreatMRx0
import Derived.Test.YtiagbkpggeglgaaGreatMRx1
import Derived.Test.YtiagbkpggeglgaaGreatMRx2
import Derived.Test.YtiagbkpggeglgaaGreatMRx3
import Derived.Test.YtiagbkpggeglgaaGreatMRx4
import Derived.Test.YtiagbkpggeglgaaGreatMRx5
import Derived.Test.YtiagbkpggeglgaaGreatMRx6
namespace Go.Proofs.YtiagbkpggeglgaaGreat.MR
open Go.RowKit Go.Proofs.YtiagbkpggeglgaaGreatW.PrintWords Go.Proofs.YtiagbkpggeglgaaGreatW.PrintLast Go.Proofs.YtiagbkpggeglgaaGreatW.PrintMore
attribute [local go_sem] max2_int min2_int max_two min_two max_three min_three max_four min_four   -- for this text's walks alone
set_option linter.unusedVariables false
set_option linter.unusedSimpArgs false

end Go.Proofs.YtiagbkpggeglgaaGreat.MR
