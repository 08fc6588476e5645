-- Laid by wip/gen/myprint.py of this session, on the kit's print.
import Derived.Test.YtdhajfimhjbbiaaPFx0
import Derived.Test.YtdhajfimhjbbiaaPFx1
namespace Go.Proofs.Ytdhajfimhjbbiaa.PF
open Go.RowKit Go.Proofs.YtdhajfimhjbbiaaW.PrintWords Go.Proofs.YtdhajfimhjbbiaaW.PrintLast Go.Proofs.YtdhajfimhjbbiaaW.PrintMore
attribute [local go_sem] max2_int min2_int max_two min_two max_three min_three max_four min_four   -- for this text's walks alone
set_option linter.unusedVariables false
set_option linter.unusedSimpArgs false

end Go.Proofs.Ytdhajfimhjbbiaa.PF
