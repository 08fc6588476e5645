-- Laid by wip/gen/myprint.py of this session, on the kit's print.
import Derived.Test.YtcmepoakcffpaaaMx0
import Derived.Test.YtcmepoakcffpaaaMx1
import Derived.Test.YtcmepoakcffpaaaMx2
import Derived.Test.YtcmepoakcffpaaaMx3
import Derived.Test.YtcmepoakcffpaaaMx4
import Derived.Test.YtcmepoakcffpaaaMx5
import Derived.Test.YtcmepoakcffpaaaMx6
namespace Go.Proofs.Ytcmepoakcffpaaa.M
open Go.RowKit Go.Proofs.YtcmepoakcffpaaaW.PrintWords Go.Proofs.YtcmepoakcffpaaaW.PrintLast Go.Proofs.YtcmepoakcffpaaaW.PrintMore
attribute [local go_sem] max2_int min2_int max_two min_two max_three min_three max_four min_four   -- for this text's walks alone
set_option linter.unusedVariables false
set_option linter.unusedSimpArgs false

end Go.Proofs.Ytcmepoakcffpaaa.M
