-- Laid by wip/gen/myprint.py of this session, on the kit's print.
import Derived.Test.YtlakklaaapfpeaaRIx0
import Derived.Test.YtlakklaaapfpeaaRIx1
import Derived.Test.YtlakklaaapfpeaaRIx2
namespace Go.Proofs.Ytlakklaaapfpeaa.RI
open Go.RowKit Go.Proofs.YtlakklaaapfpeaaW.PrintWords Go.Proofs.YtlakklaaapfpeaaW.PrintLast Go.Proofs.YtlakklaaapfpeaaW.PrintMore
attribute [local go_sem] max2_int min2_int max_two min_two max_three min_three max_four min_four   -- for this text's walks alone
set_option linter.unusedVariables false
set_option linter.unusedSimpArgs false

end Go.Proofs.Ytlakklaaapfpeaa.RI
