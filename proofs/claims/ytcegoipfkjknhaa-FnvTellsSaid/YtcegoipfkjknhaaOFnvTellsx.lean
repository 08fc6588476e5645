import Derived.Test.YtcegoipfkjknhaaOFnvTellsx0
import Derived.Test.YtcegoipfkjknhaaOFnvTellsx1
namespace Go.Proofs.Ytcegoipfkjknhaa.PFnvTells
open Go.RowKit Go.Proofs.YtcegoipfkjknhaaW.PrintWords Go.Proofs.YtcegoipfkjknhaaW.PrintLast Go.Proofs.YtcegoipfkjknhaaW.PrintMore
attribute [local go_sem] max2_int min2_int max_two min_two max_three min_three max_four min_four   -- for this text's walks alone
set_option linter.unusedVariables false
set_option linter.unusedSimpArgs false

end Go.Proofs.Ytcegoipfkjknhaa.PFnvTells
