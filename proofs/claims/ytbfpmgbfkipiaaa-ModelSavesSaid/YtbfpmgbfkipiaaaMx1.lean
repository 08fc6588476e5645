-- Laid by wip/gen/myprint.py of this session, on the kit's print.
import Derived.Test.YtbfpmgbfkipiaaaMx0
namespace Go.Proofs.Ytbfpmgbfkipiaaa.M
open Go.RowKit Go.Proofs.YtbfpmgbfkipiaaaW.PrintWords Go.Proofs.YtbfpmgbfkipiaaaW.PrintLast Go.Proofs.YtbfpmgbfkipiaaaW.PrintMore
attribute [local go_sem] max2_int min2_int max_two min_two max_three min_three max_four min_four   -- for this text's walks alone
set_option linter.unusedVariables false
set_option linter.unusedSimpArgs false

/-! ### none_9: function 9 -/


/-! ### none_10: function 10 -/


/-! ### none_21: function 21 -/


/-! ### none_11: function 11 -/


/-! ### none_19: function 19 -/


/-! ### none_22: function 22 -/


/-! ### none_12: function 12 -/


/-! ### none_30: function 30 -/


/-! ### none_41: function 41 -/


/-! ### none_31: function 31 -/


/-! ### none_38: function 38 -/


/-! ### none_39: function 39 -/


/-! ### none_28: function 28 -/


/-! ### none_42: function 42 -/


/-! ### none_43: function 43 -/


/-! ### none_32: function 32 -/


/-! ### none_46: function 46 -/


/-! ### none_45: function 45 -/


/-! ### none_44: function 44 -/


/-! ### none_33: function 33 -/


/-! ### none_34: function 34 -/


/-! ### none_35: function 35 -/


/-! ### none_36: function 36 -/


/-! ### none_37: function 37 -/


/-! ### none_27: function 27 -/


/-! ### none_24: function 24 -/


/-! ### none_23: function 23 -/


/-! ### none_13: function 13 -/


/-! ### none_15: function 15 -/


/-! ### none_8: function 8 -/


-- NOT PRINTED: function 3 (honeycomblaw24_ModelApart)

/-! ### none_14: function 14 -/


-- NOT PRINTED: function 4 (honeycomblaw24_ModelRises)

-- NOT PRINTED: function 5 (honeycomblaw24_ModelDels)

/-! ### none_16: function 16 -/


/-! ### none_17: function 17 -/


/-! ### none_18: function 18 -/


-- NOT PRINTED: function 6 (honeycomblaw24_ModelAborts)

-- NOT PRINTED: function 7 (honeycomblaw24_ModelSaves)

end Go.Proofs.Ytbfpmgbfkipiaaa.M
