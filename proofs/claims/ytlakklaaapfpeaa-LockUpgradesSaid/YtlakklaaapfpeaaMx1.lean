-- Laid by wip/gen/myprint.py of this session, on the kit's print.
import Derived.Test.YtlakklaaapfpeaaMx0
namespace Go.Proofs.Ytlakklaaapfpeaa.M
open Go.RowKit Go.Proofs.YtlakklaaapfpeaaW.PrintWords Go.Proofs.YtlakklaaapfpeaaW.PrintLast Go.Proofs.YtlakklaaapfpeaaW.PrintMore
attribute [local go_sem] max2_int min2_int max_two min_two max_three min_three max_four min_four   -- for this text's walks alone
set_option linter.unusedVariables false
set_option linter.unusedSimpArgs false

/-! ### none_17: function 17 -/


/-! ### none_38: function 38 -/


/-! ### none_24: function 24 -/


/-! ### none_40: function 40 -/


/-! ### none_26: function 26 -/


/-! ### none_14: function 14 -/


/-! ### none_16: function 16 -/


/-! ### none_36: function 36 -/


/-! ### none_23: function 23 -/


/-! ### none_47: function 47 -/


/-! ### none_78: function 78 -/


/-! ### none_68: function 68 -/


/-! ### none_48: function 48 -/


/-! ### none_39: function 39 -/


/-! ### none_25: function 25 -/


/-! ### none_13: function 13 -/


/-! ### none_74: function 74 -/


/-! ### none_55: function 55 -/


/-! ### none_49: function 49 -/


/-! ### none_69: function 69 -/


/-! ### none_50: function 50 -/


/-! ### none_58: function 58 -/


/-! ### none_59: function 59 -/


/-! ### none_42: function 42 -/


/-! ### none_70: function 70 -/


/-! ### none_71: function 71 -/


/-! ### none_51: function 51 -/


/-! ### none_79: function 79 -/


/-! ### none_73: function 73 -/


/-! ### none_72: function 72 -/


/-! ### none_52: function 52 -/


/-! ### none_53: function 53 -/


/-! ### none_54: function 54 -/


/-! ### none_56: function 56 -/


/-! ### none_57: function 57 -/


/-! ### none_41: function 41 -/


/-! ### none_28: function 28 -/


/-! ### none_18: function 18 -/


/-! ### none_15: function 15 -/


/-! ### none_60: function 60 -/


/-! ### none_75: function 75 -/


/-! ### none_61: function 61 -/


/-! ### none_62: function 62 -/


/-! ### none_80: function 80 -/


/-! ### none_77: function 77 -/


/-! ### none_76: function 76 -/


/-! ### none_63: function 63 -/


/-! ### none_64: function 64 -/


/-! ### none_65: function 65 -/


/-! ### none_66: function 66 -/


/-! ### none_67: function 67 -/


/-! ### none_43: function 43 -/


/-! ### none_29: function 29 -/


/-! ### none_33: function 33 -/


/-! ### none_19: function 19 -/


/-! ### none_22: function 22 -/


/-! ### none_12: function 12 -/


-- NOT PRINTED: function 3 (honeycomblaw16_LockAlone)

-- NOT PRINTED: function 4 (honeycomblaw16_LockShared)

-- NOT PRINTED: function 5 (honeycomblaw16_LockFifo)

/-! ### none_34: function 34 -/


/-! ### none_45: function 45 -/


/-! ### none_35: function 35 -/


/-! ### none_20: function 20 -/


-- NOT PRINTED: function 6 (honeycomblaw16_LockUpgrades)

-- NOT PRINTED: function 7 (honeycomblaw16_LockTold)

-- NOT PRINTED: function 8 (honeycomblaw16_LockKeys)

/-! ### none_21: function 21 -/


-- NOT PRINTED: function 9 (honeycomblaw16_LockAgain)

-- NOT PRINTED: function 10 (honeycomblaw16_LockModes)

-- NOT PRINTED: function 11 (honeycomblaw16_LockStops)

end Go.Proofs.Ytlakklaaapfpeaa.M
