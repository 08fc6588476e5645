-- Laid by wip/gen/myprint.py of this session, on the kit's print.
import Derived.Test.YtiagbkpggeglgaaMTx0
namespace Go.Proofs.Ytiagbkpggeglgaa.MT
open Go.RowKit Go.Proofs.YtiagbkpggeglgaaW.PrintWords Go.Proofs.YtiagbkpggeglgaaW.PrintLast Go.Proofs.YtiagbkpggeglgaaW.PrintMore
attribute [local go_sem] max2_int min2_int max_two min_two max_three min_three max_four min_four   -- for this text's walks alone
set_option linter.unusedVariables false
set_option linter.unusedSimpArgs false

/-! ### none_slicesCloneintint: function 18 -/


/-! ### none_honeycombrestartstatedirt: function 19 -/


/-! ### none_mathbitsLen32: function 66 -/


/-! ### none_mathbitsLen64: function 67 -/


/-! ### none_mathbitsLen: function 47 -/


/-! ### none_cmpisNaNint: function 48 -/


/-! ### none_cmpLessint: function 84 -/


/-! ### none_slicesinsertionSortOrderedint: function 78 -/


/-! ### none_slicessiftDownOrderedint: function 95 -/


/-! ### none_slicesheapSortOrderedint: function 79 -/


/-! ### none_slicesnextPowerOfTwo: function 88 -/


/-! ### none_slicesxorshiftNext: function 89 -/


/-! ### none_slicesbreakPatternsOrderedint: function 80 -/


/-! ### none_slicesorder2Orderedint: function 100 -/


/-! ### none_slicesmedianOrderedint: function 97 -/


/-! ### none_slicesmedianAdjacentOrderedint: function 96 -/


/-! ### none_sliceschoosePivotOrderedint: function 81 -/


/-! ### none_slicesreverseRangeOrderedint: function 82 -/


/-! ### none_slicespartialInsertionSortOrderedint: function 83 -/


/-! ### none_slicespartitionEqualOrderedint: function 85 -/


/-! ### none_slicespartitionOrderedint: function 86 -/


/-! ### none_slicespdqsortOrderedint: function 57 -/


/-! ### none_slicesSortintint: function 44 -/


/-! ### none_slicesCompactintint: function 45 -/


/-! ### none_honeycombrecordTouches: function 29 -/


/-! ### none_honeycombrestartstateread: function 20 -/


/-! ### none_slicesinsertionSortCmpFunchoneycombapiTxInfo: function 58 -/


/-! ### none_slicessiftDownCmpFunchoneycombapiTxInfo: function 87 -/


/-! ### none_slicesheapSortCmpFunchoneycombapiTxInfo: function 59 -/


/-! ### none_slicesbreakPatternsCmpFunchoneycombapiTxInfo: function 60 -/


/-! ### none_slicesorder2CmpFunchoneycombapiTxInfo: function 98 -/


/-! ### none_slicesmedianCmpFunchoneycombapiTxInfo: function 91 -/


/-! ### none_slicesmedianAdjacentCmpFunchoneycombapiTxInfo: function 90 -/


/-! ### none_sliceschoosePivotCmpFunchoneycombapiTxInfo: function 61 -/


/-! ### none_slicesreverseRangeCmpFunchoneycombapiTxInfo: function 62 -/


/-! ### none_slicespartialInsertionSortCmpFunchoneycombapiTxInfo: function 63 -/


/-! ### none_slicespartitionEqualCmpFunchoneycombapiTxInfo: function 64 -/


/-! ### none_slicespartitionCmpFunchoneycombapiTxInfo: function 65 -/


/-! ### none_slicespdqsortCmpFunchoneycombapiTxInfo: function 46 -/


/-! ### none_slicesSortFunchoneycombapiTxInfohoneycombapiTxInfo: function 30 -/


/-! ### none_slicesinsertionSortCmpFunchoneycombapiDirtyInfo: function 68 -/


/-! ### none_slicessiftDownCmpFunchoneycombapiDirtyInfo: function 92 -/


/-! ### none_slicesheapSortCmpFunchoneycombapiDirtyInfo: function 69 -/


/-! ### none_slicesbreakPatternsCmpFunchoneycombapiDirtyInfo: function 70 -/


/-! ### none_slicesorder2CmpFunchoneycombapiDirtyInfo: function 99 -/


/-! ### none_slicesmedianCmpFunchoneycombapiDirtyInfo: function 94 -/


/-! ### none_slicesmedianAdjacentCmpFunchoneycombapiDirtyInfo: function 93 -/


/-! ### none_sliceschoosePivotCmpFunchoneycombapiDirtyInfo: function 71 -/


/-! ### none_slicesreverseRangeCmpFunchoneycombapiDirtyInfo: function 72 -/


/-! ### none_slicespartialInsertionSortCmpFunchoneycombapiDirtyInfo: function 73 -/


/-! ### none_slicespartitionEqualCmpFunchoneycombapiDirtyInfo: function 74 -/


/-! ### none_slicespartitionCmpFunchoneycombapiDirtyInfo: function 75 -/


/-! ### none_slicespdqsortCmpFunchoneycombapiDirtyInfo: function 49 -/


/-! ### none_slicesSortFunchoneycombapiDirtyInfohoneycombapiDirtyInfo: function 33 -/


/-! ### none_honeycombrestartstateplan: function 21 -/


/-! ### none_honeycombrestartAnalyse: function 9 -/


/-! ### none_honeycombrestartnumber: function 23 -/


/-! ### none_mathbitsMul32: function 50 -/


/-! ### none_mathbitsMul64: function 51 -/


/-! ### none_mathbitsMul: function 35 -/


/-! ### none_internalstringsliteHasPrefix: function 52 -/


/-! ### none_stringsHasPrefix: function 36 -/


/-! ### none_internalabiNoEscape: function 76 -/


/-! ### none_stringsBuildercopyCheck: function 53 -/


/-! ### none_internalbytealgMakeNoZero: function 77 -/


/-! ### none_stringsBuildergrow: function 54 -/


/-! ### none_stringsBuilderGrow: function 37 -/


/-! ### none_stringsBuilderWriteString: function 38 -/


/-! ### none_stringsBuilderLen: function 39 -/


/-! ### none_stringsBuilderString: function 40 -/


/-! ### none_stringsRepeat: function 24 -/


/-! ### restart_Put: function 12 -/
abbrev restart_Put.f (k : Nat) (a0 a1 a2 a3 a4 : Int) : Option (ByteArray × Bool) := Go.Proofs.Ytiagbkpggeglgaa.MR.restart_Put.f k a0 a1 a2 a3 a4
theorem restart_Put.mono : ∀ a0 a1 a2 a3 a4 k, LeO (restart_Put.f k a0 a1 a2 a3 a4) (restart_Put.f (k + 1) a0 a1 a2 a3 a4) := Go.Proofs.Ytiagbkpggeglgaa.MR.restart_Put.mono
theorem restart_Put.calls (k : Nat) (a0_0 : Int) (a0_1 : Int) (a0_2 : Int) (a0_3 : Int) (a0_4 : Int) (r1 : ByteArray) (r2 : Bool) (w : World) (h : restart_Put.f k a0_0 a0_1 a0_2 a0_3 a0_4 = some (r1, r2)) :
    Calls Try.prog 12 #[.agg #[.int .i64 a0_0, .int .i64 a0_1, .int .i64 a0_2, .int .i64 a0_3, .int .i64 a0_4]] w fun e w' => e = .returned (.tuple #[.string r1, .bool r2]) ∧ Below w.heap.size w w' := Go.Proofs.Ytiagbkpggeglgaa.MR.restart_Put.calls k a0_0 a0_1 a0_2 a0_3 a0_4 r1 r2 w h


/-! ### none_honeycombrestartvalue: function 25 -/


/-! ### restart_Get: function 15 -/
abbrev restart_Get.f (k : Nat) (a0 : ByteArray) : Option (Int × Int × Int × Int × Int × Bool) := Go.Proofs.Ytiagbkpggeglgaa.MR.restart_Get.f k a0
theorem restart_Get.mono : ∀ a0 k, LeO (restart_Get.f k a0) (restart_Get.f (k + 1) a0) := Go.Proofs.Ytiagbkpggeglgaa.MR.restart_Get.mono
theorem restart_Get.calls (k : Nat) (a0 : ByteArray) (r1 : Int) (r2 : Int) (r3 : Int) (r4 : Int) (r5 : Int) (r6 : Bool) (w : World) (h : restart_Get.f k a0 = some (r1, r2, r3, r4, r5, r6)) :
    Calls Try.prog 15 #[.string a0] w fun e w' => e = .returned (.tuple #[.agg #[.int .i64 r1, .int .i64 r2, .int .i64 r3, .int .i64 r4, .int .i64 r5], .bool r6]) ∧ Below w.heap.size w w' := Go.Proofs.Ytiagbkpggeglgaa.MR.restart_Get.calls k a0 r1 r2 r3 r4 r5 r6 w h


/-! ### none_honeycombrestartNewer: function 13 -/


/-! ### none_honeycombhoneycombref1Zeros: function 14 -/


/-! ### none_containerheapup: function 55 -/


/-! ### none_containerheapPush: function 41 -/


/-! ### none_honeycombprioQueuePush: function 26 -/


/-! ### none_honeycombprioQueueLen: function 27 -/


/-! ### none_honeycombprioQueuePeek: function 42 -/


/-! ### none_containerheapdown: function 56 -/


/-! ### none_containerheapPop: function 43 -/


/-! ### none_honeycombprioQueuePop: function 28 -/


/-! ### none_honeycombrestartLosers: function 16 -/


/-! ### none_honeycombhoneycombbookSameInts: function 17 -/


/-! ### honeycomblaw22_alive: function 8 -/
def honeycomblaw22_alive.f : Option (Bool) := some true
theorem honeycomblaw22_alive.calls (r : Bool) (w : World) (h : honeycomblaw22_alive.f = some r) :
    Calls Try.prog 8 #[] w fun e w' => e = .returned (.bool r) ∧ Below w.heap.size w w' := by
  obtain rfl := Option.some.inj h
  exact Go.Proofs.Ytiagbkpggeglgaa.RS.alive_calls w


end Go.Proofs.Ytiagbkpggeglgaa.MT
