/- The bodies of the law's function, resolved, checked by the kernel. Conditions: none. -/
import Derived.Test.YtopnlllipkockaaDoorHr
set_option linter.all false
namespace Go.Proofs.YtopnlllipkockaaDoor
open Go Go.Cn
def s3 : S :=
  (.seq (.keep [2, 4, 5, 7] (.ops [⟨(some 4), (.box (.tmp 0)), none, []⟩,
    ⟨(some 5), (.box (.tmp 1)), none, []⟩,
    ⟨(some 7), (.box (.tmp 3)), none, []⟩,
    ⟨(some 8), (.move (.const (.bool false))), none, []⟩]))
  (.seq (.keep [2, 4, 5, 7, 9] (.ops [⟨(some 13), (.load (some 19) (.tmp 4)), none, []⟩,
    ⟨(some 14), (.call (.func 9) [(.tmp 13)]), none, []⟩,
    ⟨(some 9), (.move (.tmp 14)), none, []⟩]))
  (.seq (.keep [2, 4, 5, 7] (.seq (.keep [2, 4, 5, 7, 22] (.ops [⟨(some 15), (.move (.tmp 9)), none, []⟩,
    ⟨(some 16), (.un .not (.tmp 15)), none, []⟩,
    ⟨(some 17), (.move (.tmp 16)), none, []⟩,
    ⟨(some 18), (.fieldAddr 4 (.tmp 5)), (some (17, false)), []⟩,
    ⟨(some 19), (.load none (.tmp 18)), (some (17, false)), []⟩,
    ⟨(some 20), (.lenStr (.tmp 19)), (some (17, false)), []⟩,
    ⟨(some 21), (.bin .gtr (.tmp 20) (.const (.int .i64 600))), (some (17, false)), []⟩,
    ⟨(some 22), (.pick (.tmp 17) (.const (.bool true)) (.tmp 21)), none, []⟩]))
  (.cond (.tmp 22)
    (.seq (.keep [8] (.ops [⟨(some 23), (.call (.func 10) []), none, []⟩,
      ⟨(some 8), (.move (.tmp 23)), none, []⟩]))
    .ret)
    .skip)))
  (.seq (.keep [2, 4, 5, 7, 10, 11] (.ops [⟨(some 25), (.load (some 16) (.tmp 7)), none, []⟩,
    ⟨(some 26), (.move (.tmp 2)), none, []⟩,
    ⟨(some 27), (.call (.func 11) [(.tmp 25), (.tmp 26)]), none, []⟩,
    ⟨(some 24), (.move (.tmp 27)), none, []⟩,
    ⟨(some 28), (.extract (.tmp 24) 0), none, []⟩,
    ⟨(some 29), (.extract (.tmp 24) 1), none, []⟩,
    ⟨(some 10), (.alloc (.agg #[(.int .u8 0), (.int .u8 0), (.int .u8 0), (.int .u8 0), (.int .u8 0), (.int .u8 0), (.int .u8 0), (.int .u8 0), (.int .u8 0), (.int .u8 0), (.int .u8 0), (.int .u8 0), (.int .u8 0), (.int .u8 0), (.int .u8 0), (.int .u8 0), (.int .i64 0), (.slice none 0 0), (.slice none 0 0)])), none, []⟩,
    ⟨none, (.store 19 (.tmp 10) (.tmp 28)), none, []⟩,
    ⟨(some 11), (.move (.tmp 29)), none, []⟩]))
  (.seq (.keep [2, 4, 5, 7, 10, 11, 12] (.ops [⟨(some 30), (.move (.tmp 2)), none, []⟩,
    ⟨(some 31), (.bin .geq (.tmp 30) (.const (.int .i64 1))), none, []⟩,
    ⟨(some 32), (.move (.tmp 31)), none, []⟩,
    ⟨(some 33), (.move (.tmp 2)), (some (32, true)), []⟩,
    ⟨(some 34), (.bin .leq (.tmp 33) (.const (.int .i64 4))), (some (32, true)), []⟩,
    ⟨(some 35), (.pick (.tmp 32) (.tmp 34) (.const (.bool false))), none, []⟩,
    ⟨(some 12), (.move (.tmp 35)), none, []⟩]))
  (.seq (.keep [2, 4, 5, 7] (.seq (.keep [2, 4, 5, 7, 63] (.ops [⟨(some 36), (.move (.tmp 11)), none, []⟩,
    ⟨(some 37), (.bin .eql (.tmp 36) (.const (.int .i64 0))), none, []⟩,
    ⟨(some 38), (.move (.tmp 12)), none, []⟩,
    ⟨(some 39), (.eqBool true (.tmp 37) (.tmp 38)), none, []⟩,
    ⟨(some 40), (.move (.tmp 39)), none, []⟩,
    ⟨(some 41), (.move (.tmp 12)), (some (40, false)), []⟩,
    ⟨(some 42), (.move (.tmp 41)), (some (40, false)), []⟩,
    ⟨(some 43), (.load (some 19) (.tmp 10)), (some (42, true)), []⟩,
    ⟨(some 44), (.load (some 16) (.tmp 7)), (some (42, true)), []⟩,
    ⟨(some 45), (.move (.tmp 2)), (some (42, true)), []⟩,
    ⟨(some 46), (.build [(.int .u8 0), (.int .u8 0), (.int .u8 0), (.int .u8 0), (.int .u8 0), (.int .u8 0), (.int .u8 0), (.int .u8 0), (.int .u8 0), (.int .u8 0), (.int .u8 0), (.int .u8 0), (.int .u8 0), (.int .u8 0), (.int .u8 0), (.int .u8 0), (.int .i64 0), (.slice none 0 0), (.slice none 0 0)] [(0, 16, (.tmp 44)), (16, 1, (.tmp 45))]), (some (42, true)), []⟩,
    ⟨(some 47), (.call (.func 12) [(.tmp 43), (.tmp 46)]), (some (42, true)), []⟩,
    ⟨(some 48), (.un .not (.tmp 47)), (some (42, true)), []⟩,
    ⟨(some 49), (.pick (.tmp 42) (.tmp 48) (.const (.bool false))), (some (40, false)), []⟩,
    ⟨(some 50), (.pick (.tmp 40) (.const (.bool true)) (.tmp 49)), none, []⟩,
    ⟨(some 51), (.move (.tmp 50)), none, []⟩,
    ⟨(some 52), (.move (.tmp 12)), (some (51, false)), []⟩,
    ⟨(some 53), (.un .not (.tmp 52)), (some (51, false)), []⟩,
    ⟨(some 54), (.move (.tmp 53)), (some (51, false)), []⟩,
    ⟨(some 55), (.move (.tmp 11)), (some (54, true)), []⟩,
    ⟨(some 56), (.bin .neq (.tmp 55) (.const (.int .i64 1))), (some (54, true)), []⟩,
    ⟨(some 57), (.move (.tmp 56)), (some (54, true)), []⟩,
    ⟨(some 58), (.fieldAddr 16 (.tmp 10)), (some (57, false)), []⟩,
    ⟨(some 59), (.load none (.tmp 58)), (some (57, false)), []⟩,
    ⟨(some 60), (.bin .neq (.tmp 59) (.const (.int .i64 0))), (some (57, false)), []⟩,
    ⟨(some 61), (.pick (.tmp 57) (.const (.bool true)) (.tmp 60)), (some (54, true)), []⟩,
    ⟨(some 62), (.pick (.tmp 54) (.tmp 61) (.const (.bool false))), (some (51, false)), []⟩,
    ⟨(some 63), (.pick (.tmp 51) (.const (.bool true)) (.tmp 62)), none, []⟩]))
  (.cond (.tmp 63)
    (.seq (.keep [8] (.ops [⟨(some 8), (.move (.const (.bool false))), none, []⟩]))
    .ret)
    .skip)))
  (.seq (.keep [8] (.draw [0, 1, 3, 3, 15, 3, 3, 127, 255, 511, 1023, 2047, 4095, 2047, 16383, 32767, 65535, 131071, 262143, 262143, 1048575, 262143, 262143, 8388607, 16777215, 33554431, 67108863, 134217727, 134217727, 536870911, 134217727, 134217727, 4294967295, 8589934591, 17179869183, 34359738367] [⟨0, 0, [], ⟨(some 64), (.call (.func 10) []), none, []⟩⟩,
    ⟨1, 1, [], ⟨(some 65), (.move (.tmp 64)), none, []⟩⟩,
    ⟨2, 3, [], ⟨(some 66), (.load (some 5) (.tmp 5)), (some (65, true)), []⟩⟩,
    ⟨3, 3, [], ⟨(some 67), (.move (.tmp 2)), (some (65, true)), []⟩⟩,
    ⟨5, 3, [], ⟨(some 69), (.load (some 5) (.tmp 5)), (some (65, true)), []⟩⟩,
    ⟨6, 3, [], ⟨(some 70), (.move (.tmp 2)), (some (65, true)), []⟩⟩,
    ⟨4, 15, [5], ⟨(some 68), (.call (.func 13) [(.tmp 66), (.tmp 67)]), (some (65, true)), [((.load (some 5) (.tmp 5)), (some (65, true)), (some 69))]⟩⟩,
    ⟨7, 127, [], ⟨(some 71), (.call (.func 14) [(.tmp 69), (.tmp 70)]), (some (65, true)), []⟩⟩,
    ⟨8, 255, [], ⟨(some 72), (.eqBool false (.tmp 68) (.tmp 71)), (some (65, true)), []⟩⟩,
    ⟨9, 511, [], ⟨(some 73), (.pick (.tmp 65) (.tmp 72) (.const (.bool false))), none, []⟩⟩,
    ⟨10, 1023, [], ⟨(some 74), (.move (.tmp 73)), none, []⟩⟩,
    ⟨11, 2047, [], ⟨(some 75), (.load (some 19) (.tmp 4)), (some (74, true)), []⟩⟩,
    ⟨13, 2047, [], ⟨(some 77), (.load (some 19) (.tmp 4)), (some (74, true)), []⟩⟩,
    ⟨12, 4095, [13], ⟨(some 76), (.call (.func 15) [(.tmp 75)]), (some (74, true)), [((.load (some 19) (.tmp 4)), (some (74, true)), (some 77))]⟩⟩,
    ⟨14, 16383, [], ⟨(some 78), (.call (.func 16) [(.tmp 77)]), (some (74, true)), []⟩⟩,
    ⟨15, 32767, [], ⟨(some 79), (.bin .eql (.tmp 76) (.tmp 78)), (some (74, true)), []⟩⟩,
    ⟨16, 65535, [], ⟨(some 80), (.pick (.tmp 74) (.tmp 79) (.const (.bool false))), none, []⟩⟩,
    ⟨17, 131071, [], ⟨(some 81), (.move (.tmp 80)), none, []⟩⟩,
    ⟨18, 262143, [], ⟨(some 82), (.load (some 16) (.tmp 7)), (some (81, true)), []⟩⟩,
    ⟨19, 262143, [], ⟨(some 83), (.move (.tmp 2)), (some (81, true)), []⟩⟩,
    ⟨21, 262143, [], ⟨(some 85), (.load (some 16) (.tmp 7)), (some (81, true)), []⟩⟩,
    ⟨22, 262143, [], ⟨(some 86), (.move (.tmp 2)), (some (81, true)), []⟩⟩,
    ⟨20, 1048575, [21], ⟨(some 84), (.call (.func 17) [(.tmp 82), (.tmp 83)]), (some (81, true)), [((.load (some 16) (.tmp 7)), (some (81, true)), (some 85))]⟩⟩,
    ⟨23, 8388607, [], ⟨(some 87), (.call (.func 18) [(.tmp 85), (.tmp 86)]), (some (81, true)), []⟩⟩,
    ⟨24, 16777215, [], ⟨(some 88), (.eqAgg false (List.replicate 16 (.int .u8)) (.tmp 84) (.tmp 87)), (some (81, true)), []⟩⟩,
    ⟨25, 33554431, [], ⟨(some 89), (.pick (.tmp 81) (.tmp 88) (.const (.bool false))), none, []⟩⟩,
    ⟨26, 67108863, [], ⟨(some 90), (.move (.tmp 89)), none, []⟩⟩,
    ⟨27, 134217727, [], ⟨(some 91), (.load (some 16) (.tmp 7)), (some (90, true)), []⟩⟩,
    ⟨28, 134217727, [], ⟨(some 92), (.load (some 5) (.tmp 5)), (some (90, true)), []⟩⟩,
    ⟨30, 134217727, [], ⟨(some 94), (.load (some 16) (.tmp 7)), (some (90, true)), []⟩⟩,
    ⟨31, 134217727, [], ⟨(some 95), (.load (some 5) (.tmp 5)), (some (90, true)), []⟩⟩,
    ⟨29, 536870911, [30, 31], ⟨(some 93), (.call (.func 19) [(.tmp 91), (.tmp 92)]), (some (90, true)), [((.load (some 16) (.tmp 7)), (some (90, true)), (some 94)), ((.load (some 5) (.tmp 5)), (some (90, true)), (some 95))]⟩⟩,
    ⟨32, 4294967295, [], ⟨(some 96), (.call (.func 20) [(.tmp 94), (.tmp 95)]), (some (90, true)), []⟩⟩,
    ⟨33, 8589934591, [], ⟨(some 97), (.eqAgg false (List.replicate 16 (.int .u8)) (.tmp 93) (.tmp 96)), (some (90, true)), []⟩⟩,
    ⟨34, 17179869183, [], ⟨(some 98), (.pick (.tmp 90) (.tmp 97) (.const (.bool false))), none, []⟩⟩,
    ⟨35, 34359738367, [], ⟨(some 8), (.move (.tmp 98)), none, []⟩⟩]))
  .ret)))))))
theorem t3 : trF Tryd.prog Tryd.f3 s3 = some s3 := by kernel_rfl
theorem k3 : okS s3 = true := by kernel_rfl
theorem r3 : resT Tryd.prog Tryd.f3.results.toList = some [.t 8] := by kernel_rfl

end Go.Proofs.YtopnlllipkockaaDoor
