/- The bodies of the law's function, resolved, checked by the kernel. Conditions: none. -/
import Derived.Test.YtopnlllipkockaaDoorHr
set_option linter.all false
namespace Go.Proofs.YtopnlllipkockaaDoor
open Go Go.Cn
def s7 : S :=
  (.seq (.keep [1, 2, 3, 5, 9] (.ops [⟨(some 5), (.box (.tmp 0)), none, []⟩,
    ⟨(some 9), (.box (.tmp 4)), none, []⟩,
    ⟨(some 10), (.move (.const (.bool false))), none, []⟩]))
  (.seq (.keep [1, 2, 3, 5, 9, 11] (.ops [⟨(some 21), (.load (some 19) (.tmp 5)), none, []⟩,
    ⟨(some 22), (.call (.func 21) [(.tmp 21)]), none, []⟩,
    ⟨(some 11), (.move (.tmp 22)), none, []⟩]))
  (.seq (.keep [1, 2, 3, 5, 9] (.seq (.keep [1, 2, 3, 5, 9, 52] (.ops [⟨(some 23), (.move (.tmp 11)), none, []⟩,
    ⟨(some 24), (.un .not (.tmp 23)), none, []⟩,
    ⟨(some 25), (.move (.tmp 24)), none, []⟩,
    ⟨(some 26), (.fieldAddr 17 (.tmp 5)), (some (25, false)), []⟩,
    ⟨(some 27), (.load none (.tmp 26)), (some (25, false)), []⟩,
    ⟨(some 28), (.len (.tmp 27)), (some (25, false)), []⟩,
    ⟨(some 29), (.bin .eql (.tmp 28) (.const (.int .i64 0))), (some (25, false)), []⟩,
    ⟨(some 30), (.pick (.tmp 25) (.const (.bool true)) (.tmp 29)), none, []⟩,
    ⟨(some 31), (.move (.tmp 30)), none, []⟩,
    ⟨(some 32), (.fieldAddr 18 (.tmp 5)), (some (31, false)), []⟩,
    ⟨(some 33), (.load none (.tmp 32)), (some (31, false)), []⟩,
    ⟨(some 34), (.len (.tmp 33)), (some (31, false)), []⟩,
    ⟨(some 35), (.bin .neq (.tmp 34) (.const (.int .i64 0))), (some (31, false)), []⟩,
    ⟨(some 36), (.pick (.tmp 31) (.const (.bool true)) (.tmp 35)), none, []⟩,
    ⟨(some 37), (.move (.tmp 36)), none, []⟩,
    ⟨(some 38), (.move (.tmp 1)), (some (37, false)), []⟩,
    ⟨(some 39), (.lenStr (.tmp 38)), (some (37, false)), []⟩,
    ⟨(some 40), (.bin .gtr (.tmp 39) (.const (.int .i64 200))), (some (37, false)), []⟩,
    ⟨(some 41), (.pick (.tmp 37) (.const (.bool true)) (.tmp 40)), none, []⟩,
    ⟨(some 42), (.move (.tmp 41)), none, []⟩,
    ⟨(some 43), (.move (.tmp 2)), (some (42, false)), []⟩,
    ⟨(some 44), (.lenStr (.tmp 43)), (some (42, false)), []⟩,
    ⟨(some 45), (.bin .gtr (.tmp 44) (.const (.int .i64 200))), (some (42, false)), []⟩,
    ⟨(some 46), (.pick (.tmp 42) (.const (.bool true)) (.tmp 45)), none, []⟩,
    ⟨(some 47), (.move (.tmp 46)), none, []⟩,
    ⟨(some 48), (.fieldAddr 4 (.tmp 9)), (some (47, false)), []⟩,
    ⟨(some 49), (.load none (.tmp 48)), (some (47, false)), []⟩,
    ⟨(some 50), (.lenStr (.tmp 49)), (some (47, false)), []⟩,
    ⟨(some 51), (.bin .gtr (.tmp 50) (.const (.int .i64 600))), (some (47, false)), []⟩,
    ⟨(some 52), (.pick (.tmp 47) (.const (.bool true)) (.tmp 51)), none, []⟩]))
  (.cond (.tmp 52)
    (.seq (.keep [10] (.ops [⟨(some 53), (.call (.func 10) []), none, []⟩,
      ⟨(some 10), (.move (.tmp 53)), none, []⟩]))
    .ret)
    .skip)))
  (.seq (.keep [2, 3, 5, 9, 12, 13] (.ops [⟨(some 55), (.load (some 19) (.tmp 5)), none, []⟩,
    ⟨(some 56), (.move (.tmp 1)), none, []⟩,
    ⟨(some 57), (.call (.func 23) [(.tmp 55), (.tmp 56)]), none, []⟩,
    ⟨(some 54), (.move (.tmp 57)), none, []⟩,
    ⟨(some 58), (.extract (.tmp 54) 0), none, []⟩,
    ⟨(some 59), (.extract (.tmp 54) 1), none, []⟩,
    ⟨(some 12), (.alloc (.agg #[(.int .u8 0), (.int .u8 0), (.int .u8 0), (.int .u8 0), (.int .u8 0), (.int .u8 0), (.int .u8 0), (.int .u8 0), (.int .u8 0), (.int .u8 0), (.int .u8 0), (.int .u8 0), (.int .u8 0), (.int .u8 0), (.int .u8 0), (.int .u8 0), (.int .i64 0), (.slice none 0 0), (.slice none 0 0)])), none, []⟩,
    ⟨none, (.store 19 (.tmp 12) (.tmp 58)), none, []⟩,
    ⟨(some 13), (.move (.tmp 59)), none, []⟩]))
  (.seq (.keep [2, 3, 5, 9, 12] (.seq (.keep [2, 3, 5, 9, 12, 67] (.ops [⟨(some 60), (.move (.tmp 13)), none, []⟩,
    ⟨(some 61), (.bin .neq (.tmp 60) (.const (.int .i64 0))), none, []⟩,
    ⟨(some 62), (.move (.tmp 61)), none, []⟩,
    ⟨(some 63), (.fieldAddr 18 (.tmp 12)), (some (62, false)), []⟩,
    ⟨(some 64), (.load none (.tmp 63)), (some (62, false)), []⟩,
    ⟨(some 65), (.len (.tmp 64)), (some (62, false)), []⟩,
    ⟨(some 66), (.bin .neq (.tmp 65) (.const (.int .i64 1))), (some (62, false)), []⟩,
    ⟨(some 67), (.pick (.tmp 62) (.const (.bool true)) (.tmp 66)), none, []⟩]))
  (.cond (.tmp 67)
    (.seq (.keep [10] (.ops [⟨(some 10), (.move (.const (.bool false))), none, []⟩]))
    .ret)
    .skip)))
  (.seq (.keep [2, 3, 5, 9, 12, 14] (.ops [⟨(some 68), (.load (some 19) (.tmp 12)), none, []⟩,
    ⟨(some 14), (.alloc (.agg #[(.int .u8 0), (.int .u8 0), (.int .u8 0), (.int .u8 0), (.int .u8 0), (.int .u8 0), (.int .u8 0), (.int .u8 0), (.int .u8 0), (.int .u8 0), (.int .u8 0), (.int .u8 0), (.int .u8 0), (.int .u8 0), (.int .u8 0), (.int .u8 0), (.int .i64 0), (.slice none 0 0), (.slice none 0 0)])), none, []⟩,
    ⟨none, (.store 19 (.tmp 14) (.tmp 68)), none, []⟩]))
  (.seq (.keep [2, 3, 5, 9, 12, 14] (.ops [⟨(some 69), (.buildSlice 0 [] []), none, []⟩,
    ⟨(some 70), (.fieldAddr 17 (.tmp 12)), none, []⟩,
    ⟨(some 71), (.load none (.tmp 70)), none, []⟩,
    ⟨(some 72), (.append 5 48 (.tmp 69) (.tmp 71)), none, []⟩,
    ⟨(some 73), (.fieldAddr 17 (.tmp 14)), none, []⟩,
    ⟨none, (.store 1 (.tmp 73) (.tmp 72)), none, []⟩]))
  (.seq (.keep [2, 5, 9, 12, 14, 15] (.ops [⟨(some 74), (.move (.tmp 3)), none, []⟩,
    ⟨(some 75), (.convInt .i64 (.tmp 74)), none, []⟩,
    ⟨(some 76), (.fieldAddr 17 (.tmp 14)), none, []⟩,
    ⟨(some 77), (.load none (.tmp 76)), none, []⟩,
    ⟨(some 78), (.len (.tmp 77)), none, []⟩,
    ⟨(some 79), (.bin .rem (.tmp 75) (.tmp 78)), none, []⟩,
    ⟨(some 15), (.move (.tmp 79)), none, []⟩]))
  (.seq (.keep [2, 5, 9, 12, 14, 15, 16] (.draw [0, 1, 0, 7, 15, 0, 63, 127] [⟨0, 0, [], ⟨(some 80), (.fieldAddr 17 (.tmp 14)), none, []⟩⟩,
    ⟨1, 1, [], ⟨(some 81), (.load none (.tmp 80)), none, []⟩⟩,
    ⟨2, 0, [], ⟨(some 82), (.move (.tmp 15)), none, []⟩⟩,
    ⟨3, 7, [], ⟨(some 83), (.indexAddr 5 (.tmp 81) (.tmp 82)), none, []⟩⟩,
    ⟨4, 15, [], ⟨(some 84), (.load (some 5) (.tmp 83)), none, []⟩⟩,
    ⟨5, 0, [], ⟨(some 85), (.load (some 5) (.tmp 9)), none, []⟩⟩,
    ⟨6, 63, [], ⟨(some 86), (.eqAgg true [(.int .i64), (.int .i64), (.int .i64), (.int .i64), .string] (.tmp 84) (.tmp 85)), none, []⟩⟩,
    ⟨7, 127, [], ⟨(some 16), (.move (.tmp 86)), none, []⟩⟩]))
  (.seq (.keep [2, 5, 12, 14, 16] (.ops [⟨(some 87), (.fieldAddr 17 (.tmp 14)), none, []⟩,
    ⟨(some 88), (.load none (.tmp 87)), none, []⟩,
    ⟨(some 89), (.move (.tmp 15)), none, []⟩,
    ⟨(some 90), (.load (some 5) (.tmp 9)), none, []⟩,
    ⟨(some 91), (.indexAddr 5 (.tmp 88) (.tmp 89)), none, []⟩,
    ⟨none, (.store 5 (.tmp 91) (.tmp 90)), none, []⟩]))
  (.seq (.keep [2, 5, 12] (.seq (.keep [2, 5, 12, 106] (.ops [⟨(some 92), (.load (some 19) (.tmp 14)), none, []⟩,
    ⟨(some 93), (.call (.func 15) [(.tmp 92)]), none, []⟩,
    ⟨(some 94), (.bin .eql (.tmp 93) (.const (.int .i64 0))), none, []⟩,
    ⟨(some 95), (.move (.tmp 94)), none, []⟩,
    ⟨(some 96), (.move (.tmp 16)), (some (95, true)), []⟩,
    ⟨(some 97), (.pick (.tmp 95) (.tmp 96) (.const (.bool false))), none, []⟩,
    ⟨(some 98), (.move (.tmp 97)), none, []⟩,
    ⟨(some 99), (.load (some 19) (.tmp 12)), (some (98, true)), []⟩,
    ⟨(some 100), (.load (some 19) (.tmp 14)), (some (98, true)), []⟩,
    ⟨(some 101), (.fieldAddr 17 (.tmp 14)), (some (98, true)), []⟩,
    ⟨(some 102), (.load none (.tmp 101)), (some (98, true)), []⟩,
    ⟨(some 103), (.len (.tmp 102)), (some (98, true)), []⟩,
    ⟨(some 104), (.call (.func 33) [(.tmp 99), (.tmp 100), (.tmp 103)]), (some (98, true)), []⟩,
    ⟨(some 105), (.un .not (.tmp 104)), (some (98, true)), []⟩,
    ⟨(some 106), (.pick (.tmp 98) (.tmp 105) (.const (.bool false))), none, []⟩]))
  (.cond (.tmp 106)
    (.seq (.keep [10] (.ops [⟨(some 10), (.move (.const (.bool false))), none, []⟩]))
    .ret)
    .skip)))
  (.seq (.keep [2, 12, 17, 18] (.ops [⟨(some 108), (.load (some 19) (.tmp 5)), none, []⟩,
    ⟨(some 109), (.move (.tmp 2)), none, []⟩,
    ⟨(some 110), (.call (.func 23) [(.tmp 108), (.tmp 109)]), none, []⟩,
    ⟨(some 107), (.move (.tmp 110)), none, []⟩,
    ⟨(some 111), (.extract (.tmp 107) 0), none, []⟩,
    ⟨(some 112), (.extract (.tmp 107) 1), none, []⟩,
    ⟨(some 17), (.alloc (.agg #[(.int .u8 0), (.int .u8 0), (.int .u8 0), (.int .u8 0), (.int .u8 0), (.int .u8 0), (.int .u8 0), (.int .u8 0), (.int .u8 0), (.int .u8 0), (.int .u8 0), (.int .u8 0), (.int .u8 0), (.int .u8 0), (.int .u8 0), (.int .u8 0), (.int .i64 0), (.slice none 0 0), (.slice none 0 0)])), none, []⟩,
    ⟨none, (.store 19 (.tmp 17) (.tmp 111)), none, []⟩,
    ⟨(some 18), (.move (.tmp 112)), none, []⟩]))
  (.seq (.keep [2, 12, 17] (.seq (.keep [2, 12, 17, 120] (.ops [⟨(some 113), (.move (.tmp 18)), none, []⟩,
    ⟨(some 114), (.bin .neq (.tmp 113) (.const (.int .i64 0))), none, []⟩,
    ⟨(some 115), (.move (.tmp 114)), none, []⟩,
    ⟨(some 116), (.fieldAddr 18 (.tmp 17)), (some (115, false)), []⟩,
    ⟨(some 117), (.load none (.tmp 116)), (some (115, false)), []⟩,
    ⟨(some 118), (.len (.tmp 117)), (some (115, false)), []⟩,
    ⟨(some 119), (.bin .neq (.tmp 118) (.const (.int .i64 1))), (some (115, false)), []⟩,
    ⟨(some 120), (.pick (.tmp 115) (.const (.bool true)) (.tmp 119)), none, []⟩]))
  (.cond (.tmp 120)
    (.seq (.keep [10] (.ops [⟨(some 10), (.move (.const (.bool false))), none, []⟩]))
    .ret)
    .skip)))
  (.seq (.keep [12, 17, 20] (.ops [⟨(some 122), (.load (some 19) (.tmp 12)), none, []⟩,
    ⟨(some 123), (.move (.tmp 2)), none, []⟩,
    ⟨(some 124), (.call (.func 24) [(.tmp 122), (.tmp 123)]), none, []⟩,
    ⟨(some 121), (.move (.tmp 124)), none, []⟩,
    ⟨(some 125), (.extract (.tmp 121) 0), none, []⟩,
    ⟨(some 126), (.extract (.tmp 121) 1), none, []⟩,
    ⟨(some 19), (.move (.tmp 125)), none, []⟩,
    ⟨(some 20), (.move (.tmp 126)), none, []⟩]))
  (.seq (.keep [10] (.draw [0, 1, 3, 7, 3, 19, 51, 115, 243, 3, 515, 1539, 3587, 7683, 16371, 32767, 65535, 131071] [⟨0, 0, [], ⟨(some 127), (.call (.func 10) []), none, []⟩⟩,
    ⟨1, 1, [], ⟨(some 128), (.move (.tmp 127)), none, []⟩⟩,
    ⟨2, 3, [], ⟨(some 129), (.move (.tmp 20)), (some (128, true)), []⟩⟩,
    ⟨3, 7, [], ⟨(some 130), (.bin .eql (.tmp 129) (.const (.int .i64 0))), (some (128, true)), []⟩⟩,
    ⟨4, 3, [], ⟨(some 131), (.fieldAddr 18 (.tmp 17)), (some (128, true)), []⟩⟩,
    ⟨5, 19, [], ⟨(some 132), (.load none (.tmp 131)), (some (128, true)), []⟩⟩,
    ⟨6, 51, [], ⟨(some 133), (.indexAddr 33 (.tmp 132) (.const (.int .i64 0))), (some (128, true)), []⟩⟩,
    ⟨7, 115, [], ⟨(some 134), (.fieldAddr 17 (.tmp 133)), (some (128, true)), []⟩⟩,
    ⟨8, 243, [], ⟨(some 135), (.load (some 16) (.tmp 134)), (some (128, true)), []⟩⟩,
    ⟨9, 3, [], ⟨(some 136), (.fieldAddr 18 (.tmp 12)), (some (128, true)), []⟩⟩,
    ⟨10, 515, [], ⟨(some 137), (.load none (.tmp 136)), (some (128, true)), []⟩⟩,
    ⟨11, 1539, [], ⟨(some 138), (.indexAddr 33 (.tmp 137) (.const (.int .i64 0))), (some (128, true)), []⟩⟩,
    ⟨12, 3587, [], ⟨(some 139), (.fieldAddr 17 (.tmp 138)), (some (128, true)), []⟩⟩,
    ⟨13, 7683, [], ⟨(some 140), (.load (some 16) (.tmp 139)), (some (128, true)), []⟩⟩,
    ⟨14, 16371, [], ⟨(some 141), (.eqAgg false (List.replicate 16 (.int .u8)) (.tmp 135) (.tmp 140)), (some (128, true)), []⟩⟩,
    ⟨15, 32767, [], ⟨(some 142), (.eqBool false (.tmp 130) (.tmp 141)), (some (128, true)), []⟩⟩,
    ⟨16, 65535, [], ⟨(some 143), (.pick (.tmp 128) (.tmp 142) (.const (.bool false))), none, []⟩⟩,
    ⟨17, 131071, [], ⟨(some 10), (.move (.tmp 143)), none, []⟩⟩]))
  .ret)))))))))))))))
theorem t7 : trF Tryd.prog Tryd.f7 s7 = some s7 := by kernel_rfl
theorem k7 : okS s7 = true := by kernel_rfl
theorem r7 : resT Tryd.prog Tryd.f7.results.toList = some [.t 10] := by kernel_rfl

end Go.Proofs.YtopnlllipkockaaDoor
