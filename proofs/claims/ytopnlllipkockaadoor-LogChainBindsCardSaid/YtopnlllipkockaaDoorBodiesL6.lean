/- The bodies of the law's function, resolved, checked by the kernel. Conditions: none. -/
import Derived.Test.YtopnlllipkockaaDoorHr
set_option linter.all false
namespace Go.Proofs.YtopnlllipkockaaDoor
open Go Go.Cn
def s6 : S :=
  (.seq (.keep [2, 3, 4] (.ops [⟨(some 3), (.box (.tmp 0)), none, []⟩,
    ⟨(some 4), (.box (.tmp 1)), none, []⟩,
    ⟨(some 6), (.move (.const (.bool false))), none, []⟩]))
  (.seq (.keep [2, 3, 4, 7] (.ops [⟨(some 16), (.load (some 19) (.tmp 3)), none, []⟩,
    ⟨(some 17), (.call (.func 21) [(.tmp 16)]), none, []⟩,
    ⟨(some 7), (.move (.tmp 17)), none, []⟩]))
  (.seq (.keep [2, 3, 4, 7, 8] (.ops [⟨(some 18), (.load (some 19) (.tmp 4)), none, []⟩,
    ⟨(some 19), (.call (.func 21) [(.tmp 18)]), none, []⟩,
    ⟨(some 8), (.move (.tmp 19)), none, []⟩]))
  (.seq (.keep [2, 3, 4] (.seq (.keep [2, 3, 4, 44] (.ops [⟨(some 20), (.move (.tmp 7)), none, []⟩,
    ⟨(some 21), (.un .not (.tmp 20)), none, []⟩,
    ⟨(some 22), (.move (.tmp 21)), none, []⟩,
    ⟨(some 23), (.move (.tmp 8)), (some (22, false)), []⟩,
    ⟨(some 24), (.un .not (.tmp 23)), (some (22, false)), []⟩,
    ⟨(some 25), (.pick (.tmp 22) (.const (.bool true)) (.tmp 24)), none, []⟩,
    ⟨(some 26), (.move (.tmp 25)), none, []⟩,
    ⟨(some 27), (.fieldAddr 16 (.tmp 3)), (some (26, false)), []⟩,
    ⟨(some 28), (.load none (.tmp 27)), (some (26, false)), []⟩,
    ⟨(some 29), (.fieldAddr 16 (.tmp 4)), (some (26, false)), []⟩,
    ⟨(some 30), (.load none (.tmp 29)), (some (26, false)), []⟩,
    ⟨(some 31), (.bin .neq (.tmp 28) (.tmp 30)), (some (26, false)), []⟩,
    ⟨(some 32), (.pick (.tmp 26) (.const (.bool true)) (.tmp 31)), none, []⟩,
    ⟨(some 33), (.move (.tmp 32)), none, []⟩,
    ⟨(some 34), (.fieldAddr 17 (.tmp 3)), (some (33, false)), []⟩,
    ⟨(some 35), (.load none (.tmp 34)), (some (33, false)), []⟩,
    ⟨(some 36), (.len (.tmp 35)), (some (33, false)), []⟩,
    ⟨(some 37), (.bin .eql (.tmp 36) (.const (.int .i64 0))), (some (33, false)), []⟩,
    ⟨(some 38), (.pick (.tmp 33) (.const (.bool true)) (.tmp 37)), none, []⟩,
    ⟨(some 39), (.move (.tmp 38)), none, []⟩,
    ⟨(some 40), (.fieldAddr 17 (.tmp 4)), (some (39, false)), []⟩,
    ⟨(some 41), (.load none (.tmp 40)), (some (39, false)), []⟩,
    ⟨(some 42), (.len (.tmp 41)), (some (39, false)), []⟩,
    ⟨(some 43), (.bin .eql (.tmp 42) (.const (.int .i64 0))), (some (39, false)), []⟩,
    ⟨(some 44), (.pick (.tmp 39) (.const (.bool true)) (.tmp 43)), none, []⟩]))
  (.cond (.tmp 44)
    (.seq (.keep [6] (.ops [⟨(some 45), (.call (.func 10) []), none, []⟩,
      ⟨(some 6), (.move (.tmp 45)), none, []⟩]))
    .ret)
    .skip)))
  (.seq (.keep [3, 4, 9] (.ops [⟨(some 46), (.move (.tmp 2)), none, []⟩,
    ⟨(some 47), (.convInt .i64 (.tmp 46)), none, []⟩,
    ⟨(some 48), (.fieldAddr 17 (.tmp 3)), none, []⟩,
    ⟨(some 49), (.load none (.tmp 48)), none, []⟩,
    ⟨(some 50), (.len (.tmp 49)), none, []⟩,
    ⟨(some 51), (.fieldAddr 17 (.tmp 4)), none, []⟩,
    ⟨(some 52), (.load none (.tmp 51)), none, []⟩,
    ⟨(some 53), (.len (.tmp 52)), none, []⟩,
    ⟨(some 54), (.minmax false [(.tmp 50), (.tmp 53)]), none, []⟩,
    ⟨(some 55), (.bin .add (.tmp 54) (.const (.int .i64 1))), none, []⟩,
    ⟨(some 56), (.bin .rem (.tmp 47) (.tmp 55)), none, []⟩,
    ⟨(some 9), (.move (.tmp 56)), none, []⟩]))
  (.seq (.keep [3, 4, 9, 10, 11] (.ops [⟨(some 58), (.load (some 19) (.tmp 3)), none, []⟩,
    ⟨(some 59), (.move (.tmp 9)), none, []⟩,
    ⟨(some 60), (.call (.func 26) [(.tmp 58), (.tmp 59)]), none, []⟩,
    ⟨(some 57), (.move (.tmp 60)), none, []⟩,
    ⟨(some 61), (.extract (.tmp 57) 0), none, []⟩,
    ⟨(some 62), (.extract (.tmp 57) 1), none, []⟩,
    ⟨(some 10), (.alloc (.agg (List.replicate 16 (.int .u8 0)).toArray)), none, []⟩,
    ⟨none, (.store 16 (.tmp 10) (.tmp 61)), none, []⟩,
    ⟨(some 11), (.move (.tmp 62)), none, []⟩]))
  (.seq (.keep [3, 4, 9, 10, 11, 12, 13] (.ops [⟨(some 64), (.load (some 19) (.tmp 4)), none, []⟩,
    ⟨(some 65), (.move (.tmp 9)), none, []⟩,
    ⟨(some 66), (.call (.func 26) [(.tmp 64), (.tmp 65)]), none, []⟩,
    ⟨(some 63), (.move (.tmp 66)), none, []⟩,
    ⟨(some 67), (.extract (.tmp 63) 0), none, []⟩,
    ⟨(some 68), (.extract (.tmp 63) 1), none, []⟩,
    ⟨(some 12), (.alloc (.agg (List.replicate 16 (.int .u8 0)).toArray)), none, []⟩,
    ⟨none, (.store 16 (.tmp 12) (.tmp 67)), none, []⟩,
    ⟨(some 13), (.move (.tmp 68)), none, []⟩]))
  (.seq (.keep [3, 4, 9, 10, 12] (.seq (.keep [3, 4, 9, 10, 12, 74] (.ops [⟨(some 69), (.move (.tmp 11)), none, []⟩,
    ⟨(some 70), (.bin .neq (.tmp 69) (.const (.int .i64 0))), none, []⟩,
    ⟨(some 71), (.move (.tmp 70)), none, []⟩,
    ⟨(some 72), (.move (.tmp 13)), (some (71, false)), []⟩,
    ⟨(some 73), (.bin .neq (.tmp 72) (.const (.int .i64 0))), (some (71, false)), []⟩,
    ⟨(some 74), (.pick (.tmp 71) (.const (.bool true)) (.tmp 73)), none, []⟩]))
  (.cond (.tmp 74)
    (.seq (.keep [6] (.ops [⟨(some 6), (.move (.const (.bool false))), none, []⟩]))
    .ret)
    .skip)))
  (.seq (.keep [3, 4, 9, 10, 12, 14] (.ops [⟨(some 75), (.fieldAddr 0 (.tmp 3)), none, []⟩,
    ⟨(some 76), (.load (some 16) (.tmp 75)), none, []⟩,
    ⟨(some 77), (.fieldAddr 0 (.tmp 4)), none, []⟩,
    ⟨(some 78), (.load (some 16) (.tmp 77)), none, []⟩,
    ⟨(some 79), (.eqAgg false (List.replicate 16 (.int .u8)) (.tmp 76) (.tmp 78)), none, []⟩,
    ⟨(some 14), (.move (.tmp 79)), none, []⟩]))
  (.seq (.keep [3, 4, 9, 10, 12, 14] (.seq (.keep [3, 4, 9, 10, 12, 14, 15] (.ops [⟨(some 15), (.move (.const (.int .i64 0))), none, []⟩]))
  (.block 0
    (.loop
      (.keep [3, 4, 9, 10, 12, 14, 15] (.seq (.keep [3, 4, 9, 10, 12, 14, 15] (.seq (.keep [3, 4, 9, 10, 12, 14, 15, 82] (.ops [⟨(some 80), (.move (.tmp 15)), none, []⟩,
        ⟨(some 81), (.move (.tmp 9)), none, []⟩,
        ⟨(some 82), (.bin .lss (.tmp 80) (.tmp 81)), none, []⟩]))
      (.cond (.tmp 82)
        .skip
        (.exit 0))))
      (.seq (.keep [3, 4, 9, 10, 12, 14, 15] (.block 1
        (.draw [0, 1, 3, 7, 3, 31, 63, 3, 131, 3, 899, 1923, 4095, 8191, 16383] [⟨0, 0, [], ⟨(some 85), (.move (.tmp 14)), none, []⟩⟩,
          ⟨1, 1, [], ⟨(some 86), (.move (.tmp 85)), none, []⟩⟩,
          ⟨2, 3, [], ⟨(some 87), (.fieldAddr 17 (.tmp 3)), (some (86, true)), []⟩⟩,
          ⟨3, 7, [], ⟨(some 88), (.load none (.tmp 87)), (some (86, true)), []⟩⟩,
          ⟨4, 3, [], ⟨(some 89), (.move (.tmp 15)), (some (86, true)), []⟩⟩,
          ⟨5, 31, [], ⟨(some 90), (.indexAddr 5 (.tmp 88) (.tmp 89)), (some (86, true)), []⟩⟩,
          ⟨6, 63, [], ⟨(some 91), (.load (some 5) (.tmp 90)), (some (86, true)), []⟩⟩,
          ⟨7, 3, [], ⟨(some 92), (.fieldAddr 17 (.tmp 4)), (some (86, true)), []⟩⟩,
          ⟨8, 131, [], ⟨(some 93), (.load none (.tmp 92)), (some (86, true)), []⟩⟩,
          ⟨9, 3, [], ⟨(some 94), (.move (.tmp 15)), (some (86, true)), []⟩⟩,
          ⟨10, 899, [], ⟨(some 95), (.indexAddr 5 (.tmp 93) (.tmp 94)), (some (86, true)), []⟩⟩,
          ⟨11, 1923, [], ⟨(some 96), (.load (some 5) (.tmp 95)), (some (86, true)), []⟩⟩,
          ⟨12, 4095, [], ⟨(some 97), (.eqAgg false [(.int .i64), (.int .i64), (.int .i64), (.int .i64), .string] (.tmp 91) (.tmp 96)), (some (86, true)), []⟩⟩,
          ⟨13, 8191, [], ⟨(some 98), (.pick (.tmp 86) (.tmp 97) (.const (.bool false))), none, []⟩⟩,
          ⟨14, 16383, [], ⟨(some 14), (.move (.tmp 98)), none, []⟩⟩])))
      (.ops [⟨(some 83), (.move (.tmp 15)), none, []⟩,
        ⟨(some 84), (.bin .add (.tmp 83) (.const (.int .i64 1))), none, []⟩,
        ⟨(some 15), (.move (.tmp 84)), none, []⟩]))))))))
  (.seq (.keep [3, 4, 9] (.seq (.keep [3, 4, 9, 10, 12, 14, 104] (.ops [⟨(some 99), (.load (some 16) (.tmp 10)), none, []⟩,
    ⟨(some 100), (.load (some 16) (.tmp 12)), none, []⟩,
    ⟨(some 101), (.eqAgg true (List.replicate 16 (.int .u8)) (.tmp 99) (.tmp 100)), none, []⟩,
    ⟨(some 102), (.move (.tmp 101)), none, []⟩,
    ⟨(some 103), (.move (.tmp 14)), (some (102, false)), []⟩,
    ⟨(some 104), (.pick (.tmp 102) (.const (.bool true)) (.tmp 103)), none, []⟩]))
  (.cond (.tmp 104)
    (.seq (.keep [6] (.ops [⟨(some 105), (.call (.func 10) []), none, []⟩,
      ⟨(some 106), (.move (.tmp 105)), none, []⟩,
      ⟨(some 107), (.load (some 16) (.tmp 10)), (some (106, true)), []⟩,
      ⟨(some 108), (.load (some 16) (.tmp 12)), (some (106, true)), []⟩,
      ⟨(some 109), (.eqAgg false (List.replicate 16 (.int .u8)) (.tmp 107) (.tmp 108)), (some (106, true)), []⟩,
      ⟨(some 110), (.move (.tmp 109)), (some (106, true)), []⟩,
      ⟨(some 111), (.move (.tmp 14)), (some (110, false)), []⟩,
      ⟨(some 112), (.un .not (.tmp 111)), (some (110, false)), []⟩,
      ⟨(some 113), (.pick (.tmp 110) (.const (.bool true)) (.tmp 112)), (some (106, true)), []⟩,
      ⟨(some 114), (.pick (.tmp 106) (.tmp 113) (.const (.bool false))), none, []⟩,
      ⟨(some 6), (.move (.tmp 114)), none, []⟩]))
    .ret)
    .skip)))
  (.seq (.keep [6] (.ops [⟨(some 115), (.call (.func 10) []), none, []⟩,
    ⟨(some 116), (.move (.tmp 115)), none, []⟩,
    ⟨(some 117), (.load (some 19) (.tmp 3)), (some (116, true)), []⟩,
    ⟨(some 118), (.load (some 19) (.tmp 4)), (some (116, true)), []⟩,
    ⟨(some 119), (.move (.tmp 9)), (some (116, true)), []⟩,
    ⟨(some 120), (.call (.func 33) [(.tmp 117), (.tmp 118), (.tmp 119)]), (some (116, true)), []⟩,
    ⟨(some 121), (.pick (.tmp 116) (.tmp 120) (.const (.bool false))), none, []⟩,
    ⟨(some 6), (.move (.tmp 121)), none, []⟩]))
  .ret))))))))))))
theorem t6 : trF Tryd.prog Tryd.f6 s6 = some s6 := by kernel_rfl
theorem k6 : okS s6 = true := by kernel_rfl
theorem r6 : resT Tryd.prog Tryd.f6.results.toList = some [.t 6] := by kernel_rfl

end Go.Proofs.YtopnlllipkockaaDoor
