/- The bodies of the functions, resolved, checked by the kernel. Conditions: none. -/
import Derived.Test.YtljmjkpmkpchoaaDoorProg
import Derived.KernelRfl
import Derived.Test.YtljmjkpmkpchoaaDoorCn28
set_option linter.all false
namespace Go.Proofs.YtljmjkpmkpchoaaDoor
open Go Go.Cn

def s3 : S :=
  (.seq (.keep [2, 3, 4] (.ops [⟨(some 3), (.box (.tmp 0)), none, []⟩,
    ⟨(some 4), (.box (.tmp 1)), none, []⟩,
    ⟨(some 6), (.move (.const (.bool false))), none, []⟩]))
  (.seq (.keep [2, 3, 4] (.seq (.keep [2, 3, 4, 20] (.ops [⟨(some 13), (.load (some 19) (.tmp 3)), none, []⟩,
    ⟨(some 14), (.call (.func 8) [(.tmp 13)]), none, []⟩,
    ⟨(some 15), (.un .not (.tmp 14)), none, []⟩,
    ⟨(some 16), (.move (.tmp 15)), none, []⟩,
    ⟨(some 17), (.load (some 19) (.tmp 4)), (some (16, false)), []⟩,
    ⟨(some 18), (.call (.func 8) [(.tmp 17)]), (some (16, false)), []⟩,
    ⟨(some 19), (.un .not (.tmp 18)), (some (16, false)), []⟩,
    ⟨(some 20), (.pick (.tmp 16) (.const (.bool true)) (.tmp 19)), none, []⟩]))
  (.cond (.tmp 20)
    (.seq (.keep [6] (.ops [⟨(some 21), (.call (.func 9) []), none, []⟩,
      ⟨(some 6), (.move (.tmp 21)), none, []⟩]))
    .ret)
    .skip)))
  (.seq (.keep [2, 3, 4, 7, 8] (.ops [⟨(some 23), (.load (some 19) (.tmp 3)), none, []⟩,
    ⟨(some 24), (.load (some 19) (.tmp 4)), none, []⟩,
    ⟨(some 25), (.call (.func 10) [(.tmp 23), (.tmp 24)]), none, []⟩,
    ⟨(some 22), (.move (.tmp 25)), none, []⟩,
    ⟨(some 26), (.extract (.tmp 22) 0), none, []⟩,
    ⟨(some 27), (.extract (.tmp 22) 1), none, []⟩,
    ⟨(some 7), (.alloc (.agg #[(.int .i64 0), (.int .i64 0), (.int .i64 0), (.int .i64 0), (.int .i64 0), (.int .i64 0), (.int .i64 0), (.string ⟨#[]⟩), (.bool false)])), none, []⟩,
    ⟨none, (.store 9 (.tmp 7) (.tmp 26)), none, []⟩,
    ⟨(some 8), (.move (.tmp 27)), none, []⟩]))
  (.seq (.keep [2, 3, 4, 7, 8, 9, 10] (.ops [⟨(some 29), (.load (some 19) (.tmp 3)), none, []⟩,
    ⟨(some 30), (.move (.tmp 2)), none, []⟩,
    ⟨(some 31), (.call (.func 11) [(.tmp 29), (.tmp 30)]), none, []⟩,
    ⟨(some 28), (.move (.tmp 31)), none, []⟩,
    ⟨(some 32), (.extract (.tmp 28) 0), none, []⟩,
    ⟨(some 33), (.extract (.tmp 28) 1), none, []⟩,
    ⟨(some 9), (.alloc (.agg #[(.int .u8 0), (.int .u8 0), (.int .u8 0), (.int .u8 0), (.int .u8 0), (.int .u8 0), (.int .u8 0), (.int .u8 0), (.int .u8 0), (.int .u8 0), (.int .u8 0), (.int .u8 0), (.int .u8 0), (.int .u8 0), (.int .u8 0), (.int .u8 0), (.int .i64 0), (.slice none 0 0), (.slice none 0 0)])), none, []⟩,
    ⟨none, (.store 19 (.tmp 9) (.tmp 32)), none, []⟩,
    ⟨(some 10), (.move (.tmp 33)), none, []⟩]))
  (.seq (.keep [2, 3, 4, 7, 8, 9, 10, 11] (.ops [⟨(some 34), (.load (some 19) (.tmp 3)), none, []⟩,
    ⟨(some 35), (.load (some 19) (.tmp 4)), none, []⟩,
    ⟨(some 36), (.call (.func 12) [(.tmp 34), (.tmp 35)]), none, []⟩,
    ⟨(some 11), (.alloc (.agg #[(.int .i64 0), (.int .i64 0), (.int .i64 0), (.int .i64 0), (.int .i64 0), (.int .i64 0), (.int .i64 0), (.string ⟨#[]⟩), (.bool false), (.bool false)])), none, []⟩,
    ⟨none, (.store 10 (.tmp 11) (.tmp 36)), none, []⟩]))
  (.seq (.keep [3, 4, 7, 8, 9, 10, 11, 12] (.ops [⟨(some 37), (.load (some 19) (.tmp 3)), none, []⟩,
    ⟨(some 38), (.move (.tmp 2)), none, []⟩,
    ⟨(some 39), (.call (.func 13) [(.tmp 37), (.tmp 38)]), none, []⟩,
    ⟨(some 12), (.alloc (.agg #[(.int .u8 0), (.int .u8 0), (.int .u8 0), (.int .u8 0), (.int .u8 0), (.int .u8 0), (.int .u8 0), (.int .u8 0), (.int .u8 0), (.int .u8 0), (.int .u8 0), (.int .u8 0), (.int .u8 0), (.int .u8 0), (.int .u8 0), (.int .u8 0), (.int .i64 0), (.slice none 0 0), (.slice none 0 0), (.int .i64 0)])), none, []⟩,
    ⟨none, (.store 20 (.tmp 12) (.tmp 39)), none, []⟩]))
  (.seq (.keep [6] (.draw [0, 1, 3, 3, 11, 31, 63, 127, 255, 255, 767, 2047, 4095, 8191, 16383, 16383, 65535, 16383, 16383, 524287, 1048575, 2097151, 4194303, 8388607, 8388607, 25165823, 67108863, 134217727, 268435455, 536870911, 536870911, 1610612735, 4294967295, 8589934591, 17179869183] [⟨0, 0, [], ⟨(some 40), (.call (.func 9) []), none, []⟩⟩,
    ⟨1, 1, [], ⟨(some 41), (.move (.tmp 40)), none, []⟩⟩,
    ⟨2, 3, [], ⟨(some 42), (.load (some 9) (.tmp 7)), (some (41, true)), []⟩⟩,
    ⟨3, 3, [], ⟨(some 43), (.fieldAddr 0 (.tmp 11)), (some (41, true)), []⟩⟩,
    ⟨4, 11, [], ⟨(some 44), (.load (some 9) (.tmp 43)), (some (41, true)), []⟩⟩,
    ⟨5, 31, [], ⟨(some 45), (.eqAgg false [(.int .i64), (.int .i64), (.int .i64), (.int .i64), (.int .i64), (.int .i64), (.int .i64), .string, .bool] (.tmp 42) (.tmp 44)), (some (41, true)), []⟩⟩,
    ⟨6, 63, [], ⟨(some 46), (.pick (.tmp 41) (.tmp 45) (.const (.bool false))), none, []⟩⟩,
    ⟨7, 127, [], ⟨(some 47), (.move (.tmp 46)), none, []⟩⟩,
    ⟨8, 255, [], ⟨(some 48), (.move (.tmp 8)), (some (47, true)), []⟩⟩,
    ⟨9, 255, [], ⟨(some 49), (.fieldAddr 9 (.tmp 11)), (some (47, true)), []⟩⟩,
    ⟨10, 767, [], ⟨(some 50), (.load none (.tmp 49)), (some (47, true)), []⟩⟩,
    ⟨11, 2047, [], ⟨(some 51), (.eqBool false (.tmp 48) (.tmp 50)), (some (47, true)), []⟩⟩,
    ⟨12, 4095, [], ⟨(some 52), (.pick (.tmp 47) (.tmp 51) (.const (.bool false))), none, []⟩⟩,
    ⟨13, 8191, [], ⟨(some 53), (.move (.tmp 52)), none, []⟩⟩,
    ⟨14, 16383, [], ⟨(some 54), (.load (some 19) (.tmp 3)), (some (53, true)), []⟩⟩,
    ⟨15, 16383, [], ⟨(some 55), (.load (some 19) (.tmp 4)), (some (53, true)), []⟩⟩,
    ⟨17, 16383, [], ⟨(some 57), (.load (some 19) (.tmp 3)), (some (53, true)), []⟩⟩,
    ⟨18, 16383, [], ⟨(some 58), (.load (some 19) (.tmp 4)), (some (53, true)), []⟩⟩,
    ⟨16, 65535, [17, 18], ⟨(some 56), (.call (.func 14) [(.tmp 54), (.tmp 55)]), (some (53, true)), [((.load (some 19) (.tmp 3)), (some (53, true)), (some 57)), ((.load (some 19) (.tmp 4)), (some (53, true)), (some 58))]⟩⟩,
    ⟨19, 524287, [], ⟨(some 59), (.call (.func 15) [(.tmp 57), (.tmp 58)]), (some (53, true)), []⟩⟩,
    ⟨20, 1048575, [], ⟨(some 60), (.eqBool false (.tmp 56) (.tmp 59)), (some (53, true)), []⟩⟩,
    ⟨21, 2097151, [], ⟨(some 61), (.pick (.tmp 53) (.tmp 60) (.const (.bool false))), none, []⟩⟩,
    ⟨22, 4194303, [], ⟨(some 62), (.move (.tmp 61)), none, []⟩⟩,
    ⟨23, 8388607, [], ⟨(some 63), (.move (.tmp 10)), (some (62, true)), []⟩⟩,
    ⟨24, 8388607, [], ⟨(some 64), (.fieldAddr 19 (.tmp 12)), (some (62, true)), []⟩⟩,
    ⟨25, 25165823, [], ⟨(some 65), (.load none (.tmp 64)), (some (62, true)), []⟩⟩,
    ⟨26, 67108863, [], ⟨(some 66), (.bin .eql (.tmp 63) (.tmp 65)), (some (62, true)), []⟩⟩,
    ⟨27, 134217727, [], ⟨(some 67), (.pick (.tmp 62) (.tmp 66) (.const (.bool false))), none, []⟩⟩,
    ⟨28, 268435455, [], ⟨(some 68), (.move (.tmp 67)), none, []⟩⟩,
    ⟨29, 536870911, [], ⟨(some 69), (.load (some 19) (.tmp 9)), (some (68, true)), []⟩⟩,
    ⟨30, 536870911, [], ⟨(some 70), (.fieldAddr 0 (.tmp 12)), (some (68, true)), []⟩⟩,
    ⟨31, 1610612735, [], ⟨(some 71), (.load (some 19) (.tmp 70)), (some (68, true)), []⟩⟩,
    ⟨32, 4294967295, [], ⟨(some 72), (.call (.func 16) [(.tmp 69), (.tmp 71)]), (some (68, true)), []⟩⟩,
    ⟨33, 8589934591, [], ⟨(some 73), (.pick (.tmp 68) (.tmp 72) (.const (.bool false))), none, []⟩⟩,
    ⟨34, 17179869183, [], ⟨(some 6), (.move (.tmp 73)), none, []⟩⟩]))
  .ret)))))))
theorem t3 : trF Tryd.prog Tryd.f3 s3 = some s3 := by kernel_rfl
theorem k3 : okS s3 = true := by kernel_rfl
theorem r3 : resT Tryd.prog Tryd.f3.results.toList = some [.t 6] := by kernel_rfl

def s4 : S :=
  (.seq (.keep [3, 4, 5, 6] (.ops [⟨(some 4), (.box (.tmp 0)), none, []⟩,
    ⟨(some 5), (.box (.tmp 1)), none, []⟩,
    ⟨(some 6), (.box (.tmp 2)), none, []⟩,
    ⟨(some 8), (.move (.const (.bool false))), none, []⟩]))
  (.seq (.keep [3, 4, 5, 6] (.seq (.keep [3, 4, 5, 6, 32] (.ops [⟨(some 20), (.load (some 19) (.tmp 4)), none, []⟩,
    ⟨(some 21), (.call (.func 8) [(.tmp 20)]), none, []⟩,
    ⟨(some 22), (.un .not (.tmp 21)), none, []⟩,
    ⟨(some 23), (.move (.tmp 22)), none, []⟩,
    ⟨(some 24), (.load (some 19) (.tmp 5)), (some (23, false)), []⟩,
    ⟨(some 25), (.call (.func 8) [(.tmp 24)]), (some (23, false)), []⟩,
    ⟨(some 26), (.un .not (.tmp 25)), (some (23, false)), []⟩,
    ⟨(some 27), (.pick (.tmp 23) (.const (.bool true)) (.tmp 26)), none, []⟩,
    ⟨(some 28), (.move (.tmp 27)), none, []⟩,
    ⟨(some 29), (.load (some 19) (.tmp 6)), (some (28, false)), []⟩,
    ⟨(some 30), (.call (.func 8) [(.tmp 29)]), (some (28, false)), []⟩,
    ⟨(some 31), (.un .not (.tmp 30)), (some (28, false)), []⟩,
    ⟨(some 32), (.pick (.tmp 28) (.const (.bool true)) (.tmp 31)), none, []⟩]))
  (.cond (.tmp 32)
    (.seq (.keep [8] (.ops [⟨(some 33), (.call (.func 9) []), none, []⟩,
      ⟨(some 8), (.move (.tmp 33)), none, []⟩]))
    .ret)
    .skip)))
  (.seq (.keep [4, 5, 6, 9] (.draw [0, 0, 2, 0, 8, 24, 56, 126, 255, 0, 1023] [⟨0, 0, [], ⟨(some 34), (.load (some 19) (.tmp 4)), none, []⟩⟩,
    ⟨1, 0, [], ⟨(some 35), (.move (.tmp 3)), none, []⟩⟩,
    ⟨2, 2, [], ⟨(some 36), (.convInt .i64 (.tmp 35)), none, []⟩⟩,
    ⟨3, 0, [], ⟨(some 37), (.fieldAddr 17 (.tmp 4)), none, []⟩⟩,
    ⟨4, 8, [], ⟨(some 38), (.load none (.tmp 37)), none, []⟩⟩,
    ⟨5, 24, [], ⟨(some 39), (.len (.tmp 38)), none, []⟩⟩,
    ⟨6, 56, [], ⟨(some 40), (.bin .add (.tmp 39) (.const (.int .i64 1))), none, []⟩⟩,
    ⟨7, 126, [], ⟨(some 41), (.bin .rem (.tmp 36) (.tmp 40)), none, []⟩⟩,
    ⟨9, 0, [], ⟨(some 9), (.alloc (.agg #[(.int .u8 0), (.int .u8 0), (.int .u8 0), (.int .u8 0), (.int .u8 0), (.int .u8 0), (.int .u8 0), (.int .u8 0), (.int .u8 0), (.int .u8 0), (.int .u8 0), (.int .u8 0), (.int .u8 0), (.int .u8 0), (.int .u8 0), (.int .u8 0), (.int .i64 0), (.slice none 0 0), (.slice none 0 0), (.int .i64 0), (.int .i64 0)])), none, []⟩⟩,
    ⟨8, 255, [], ⟨(some 42), (.call (.func 17) [(.tmp 34), (.tmp 41)]), none, []⟩⟩,
    ⟨10, 1023, [], ⟨none, (.store 21 (.tmp 9) (.tmp 42)), none, []⟩⟩]))
  (.seq (.keep [4, 5, 6, 9, 11] (.ops [⟨(some 44), (.load (some 19) (.tmp 4)), none, []⟩,
    ⟨(some 45), (.load (some 19) (.tmp 4)), none, []⟩,
    ⟨(some 46), (.call (.func 10) [(.tmp 44), (.tmp 45)]), none, []⟩,
    ⟨(some 43), (.move (.tmp 46)), none, []⟩,
    ⟨(some 47), (.extract (.tmp 43) 0), none, []⟩,
    ⟨(some 48), (.extract (.tmp 43) 1), none, []⟩,
    ⟨(some 10), (.alloc (.agg #[(.int .i64 0), (.int .i64 0), (.int .i64 0), (.int .i64 0), (.int .i64 0), (.int .i64 0), (.int .i64 0), (.string ⟨#[]⟩), (.bool false)])), none, []⟩,
    ⟨none, (.store 9 (.tmp 10) (.tmp 47)), none, []⟩,
    ⟨(some 11), (.move (.tmp 48)), none, []⟩]))
  (.seq (.keep [4, 5, 6, 11, 13] (.ops [⟨(some 50), (.fieldAddr 0 (.tmp 9)), none, []⟩,
    ⟨(some 51), (.load (some 19) (.tmp 50)), none, []⟩,
    ⟨(some 52), (.load (some 19) (.tmp 4)), none, []⟩,
    ⟨(some 53), (.call (.func 10) [(.tmp 51), (.tmp 52)]), none, []⟩,
    ⟨(some 49), (.move (.tmp 53)), none, []⟩,
    ⟨(some 54), (.extract (.tmp 49) 0), none, []⟩,
    ⟨(some 55), (.extract (.tmp 49) 1), none, []⟩,
    ⟨(some 12), (.alloc (.agg #[(.int .i64 0), (.int .i64 0), (.int .i64 0), (.int .i64 0), (.int .i64 0), (.int .i64 0), (.int .i64 0), (.string ⟨#[]⟩), (.bool false)])), none, []⟩,
    ⟨none, (.store 9 (.tmp 12) (.tmp 54)), none, []⟩,
    ⟨(some 13), (.move (.tmp 55)), none, []⟩]))
  (.seq (.keep [4, 5, 6, 11, 13, 15] (.ops [⟨(some 57), (.load (some 19) (.tmp 4)), none, []⟩,
    ⟨(some 58), (.load (some 19) (.tmp 5)), none, []⟩,
    ⟨(some 59), (.call (.func 10) [(.tmp 57), (.tmp 58)]), none, []⟩,
    ⟨(some 56), (.move (.tmp 59)), none, []⟩,
    ⟨(some 60), (.extract (.tmp 56) 0), none, []⟩,
    ⟨(some 61), (.extract (.tmp 56) 1), none, []⟩,
    ⟨(some 14), (.alloc (.agg #[(.int .i64 0), (.int .i64 0), (.int .i64 0), (.int .i64 0), (.int .i64 0), (.int .i64 0), (.int .i64 0), (.string ⟨#[]⟩), (.bool false)])), none, []⟩,
    ⟨none, (.store 9 (.tmp 14) (.tmp 60)), none, []⟩,
    ⟨(some 15), (.move (.tmp 61)), none, []⟩]))
  (.seq (.keep [4, 6, 11, 13, 15, 17] (.ops [⟨(some 63), (.load (some 19) (.tmp 5)), none, []⟩,
    ⟨(some 64), (.load (some 19) (.tmp 6)), none, []⟩,
    ⟨(some 65), (.call (.func 10) [(.tmp 63), (.tmp 64)]), none, []⟩,
    ⟨(some 62), (.move (.tmp 65)), none, []⟩,
    ⟨(some 66), (.extract (.tmp 62) 0), none, []⟩,
    ⟨(some 67), (.extract (.tmp 62) 1), none, []⟩,
    ⟨(some 16), (.alloc (.agg #[(.int .i64 0), (.int .i64 0), (.int .i64 0), (.int .i64 0), (.int .i64 0), (.int .i64 0), (.int .i64 0), (.string ⟨#[]⟩), (.bool false)])), none, []⟩,
    ⟨none, (.store 9 (.tmp 16) (.tmp 66)), none, []⟩,
    ⟨(some 17), (.move (.tmp 67)), none, []⟩]))
  (.seq (.keep [11, 13, 15, 17, 19] (.ops [⟨(some 69), (.load (some 19) (.tmp 4)), none, []⟩,
    ⟨(some 70), (.load (some 19) (.tmp 6)), none, []⟩,
    ⟨(some 71), (.call (.func 10) [(.tmp 69), (.tmp 70)]), none, []⟩,
    ⟨(some 68), (.move (.tmp 71)), none, []⟩,
    ⟨(some 72), (.extract (.tmp 68) 0), none, []⟩,
    ⟨(some 73), (.extract (.tmp 68) 1), none, []⟩,
    ⟨(some 18), (.alloc (.agg #[(.int .i64 0), (.int .i64 0), (.int .i64 0), (.int .i64 0), (.int .i64 0), (.int .i64 0), (.int .i64 0), (.string ⟨#[]⟩), (.bool false)])), none, []⟩,
    ⟨none, (.store 9 (.tmp 18) (.tmp 72)), none, []⟩,
    ⟨(some 19), (.move (.tmp 73)), none, []⟩]))
  (.seq (.keep [8] (.ops [⟨(some 74), (.call (.func 9) []), none, []⟩,
    ⟨(some 75), (.move (.tmp 74)), none, []⟩,
    ⟨(some 76), (.move (.tmp 11)), (some (75, true)), []⟩,
    ⟨(some 77), (.pick (.tmp 75) (.tmp 76) (.const (.bool false))), none, []⟩,
    ⟨(some 78), (.move (.tmp 77)), none, []⟩,
    ⟨(some 79), (.move (.tmp 13)), (some (78, true)), []⟩,
    ⟨(some 80), (.pick (.tmp 78) (.tmp 79) (.const (.bool false))), none, []⟩,
    ⟨(some 81), (.move (.tmp 80)), none, []⟩,
    ⟨(some 82), (.move (.tmp 15)), (some (81, true)), []⟩,
    ⟨(some 83), (.un .not (.tmp 82)), (some (81, true)), []⟩,
    ⟨(some 84), (.move (.tmp 83)), (some (81, true)), []⟩,
    ⟨(some 85), (.move (.tmp 17)), (some (84, false)), []⟩,
    ⟨(some 86), (.un .not (.tmp 85)), (some (84, false)), []⟩,
    ⟨(some 87), (.pick (.tmp 84) (.const (.bool true)) (.tmp 86)), (some (81, true)), []⟩,
    ⟨(some 88), (.move (.tmp 87)), (some (81, true)), []⟩,
    ⟨(some 89), (.move (.tmp 19)), (some (88, false)), []⟩,
    ⟨(some 90), (.pick (.tmp 88) (.const (.bool true)) (.tmp 89)), (some (81, true)), []⟩,
    ⟨(some 91), (.pick (.tmp 81) (.tmp 90) (.const (.bool false))), none, []⟩,
    ⟨(some 8), (.move (.tmp 91)), none, []⟩]))
  .ret)))))))))
theorem t4 : trF Tryd.prog Tryd.f4 s4 = some s4 := by kernel_rfl
theorem k4 : okS s4 = true := by kernel_rfl
theorem r4 : resT Tryd.prog Tryd.f4.results.toList = some [.t 8] := by kernel_rfl

def s5 : S :=
  (.seq (.keep [2, 3, 4, 5, 6, 7] (.ops [⟨(some 6), (.box (.tmp 0)), none, []⟩,
    ⟨(some 7), (.box (.tmp 1)), none, []⟩,
    ⟨(some 12), (.move (.const (.bool false))), none, []⟩]))
  (.seq (.keep [2, 3, 4, 5, 6, 7] (.seq (.keep [2, 3, 4, 5, 6, 7, 26] (.ops [⟨(some 19), (.load (some 19) (.tmp 6)), none, []⟩,
    ⟨(some 20), (.call (.func 8) [(.tmp 19)]), none, []⟩,
    ⟨(some 21), (.un .not (.tmp 20)), none, []⟩,
    ⟨(some 22), (.move (.tmp 21)), none, []⟩,
    ⟨(some 23), (.load (some 19) (.tmp 7)), (some (22, false)), []⟩,
    ⟨(some 24), (.call (.func 8) [(.tmp 23)]), (some (22, false)), []⟩,
    ⟨(some 25), (.un .not (.tmp 24)), (some (22, false)), []⟩,
    ⟨(some 26), (.pick (.tmp 22) (.const (.bool true)) (.tmp 25)), none, []⟩]))
  (.cond (.tmp 26)
    (.seq (.keep [12] (.ops [⟨(some 27), (.call (.func 9) []), none, []⟩,
      ⟨(some 12), (.move (.tmp 27)), none, []⟩]))
    .ret)
    .skip)))
  (.seq (.keep [3, 5, 6, 7, 13] (.ops [⟨(some 28), (.load (some 19) (.tmp 6)), none, []⟩,
    ⟨(some 29), (.move (.tmp 2)), none, []⟩,
    ⟨(some 30), (.convInt .i64 (.tmp 29)), none, []⟩,
    ⟨(some 31), (.move (.tmp 4)), none, []⟩,
    ⟨(some 32), (.convInt .i64 (.tmp 31)), none, []⟩,
    ⟨(some 33), (.call (.func 18) [(.tmp 28), (.tmp 30), (.tmp 32)]), none, []⟩,
    ⟨(some 13), (.alloc (.agg #[(.int .u8 0), (.int .u8 0), (.int .u8 0), (.int .u8 0), (.int .u8 0), (.int .u8 0), (.int .u8 0), (.int .u8 0), (.int .u8 0), (.int .u8 0), (.int .u8 0), (.int .u8 0), (.int .u8 0), (.int .u8 0), (.int .u8 0), (.int .u8 0), (.int .i64 0), (.slice none 0 0), (.slice none 0 0)])), none, []⟩,
    ⟨none, (.store 19 (.tmp 13) (.tmp 33)), none, []⟩]))
  (.seq (.keep [6, 7, 13, 14] (.ops [⟨(some 34), (.load (some 19) (.tmp 7)), none, []⟩,
    ⟨(some 35), (.move (.tmp 3)), none, []⟩,
    ⟨(some 36), (.convInt .i64 (.tmp 35)), none, []⟩,
    ⟨(some 37), (.move (.tmp 5)), none, []⟩,
    ⟨(some 38), (.convInt .i64 (.tmp 37)), none, []⟩,
    ⟨(some 39), (.call (.func 18) [(.tmp 34), (.tmp 36), (.tmp 38)]), none, []⟩,
    ⟨(some 14), (.alloc (.agg #[(.int .u8 0), (.int .u8 0), (.int .u8 0), (.int .u8 0), (.int .u8 0), (.int .u8 0), (.int .u8 0), (.int .u8 0), (.int .u8 0), (.int .u8 0), (.int .u8 0), (.int .u8 0), (.int .u8 0), (.int .u8 0), (.int .u8 0), (.int .u8 0), (.int .i64 0), (.slice none 0 0), (.slice none 0 0)])), none, []⟩,
    ⟨none, (.store 19 (.tmp 14) (.tmp 39)), none, []⟩]))
  (.seq (.keep [6, 7, 13, 14, 16] (.ops [⟨(some 41), (.load (some 19) (.tmp 6)), none, []⟩,
    ⟨(some 42), (.load (some 19) (.tmp 7)), none, []⟩,
    ⟨(some 43), (.call (.func 10) [(.tmp 41), (.tmp 42)]), none, []⟩,
    ⟨(some 40), (.move (.tmp 43)), none, []⟩,
    ⟨(some 44), (.extract (.tmp 40) 0), none, []⟩,
    ⟨(some 45), (.extract (.tmp 40) 1), none, []⟩,
    ⟨(some 15), (.alloc (.agg #[(.int .i64 0), (.int .i64 0), (.int .i64 0), (.int .i64 0), (.int .i64 0), (.int .i64 0), (.int .i64 0), (.string ⟨#[]⟩), (.bool false)])), none, []⟩,
    ⟨none, (.store 9 (.tmp 15) (.tmp 44)), none, []⟩,
    ⟨(some 16), (.move (.tmp 45)), none, []⟩]))
  (.seq (.keep [6, 7, 13, 14, 16, 18] (.ops [⟨(some 47), (.load (some 19) (.tmp 13)), none, []⟩,
    ⟨(some 48), (.load (some 19) (.tmp 14)), none, []⟩,
    ⟨(some 49), (.call (.func 10) [(.tmp 47), (.tmp 48)]), none, []⟩,
    ⟨(some 46), (.move (.tmp 49)), none, []⟩,
    ⟨(some 50), (.extract (.tmp 46) 0), none, []⟩,
    ⟨(some 51), (.extract (.tmp 46) 1), none, []⟩,
    ⟨(some 17), (.alloc (.agg #[(.int .i64 0), (.int .i64 0), (.int .i64 0), (.int .i64 0), (.int .i64 0), (.int .i64 0), (.int .i64 0), (.string ⟨#[]⟩), (.bool false)])), none, []⟩,
    ⟨none, (.store 9 (.tmp 17) (.tmp 50)), none, []⟩,
    ⟨(some 18), (.move (.tmp 51)), none, []⟩]))
  (.seq (.keep [12] (.ops [⟨(some 52), (.call (.func 9) []), none, []⟩,
    ⟨(some 53), (.move (.tmp 52)), none, []⟩,
    ⟨(some 54), (.move (.tmp 16)), (some (53, true)), []⟩,
    ⟨(some 55), (.move (.tmp 18)), (some (53, true)), []⟩,
    ⟨(some 56), (.eqBool false (.tmp 54) (.tmp 55)), (some (53, true)), []⟩,
    ⟨(some 57), (.pick (.tmp 53) (.tmp 56) (.const (.bool false))), none, []⟩,
    ⟨(some 58), (.move (.tmp 57)), none, []⟩,
    ⟨(some 59), (.load (some 19) (.tmp 6)), (some (58, true)), []⟩,
    ⟨(some 60), (.load (some 19) (.tmp 13)), (some (58, true)), []⟩,
    ⟨(some 61), (.call (.func 14) [(.tmp 59), (.tmp 60)]), (some (58, true)), []⟩,
    ⟨(some 62), (.pick (.tmp 58) (.tmp 61) (.const (.bool false))), none, []⟩,
    ⟨(some 63), (.move (.tmp 62)), none, []⟩,
    ⟨(some 64), (.load (some 19) (.tmp 14)), (some (63, true)), []⟩,
    ⟨(some 65), (.load (some 19) (.tmp 7)), (some (63, true)), []⟩,
    ⟨(some 66), (.call (.func 14) [(.tmp 64), (.tmp 65)]), (some (63, true)), []⟩,
    ⟨(some 67), (.pick (.tmp 63) (.tmp 66) (.const (.bool false))), none, []⟩,
    ⟨(some 12), (.move (.tmp 67)), none, []⟩]))
  .ret)))))))
theorem t5 : trF Tryd.prog Tryd.f5 s5 = some s5 := by kernel_rfl
theorem k5 : okS s5 = true := by kernel_rfl
theorem r5 : resT Tryd.prog Tryd.f5.results.toList = some [.t 12] := by kernel_rfl

def s6 : S :=
  (.seq (.keep [2, 3] (.ops [⟨(some 2), (.box (.tmp 0)), none, []⟩,
    ⟨(some 3), (.box (.tmp 1)), none, []⟩,
    ⟨(some 4), (.move (.const (.bool false))), none, []⟩]))
  (.seq (.keep [2, 3] (.seq (.keep [2, 3, 34] (.ops [⟨(some 13), (.load (some 19) (.tmp 2)), none, []⟩,
    ⟨(some 14), (.call (.func 8) [(.tmp 13)]), none, []⟩,
    ⟨(some 15), (.un .not (.tmp 14)), none, []⟩,
    ⟨(some 16), (.move (.tmp 15)), none, []⟩,
    ⟨(some 17), (.load (some 19) (.tmp 3)), (some (16, false)), []⟩,
    ⟨(some 18), (.call (.func 8) [(.tmp 17)]), (some (16, false)), []⟩,
    ⟨(some 19), (.un .not (.tmp 18)), (some (16, false)), []⟩,
    ⟨(some 20), (.pick (.tmp 16) (.const (.bool true)) (.tmp 19)), none, []⟩,
    ⟨(some 21), (.move (.tmp 20)), none, []⟩,
    ⟨(some 22), (.fieldAddr 0 (.tmp 2)), (some (21, false)), []⟩,
    ⟨(some 23), (.load (some 16) (.tmp 22)), (some (21, false)), []⟩,
    ⟨(some 24), (.fieldAddr 0 (.tmp 3)), (some (21, false)), []⟩,
    ⟨(some 25), (.load (some 16) (.tmp 24)), (some (21, false)), []⟩,
    ⟨(some 26), (.eqAgg true (List.replicate 16 (.int .u8)) (.tmp 23) (.tmp 25)), (some (21, false)), []⟩,
    ⟨(some 27), (.pick (.tmp 21) (.const (.bool true)) (.tmp 26)), none, []⟩,
    ⟨(some 28), (.move (.tmp 27)), none, []⟩,
    ⟨(some 29), (.fieldAddr 16 (.tmp 2)), (some (28, false)), []⟩,
    ⟨(some 30), (.load none (.tmp 29)), (some (28, false)), []⟩,
    ⟨(some 31), (.fieldAddr 16 (.tmp 3)), (some (28, false)), []⟩,
    ⟨(some 32), (.load none (.tmp 31)), (some (28, false)), []⟩,
    ⟨(some 33), (.bin .neq (.tmp 30) (.tmp 32)), (some (28, false)), []⟩,
    ⟨(some 34), (.pick (.tmp 28) (.const (.bool true)) (.tmp 33)), none, []⟩]))
  (.cond (.tmp 34)
    (.seq (.keep [4] (.ops [⟨(some 35), (.call (.func 9) []), none, []⟩,
      ⟨(some 4), (.move (.tmp 35)), none, []⟩]))
    .ret)
    .skip)))
  (.seq (.keep [2, 3, 5, 6] (.ops [⟨(some 37), (.load (some 19) (.tmp 2)), none, []⟩,
    ⟨(some 38), (.load (some 19) (.tmp 3)), none, []⟩,
    ⟨(some 39), (.call (.func 10) [(.tmp 37), (.tmp 38)]), none, []⟩,
    ⟨(some 36), (.move (.tmp 39)), none, []⟩,
    ⟨(some 40), (.extract (.tmp 36) 0), none, []⟩,
    ⟨(some 41), (.extract (.tmp 36) 1), none, []⟩,
    ⟨(some 5), (.alloc (.agg #[(.int .i64 0), (.int .i64 0), (.int .i64 0), (.int .i64 0), (.int .i64 0), (.int .i64 0), (.int .i64 0), (.string ⟨#[]⟩), (.bool false)])), none, []⟩,
    ⟨none, (.store 9 (.tmp 5) (.tmp 40)), none, []⟩,
    ⟨(some 6), (.move (.tmp 41)), none, []⟩]))
  (.seq (.keep [2, 3, 5] (.seq (.keep [2, 3, 5, 42] (.ops [⟨(some 42), (.move (.tmp 6)), none, []⟩]))
  (.cond (.tmp 42)
    (.seq (.keep [4] (.ops [⟨(some 43), (.call (.func 9) []), none, []⟩,
      ⟨(some 44), (.move (.tmp 43)), none, []⟩,
      ⟨(some 45), (.load (some 19) (.tmp 2)), (some (44, true)), []⟩,
      ⟨(some 46), (.fieldAddr 17 (.tmp 2)), (some (44, true)), []⟩,
      ⟨(some 47), (.load none (.tmp 46)), (some (44, true)), []⟩,
      ⟨(some 48), (.len (.tmp 47)), (some (44, true)), []⟩,
      ⟨(some 49), (.load (some 19) (.tmp 3)), (some (44, true)), []⟩,
      ⟨(some 50), (.call (.func 19) [(.tmp 45), (.tmp 48), (.tmp 49), (.const (.int .i64 (-1)))]), (some (44, true)), []⟩,
      ⟨(some 51), (.pick (.tmp 44) (.tmp 50) (.const (.bool false))), none, []⟩,
      ⟨(some 4), (.move (.tmp 51)), none, []⟩]))
    .ret)
    .skip)))
  (.seq (.keep [2, 3, 5] (.seq (.keep [2, 3, 5, 75] (.ops [⟨(some 52), (.fieldAddr 1 (.tmp 5)), none, []⟩,
    ⟨(some 53), (.load none (.tmp 52)), none, []⟩,
    ⟨(some 54), (.bin .lss (.tmp 53) (.const (.int .i64 0))), none, []⟩,
    ⟨(some 55), (.move (.tmp 54)), none, []⟩,
    ⟨(some 56), (.fieldAddr 1 (.tmp 5)), (some (55, false)), []⟩,
    ⟨(some 57), (.load none (.tmp 56)), (some (55, false)), []⟩,
    ⟨(some 58), (.fieldAddr 17 (.tmp 2)), (some (55, false)), []⟩,
    ⟨(some 59), (.load none (.tmp 58)), (some (55, false)), []⟩,
    ⟨(some 60), (.len (.tmp 59)), (some (55, false)), []⟩,
    ⟨(some 61), (.bin .geq (.tmp 57) (.tmp 60)), (some (55, false)), []⟩,
    ⟨(some 62), (.pick (.tmp 55) (.const (.bool true)) (.tmp 61)), none, []⟩,
    ⟨(some 63), (.move (.tmp 62)), none, []⟩,
    ⟨(some 64), (.fieldAddr 2 (.tmp 5)), (some (63, false)), []⟩,
    ⟨(some 65), (.load none (.tmp 64)), (some (63, false)), []⟩,
    ⟨(some 66), (.bin .lss (.tmp 65) (.const (.int .i64 0))), (some (63, false)), []⟩,
    ⟨(some 67), (.pick (.tmp 63) (.const (.bool true)) (.tmp 66)), none, []⟩,
    ⟨(some 68), (.move (.tmp 67)), none, []⟩,
    ⟨(some 69), (.fieldAddr 2 (.tmp 5)), (some (68, false)), []⟩,
    ⟨(some 70), (.load none (.tmp 69)), (some (68, false)), []⟩,
    ⟨(some 71), (.fieldAddr 17 (.tmp 3)), (some (68, false)), []⟩,
    ⟨(some 72), (.load none (.tmp 71)), (some (68, false)), []⟩,
    ⟨(some 73), (.len (.tmp 72)), (some (68, false)), []⟩,
    ⟨(some 74), (.bin .gtr (.tmp 70) (.tmp 73)), (some (68, false)), []⟩,
    ⟨(some 75), (.pick (.tmp 68) (.const (.bool true)) (.tmp 74)), none, []⟩]))
  (.cond (.tmp 75)
    (.seq (.keep [4] (.ops [⟨(some 4), (.move (.const (.bool false))), none, []⟩]))
    .ret)
    .skip)))
  (.seq (.keep [2, 3, 5] (.seq (.keep [2, 3, 5, 118] (.draw [0, 1, 3, 7, 15, 7, 39, 103, 255, 511, 1023, 2047, 1023, 5119, 16383, 32767, 1023, 66559, 262143, 524287, 1048575, 2097151, 4194303, 8388607, 16777215, 33554431, 67108863, 134217727, 268435455, 536870911, 1073741823, 2147483647, 4294967295, 8589934591, 4294967295, 21474836479, 68719476735, 137438953471, 4294967295, 279172874239, 1099511627775, 2199023255551, 4398046511103] [⟨0, 0, [], ⟨(some 76), (.fieldAddr 8 (.tmp 5)), none, []⟩⟩,
    ⟨1, 1, [], ⟨(some 77), (.load none (.tmp 76)), none, []⟩⟩,
    ⟨2, 3, [], ⟨(some 78), (.move (.tmp 77)), none, []⟩⟩,
    ⟨3, 7, [], ⟨(some 79), (.fieldAddr 2 (.tmp 5)), (some (78, true)), []⟩⟩,
    ⟨4, 15, [], ⟨(some 80), (.load none (.tmp 79)), (some (78, true)), []⟩⟩,
    ⟨5, 7, [], ⟨(some 81), (.fieldAddr 17 (.tmp 3)), (some (78, true)), []⟩⟩,
    ⟨6, 39, [], ⟨(some 82), (.load none (.tmp 81)), (some (78, true)), []⟩⟩,
    ⟨7, 103, [], ⟨(some 83), (.len (.tmp 82)), (some (78, true)), []⟩⟩,
    ⟨8, 255, [], ⟨(some 84), (.bin .eql (.tmp 80) (.tmp 83)), (some (78, true)), []⟩⟩,
    ⟨9, 511, [], ⟨(some 85), (.move (.tmp 84)), (some (78, true)), []⟩⟩,
    ⟨10, 1023, [], ⟨(some 86), (.fieldAddr 17 (.tmp 3)), (some (85, false)), []⟩⟩,
    ⟨11, 2047, [], ⟨(some 87), (.load none (.tmp 86)), (some (85, false)), []⟩⟩,
    ⟨12, 1023, [], ⟨(some 88), (.fieldAddr 2 (.tmp 5)), (some (85, false)), []⟩⟩,
    ⟨13, 5119, [], ⟨(some 89), (.load none (.tmp 88)), (some (85, false)), []⟩⟩,
    ⟨14, 16383, [], ⟨(some 90), (.indexAddr 5 (.tmp 87) (.tmp 89)), (some (85, false)), []⟩⟩,
    ⟨15, 32767, [], ⟨(some 91), (.load (some 5) (.tmp 90)), (some (85, false)), []⟩⟩,
    ⟨16, 1023, [], ⟨(some 92), (.fieldAddr 3 (.tmp 5)), (some (85, false)), []⟩⟩,
    ⟨17, 66559, [], ⟨(some 93), (.load (some 5) (.tmp 92)), (some (85, false)), []⟩⟩,
    ⟨18, 262143, [], ⟨(some 94), (.eqAgg true [(.int .i64), (.int .i64), (.int .i64), (.int .i64), .string] (.tmp 91) (.tmp 93)), (some (85, false)), []⟩⟩,
    ⟨19, 524287, [], ⟨(some 95), (.pick (.tmp 85) (.const (.bool true)) (.tmp 94)), (some (78, true)), []⟩⟩,
    ⟨20, 1048575, [], ⟨(some 96), (.move (.tmp 95)), (some (78, true)), []⟩⟩,
    ⟨21, 2097151, [], ⟨(some 97), (.fieldAddr 3 (.tmp 5)), (some (96, false)), []⟩⟩,
    ⟨22, 4194303, [], ⟨(some 98), (.fieldAddr 0 (.tmp 97)), (some (96, false)), []⟩⟩,
    ⟨23, 8388607, [], ⟨(some 99), (.load none (.tmp 98)), (some (96, false)), []⟩⟩,
    ⟨24, 16777215, [], ⟨(some 100), (.bin .eql (.tmp 99) (.const (.int .i64 1))), (some (96, false)), []⟩⟩,
    ⟨25, 33554431, [], ⟨(some 101), (.pick (.tmp 96) (.const (.bool true)) (.tmp 100)), (some (78, true)), []⟩⟩,
    ⟨26, 67108863, [], ⟨(some 102), (.pick (.tmp 78) (.tmp 101) (.const (.bool false))), none, []⟩⟩,
    ⟨27, 134217727, [], ⟨(some 103), (.move (.tmp 102)), none, []⟩⟩,
    ⟨28, 268435455, [], ⟨(some 104), (.fieldAddr 8 (.tmp 5)), (some (103, false)), []⟩⟩,
    ⟨29, 536870911, [], ⟨(some 105), (.load none (.tmp 104)), (some (103, false)), []⟩⟩,
    ⟨30, 1073741823, [], ⟨(some 106), (.un .not (.tmp 105)), (some (103, false)), []⟩⟩,
    ⟨31, 2147483647, [], ⟨(some 107), (.move (.tmp 106)), (some (103, false)), []⟩⟩,
    ⟨32, 4294967295, [], ⟨(some 108), (.fieldAddr 17 (.tmp 2)), (some (107, true)), []⟩⟩,
    ⟨33, 8589934591, [], ⟨(some 109), (.load none (.tmp 108)), (some (107, true)), []⟩⟩,
    ⟨34, 4294967295, [], ⟨(some 110), (.fieldAddr 1 (.tmp 5)), (some (107, true)), []⟩⟩,
    ⟨35, 21474836479, [], ⟨(some 111), (.load none (.tmp 110)), (some (107, true)), []⟩⟩,
    ⟨36, 68719476735, [], ⟨(some 112), (.indexAddr 5 (.tmp 109) (.tmp 111)), (some (107, true)), []⟩⟩,
    ⟨37, 137438953471, [], ⟨(some 113), (.load (some 5) (.tmp 112)), (some (107, true)), []⟩⟩,
    ⟨38, 4294967295, [], ⟨(some 114), (.fieldAddr 3 (.tmp 5)), (some (107, true)), []⟩⟩,
    ⟨39, 279172874239, [], ⟨(some 115), (.load (some 5) (.tmp 114)), (some (107, true)), []⟩⟩,
    ⟨40, 1099511627775, [], ⟨(some 116), (.eqAgg true [(.int .i64), (.int .i64), (.int .i64), (.int .i64), .string] (.tmp 113) (.tmp 115)), (some (107, true)), []⟩⟩,
    ⟨41, 2199023255551, [], ⟨(some 117), (.pick (.tmp 107) (.tmp 116) (.const (.bool false))), (some (103, false)), []⟩⟩,
    ⟨42, 4398046511103, [], ⟨(some 118), (.pick (.tmp 103) (.const (.bool true)) (.tmp 117)), none, []⟩⟩]))
  (.cond (.tmp 118)
    (.seq (.keep [4] (.ops [⟨(some 4), (.move (.const (.bool false))), none, []⟩]))
    .ret)
    .skip)))
  (.seq (.keep [2, 3, 5, 7] (.ops [⟨(some 119), (.load (some 19) (.tmp 2)), none, []⟩,
    ⟨(some 120), (.fieldAddr 1 (.tmp 5)), none, []⟩,
    ⟨(some 121), (.load none (.tmp 120)), none, []⟩,
    ⟨(some 122), (.call (.func 17) [(.tmp 119), (.tmp 121)]), none, []⟩,
    ⟨(some 7), (.alloc (.agg #[(.int .u8 0), (.int .u8 0), (.int .u8 0), (.int .u8 0), (.int .u8 0), (.int .u8 0), (.int .u8 0), (.int .u8 0), (.int .u8 0), (.int .u8 0), (.int .u8 0), (.int .u8 0), (.int .u8 0), (.int .u8 0), (.int .u8 0), (.int .u8 0), (.int .i64 0), (.slice none 0 0), (.slice none 0 0), (.int .i64 0), (.int .i64 0)])), none, []⟩,
    ⟨none, (.store 21 (.tmp 7) (.tmp 122)), none, []⟩]))
  (.seq (.keep [2, 3, 5, 7, 8] (.ops [⟨(some 123), (.load (some 19) (.tmp 2)), none, []⟩,
    ⟨(some 124), (.fieldAddr 1 (.tmp 5)), none, []⟩,
    ⟨(some 125), (.load none (.tmp 124)), none, []⟩,
    ⟨(some 126), (.bin .add (.tmp 125) (.const (.int .i64 1))), none, []⟩,
    ⟨(some 127), (.call (.func 17) [(.tmp 123), (.tmp 126)]), none, []⟩,
    ⟨(some 8), (.alloc (.agg #[(.int .u8 0), (.int .u8 0), (.int .u8 0), (.int .u8 0), (.int .u8 0), (.int .u8 0), (.int .u8 0), (.int .u8 0), (.int .u8 0), (.int .u8 0), (.int .u8 0), (.int .u8 0), (.int .u8 0), (.int .u8 0), (.int .u8 0), (.int .u8 0), (.int .i64 0), (.slice none 0 0), (.slice none 0 0), (.int .i64 0), (.int .i64 0)])), none, []⟩,
    ⟨none, (.store 21 (.tmp 8) (.tmp 127)), none, []⟩]))
  (.seq (.keep [2, 3, 5, 8, 10] (.ops [⟨(some 129), (.fieldAddr 0 (.tmp 7)), none, []⟩,
    ⟨(some 130), (.load (some 19) (.tmp 129)), none, []⟩,
    ⟨(some 131), (.load (some 19) (.tmp 3)), none, []⟩,
    ⟨(some 132), (.call (.func 10) [(.tmp 130), (.tmp 131)]), none, []⟩,
    ⟨(some 128), (.move (.tmp 132)), none, []⟩,
    ⟨(some 133), (.extract (.tmp 128) 0), none, []⟩,
    ⟨(some 134), (.extract (.tmp 128) 1), none, []⟩,
    ⟨(some 9), (.alloc (.agg #[(.int .i64 0), (.int .i64 0), (.int .i64 0), (.int .i64 0), (.int .i64 0), (.int .i64 0), (.int .i64 0), (.string ⟨#[]⟩), (.bool false)])), none, []⟩,
    ⟨none, (.store 9 (.tmp 9) (.tmp 133)), none, []⟩,
    ⟨(some 10), (.move (.tmp 134)), none, []⟩]))
  (.seq (.keep [2, 3, 5, 10, 12] (.ops [⟨(some 136), (.fieldAddr 0 (.tmp 8)), none, []⟩,
    ⟨(some 137), (.load (some 19) (.tmp 136)), none, []⟩,
    ⟨(some 138), (.load (some 19) (.tmp 3)), none, []⟩,
    ⟨(some 139), (.call (.func 10) [(.tmp 137), (.tmp 138)]), none, []⟩,
    ⟨(some 135), (.move (.tmp 139)), none, []⟩,
    ⟨(some 140), (.extract (.tmp 135) 0), none, []⟩,
    ⟨(some 141), (.extract (.tmp 135) 1), none, []⟩,
    ⟨(some 11), (.alloc (.agg #[(.int .i64 0), (.int .i64 0), (.int .i64 0), (.int .i64 0), (.int .i64 0), (.int .i64 0), (.int .i64 0), (.string ⟨#[]⟩), (.bool false)])), none, []⟩,
    ⟨none, (.store 9 (.tmp 11) (.tmp 140)), none, []⟩,
    ⟨(some 12), (.move (.tmp 141)), none, []⟩]))
  (.seq (.keep [4] (.ops [⟨(some 142), (.call (.func 9) []), none, []⟩,
    ⟨(some 143), (.move (.tmp 142)), none, []⟩,
    ⟨(some 144), (.move (.tmp 10)), (some (143, true)), []⟩,
    ⟨(some 145), (.pick (.tmp 143) (.tmp 144) (.const (.bool false))), none, []⟩,
    ⟨(some 146), (.move (.tmp 145)), none, []⟩,
    ⟨(some 147), (.move (.tmp 12)), (some (146, true)), []⟩,
    ⟨(some 148), (.un .not (.tmp 147)), (some (146, true)), []⟩,
    ⟨(some 149), (.pick (.tmp 146) (.tmp 148) (.const (.bool false))), none, []⟩,
    ⟨(some 150), (.move (.tmp 149)), none, []⟩,
    ⟨(some 151), (.load (some 19) (.tmp 2)), (some (150, true)), []⟩,
    ⟨(some 152), (.fieldAddr 1 (.tmp 5)), (some (150, true)), []⟩,
    ⟨(some 153), (.load none (.tmp 152)), (some (150, true)), []⟩,
    ⟨(some 154), (.load (some 19) (.tmp 3)), (some (150, true)), []⟩,
    ⟨(some 155), (.fieldAddr 2 (.tmp 5)), (some (150, true)), []⟩,
    ⟨(some 156), (.load none (.tmp 155)), (some (150, true)), []⟩,
    ⟨(some 157), (.call (.func 19) [(.tmp 151), (.tmp 153), (.tmp 154), (.tmp 156)]), (some (150, true)), []⟩,
    ⟨(some 158), (.pick (.tmp 150) (.tmp 157) (.const (.bool false))), none, []⟩,
    ⟨(some 4), (.move (.tmp 158)), none, []⟩]))
  .ret)))))))))))
theorem t6 : trF Tryd.prog Tryd.f6 s6 = some s6 := by kernel_rfl
theorem k6 : okS s6 = true := by kernel_rfl
theorem r6 : resT Tryd.prog Tryd.f6.results.toList = some [.t 4] := by kernel_rfl

def s7 : S :=
  (.seq (.keep [2, 3] (.ops [⟨(some 2), (.box (.tmp 0)), none, []⟩,
    ⟨(some 3), (.box (.tmp 1)), none, []⟩,
    ⟨(some 4), (.move (.const (.bool false))), none, []⟩]))
  (.seq (.keep [2, 3] (.seq (.keep [2, 3, 32] (.ops [⟨(some 11), (.load (some 19) (.tmp 2)), none, []⟩,
    ⟨(some 12), (.call (.func 8) [(.tmp 11)]), none, []⟩,
    ⟨(some 13), (.un .not (.tmp 12)), none, []⟩,
    ⟨(some 14), (.move (.tmp 13)), none, []⟩,
    ⟨(some 15), (.load (some 19) (.tmp 3)), (some (14, false)), []⟩,
    ⟨(some 16), (.call (.func 8) [(.tmp 15)]), (some (14, false)), []⟩,
    ⟨(some 17), (.un .not (.tmp 16)), (some (14, false)), []⟩,
    ⟨(some 18), (.pick (.tmp 14) (.const (.bool true)) (.tmp 17)), none, []⟩,
    ⟨(some 19), (.move (.tmp 18)), none, []⟩,
    ⟨(some 20), (.fieldAddr 0 (.tmp 2)), (some (19, false)), []⟩,
    ⟨(some 21), (.load (some 16) (.tmp 20)), (some (19, false)), []⟩,
    ⟨(some 22), (.fieldAddr 0 (.tmp 3)), (some (19, false)), []⟩,
    ⟨(some 23), (.load (some 16) (.tmp 22)), (some (19, false)), []⟩,
    ⟨(some 24), (.eqAgg true (List.replicate 16 (.int .u8)) (.tmp 21) (.tmp 23)), (some (19, false)), []⟩,
    ⟨(some 25), (.pick (.tmp 19) (.const (.bool true)) (.tmp 24)), none, []⟩,
    ⟨(some 26), (.move (.tmp 25)), none, []⟩,
    ⟨(some 27), (.fieldAddr 16 (.tmp 2)), (some (26, false)), []⟩,
    ⟨(some 28), (.load none (.tmp 27)), (some (26, false)), []⟩,
    ⟨(some 29), (.fieldAddr 16 (.tmp 3)), (some (26, false)), []⟩,
    ⟨(some 30), (.load none (.tmp 29)), (some (26, false)), []⟩,
    ⟨(some 31), (.bin .neq (.tmp 28) (.tmp 30)), (some (26, false)), []⟩,
    ⟨(some 32), (.pick (.tmp 26) (.const (.bool true)) (.tmp 31)), none, []⟩]))
  (.cond (.tmp 32)
    (.seq (.keep [4] (.ops [⟨(some 33), (.call (.func 9) []), none, []⟩,
      ⟨(some 4), (.move (.tmp 33)), none, []⟩]))
    .ret)
    .skip)))
  (.seq (.keep [2, 3, 5, 6] (.ops [⟨(some 35), (.load (some 19) (.tmp 2)), none, []⟩,
    ⟨(some 36), (.load (some 19) (.tmp 3)), none, []⟩,
    ⟨(some 37), (.call (.func 10) [(.tmp 35), (.tmp 36)]), none, []⟩,
    ⟨(some 34), (.move (.tmp 37)), none, []⟩,
    ⟨(some 38), (.extract (.tmp 34) 0), none, []⟩,
    ⟨(some 39), (.extract (.tmp 34) 1), none, []⟩,
    ⟨(some 5), (.alloc (.agg #[(.int .i64 0), (.int .i64 0), (.int .i64 0), (.int .i64 0), (.int .i64 0), (.int .i64 0), (.int .i64 0), (.string ⟨#[]⟩), (.bool false)])), none, []⟩,
    ⟨none, (.store 9 (.tmp 5) (.tmp 38)), none, []⟩,
    ⟨(some 6), (.move (.tmp 39)), none, []⟩]))
  (.seq (.keep [2, 3, 5] (.seq (.keep [2, 3, 5, 50] (.ops [⟨(some 40), (.move (.tmp 6)), none, []⟩,
    ⟨(some 41), (.move (.tmp 40)), none, []⟩,
    ⟨(some 42), (.fieldAddr 8 (.tmp 5)), (some (41, false)), []⟩,
    ⟨(some 43), (.load none (.tmp 42)), (some (41, false)), []⟩,
    ⟨(some 44), (.pick (.tmp 41) (.const (.bool true)) (.tmp 43)), none, []⟩,
    ⟨(some 45), (.move (.tmp 44)), none, []⟩,
    ⟨(some 46), (.fieldAddr 3 (.tmp 5)), (some (45, false)), []⟩,
    ⟨(some 47), (.fieldAddr 0 (.tmp 46)), (some (45, false)), []⟩,
    ⟨(some 48), (.load none (.tmp 47)), (some (45, false)), []⟩,
    ⟨(some 49), (.bin .eql (.tmp 48) (.const (.int .i64 1))), (some (45, false)), []⟩,
    ⟨(some 50), (.pick (.tmp 45) (.const (.bool true)) (.tmp 49)), none, []⟩]))
  (.cond (.tmp 50)
    (.seq (.keep [4] (.ops [⟨(some 51), (.call (.func 9) []), none, []⟩,
      ⟨(some 4), (.move (.tmp 51)), none, []⟩]))
    .ret)
    .skip)))
  (.seq (.keep [2, 3, 5, 7, 8] (.ops [⟨(some 53), (.load (some 19) (.tmp 2)), none, []⟩,
    ⟨(some 54), (.fieldAddr 1 (.tmp 5)), none, []⟩,
    ⟨(some 55), (.load none (.tmp 54)), none, []⟩,
    ⟨(some 56), (.call (.func 11) [(.tmp 53), (.tmp 55)]), none, []⟩,
    ⟨(some 52), (.move (.tmp 56)), none, []⟩,
    ⟨(some 57), (.extract (.tmp 52) 0), none, []⟩,
    ⟨(some 58), (.extract (.tmp 52) 1), none, []⟩,
    ⟨(some 7), (.alloc (.agg #[(.int .u8 0), (.int .u8 0), (.int .u8 0), (.int .u8 0), (.int .u8 0), (.int .u8 0), (.int .u8 0), (.int .u8 0), (.int .u8 0), (.int .u8 0), (.int .u8 0), (.int .u8 0), (.int .u8 0), (.int .u8 0), (.int .u8 0), (.int .u8 0), (.int .i64 0), (.slice none 0 0), (.slice none 0 0)])), none, []⟩,
    ⟨none, (.store 19 (.tmp 7) (.tmp 57)), none, []⟩,
    ⟨(some 8), (.move (.tmp 58)), none, []⟩]))
  (.seq (.keep [2, 3, 5, 7] (.seq (.keep [2, 3, 5, 7, 75] (.ops [⟨(some 59), (.move (.tmp 8)), none, []⟩,
    ⟨(some 60), (.bin .neq (.tmp 59) (.const (.int .i64 0))), none, []⟩,
    ⟨(some 61), (.move (.tmp 60)), none, []⟩,
    ⟨(some 62), (.fieldAddr 17 (.tmp 7)), (some (61, false)), []⟩,
    ⟨(some 63), (.load none (.tmp 62)), (some (61, false)), []⟩,
    ⟨(some 64), (.len (.tmp 63)), (some (61, false)), []⟩,
    ⟨(some 65), (.fieldAddr 17 (.tmp 2)), (some (61, false)), []⟩,
    ⟨(some 66), (.load none (.tmp 65)), (some (61, false)), []⟩,
    ⟨(some 67), (.len (.tmp 66)), (some (61, false)), []⟩,
    ⟨(some 68), (.bin .sub (.tmp 67) (.const (.int .i64 1))), (some (61, false)), []⟩,
    ⟨(some 69), (.bin .neq (.tmp 64) (.tmp 68)), (some (61, false)), []⟩,
    ⟨(some 70), (.pick (.tmp 61) (.const (.bool true)) (.tmp 69)), none, []⟩,
    ⟨(some 71), (.move (.tmp 70)), none, []⟩,
    ⟨(some 72), (.load (some 19) (.tmp 7)), (some (71, false)), []⟩,
    ⟨(some 73), (.call (.func 20) [(.tmp 72)]), (some (71, false)), []⟩,
    ⟨(some 74), (.bin .neq (.tmp 73) (.const (.int .i64 0))), (some (71, false)), []⟩,
    ⟨(some 75), (.pick (.tmp 71) (.const (.bool true)) (.tmp 74)), none, []⟩]))
  (.cond (.tmp 75)
    (.seq (.keep [4] (.ops [⟨(some 4), (.move (.const (.bool false))), none, []⟩]))
    .ret)
    .skip)))
  (.seq (.keep [2, 5, 7, 9, 10] (.ops [⟨(some 77), (.load (some 19) (.tmp 7)), none, []⟩,
    ⟨(some 78), (.load (some 19) (.tmp 3)), none, []⟩,
    ⟨(some 79), (.call (.func 10) [(.tmp 77), (.tmp 78)]), none, []⟩,
    ⟨(some 76), (.move (.tmp 79)), none, []⟩,
    ⟨(some 80), (.extract (.tmp 76) 0), none, []⟩,
    ⟨(some 81), (.extract (.tmp 76) 1), none, []⟩,
    ⟨(some 9), (.alloc (.agg #[(.int .i64 0), (.int .i64 0), (.int .i64 0), (.int .i64 0), (.int .i64 0), (.int .i64 0), (.int .i64 0), (.string ⟨#[]⟩), (.bool false)])), none, []⟩,
    ⟨none, (.store 9 (.tmp 9) (.tmp 80)), none, []⟩,
    ⟨(some 10), (.move (.tmp 81)), none, []⟩]))
  (.seq (.keep [4] (.draw [0, 1, 3, 7, 15, 31, 15, 79, 255, 511, 1023, 2047, 1023, 5119, 16383, 32767, 65535, 131071, 131071, 393215, 1048575, 131071, 131071, 4325375, 16777215, 33554431, 67108863, 134217727, 268435455, 536870911] [⟨0, 0, [], ⟨(some 82), (.call (.func 9) []), none, []⟩⟩,
    ⟨1, 1, [], ⟨(some 83), (.move (.tmp 82)), none, []⟩⟩,
    ⟨2, 3, [], ⟨(some 84), (.move (.tmp 10)), (some (83, true)), []⟩⟩,
    ⟨3, 7, [], ⟨(some 85), (.move (.tmp 84)), (some (83, true)), []⟩⟩,
    ⟨4, 15, [], ⟨(some 86), (.fieldAddr 1 (.tmp 9)), (some (85, false)), []⟩⟩,
    ⟨5, 31, [], ⟨(some 87), (.load none (.tmp 86)), (some (85, false)), []⟩⟩,
    ⟨6, 15, [], ⟨(some 88), (.fieldAddr 1 (.tmp 5)), (some (85, false)), []⟩⟩,
    ⟨7, 79, [], ⟨(some 89), (.load none (.tmp 88)), (some (85, false)), []⟩⟩,
    ⟨8, 255, [], ⟨(some 90), (.bin .geq (.tmp 87) (.tmp 89)), (some (85, false)), []⟩⟩,
    ⟨9, 511, [], ⟨(some 91), (.move (.tmp 90)), (some (85, false)), []⟩⟩,
    ⟨10, 1023, [], ⟨(some 92), (.fieldAddr 2 (.tmp 9)), (some (91, true)), []⟩⟩,
    ⟨11, 2047, [], ⟨(some 93), (.load none (.tmp 92)), (some (91, true)), []⟩⟩,
    ⟨12, 1023, [], ⟨(some 94), (.fieldAddr 2 (.tmp 5)), (some (91, true)), []⟩⟩,
    ⟨13, 5119, [], ⟨(some 95), (.load none (.tmp 94)), (some (91, true)), []⟩⟩,
    ⟨14, 16383, [], ⟨(some 96), (.bin .geq (.tmp 93) (.tmp 95)), (some (91, true)), []⟩⟩,
    ⟨15, 32767, [], ⟨(some 97), (.pick (.tmp 91) (.tmp 96) (.const (.bool false))), (some (85, false)), []⟩⟩,
    ⟨16, 65535, [], ⟨(some 98), (.move (.tmp 97)), (some (85, false)), []⟩⟩,
    ⟨17, 131071, [], ⟨(some 99), (.load (some 19) (.tmp 7)), (some (98, true)), []⟩⟩,
    ⟨18, 131071, [], ⟨(some 100), (.fieldAddr 1 (.tmp 9)), (some (98, true)), []⟩⟩,
    ⟨19, 393215, [], ⟨(some 101), (.load none (.tmp 100)), (some (98, true)), []⟩⟩,
    ⟨21, 131071, [], ⟨(some 103), (.load (some 19) (.tmp 2)), (some (98, true)), []⟩⟩,
    ⟨22, 131071, [], ⟨(some 104), (.fieldAddr 1 (.tmp 5)), (some (98, true)), []⟩⟩,
    ⟨23, 4325375, [], ⟨(some 105), (.load none (.tmp 104)), (some (98, true)), []⟩⟩,
    ⟨20, 1048575, [21, 23], ⟨(some 102), (.call (.func 21) [(.tmp 99), (.tmp 101)]), (some (98, true)), [((.load (some 19) (.tmp 2)), (some (98, true)), (some 103)), ((.load none (.tmp 104)), (some (98, true)), (some 105))]⟩⟩,
    ⟨24, 16777215, [], ⟨(some 106), (.call (.func 21) [(.tmp 103), (.tmp 105)]), (some (98, true)), []⟩⟩,
    ⟨25, 33554431, [], ⟨(some 107), (.bin .geq (.tmp 102) (.tmp 106)), (some (98, true)), []⟩⟩,
    ⟨26, 67108863, [], ⟨(some 108), (.pick (.tmp 98) (.tmp 107) (.const (.bool false))), (some (85, false)), []⟩⟩,
    ⟨27, 134217727, [], ⟨(some 109), (.pick (.tmp 85) (.const (.bool true)) (.tmp 108)), (some (83, true)), []⟩⟩,
    ⟨28, 268435455, [], ⟨(some 110), (.pick (.tmp 83) (.tmp 109) (.const (.bool false))), none, []⟩⟩,
    ⟨29, 536870911, [], ⟨(some 4), (.move (.tmp 110)), none, []⟩⟩]))
  .ret))))))))
theorem t7 : trF Tryd.prog Tryd.f7 s7 = some s7 := by kernel_rfl
theorem k7 : okS s7 = true := by kernel_rfl
theorem r7 : resT Tryd.prog Tryd.f7.results.toList = some [.t 4] := by kernel_rfl

def s8 : S :=
  (.seq (.keep [1] (.ops [⟨(some 1), (.box (.tmp 0)), none, []⟩,
    ⟨(some 2), (.move (.const (.bool false))), none, []⟩]))
  (.seq (.keep [1] (.seq (.keep [1, 12] (.ops [⟨(some 3), (.fieldAddr 17 (.tmp 1)), none, []⟩,
    ⟨(some 4), (.load none (.tmp 3)), none, []⟩,
    ⟨(some 5), (.len (.tmp 4)), none, []⟩,
    ⟨(some 6), (.bin .gtr (.tmp 5) (.const (.int .i64 60))), none, []⟩,
    ⟨(some 7), (.move (.tmp 6)), none, []⟩,
    ⟨(some 8), (.fieldAddr 18 (.tmp 1)), (some (7, false)), []⟩,
    ⟨(some 9), (.load none (.tmp 8)), (some (7, false)), []⟩,
    ⟨(some 10), (.len (.tmp 9)), (some (7, false)), []⟩,
    ⟨(some 11), (.bin .gtr (.tmp 10) (.const (.int .i64 60))), (some (7, false)), []⟩,
    ⟨(some 12), (.pick (.tmp 7) (.const (.bool true)) (.tmp 11)), none, []⟩]))
  (.cond (.tmp 12)
    (.seq (.keep [2] (.ops [⟨(some 2), (.move (.const (.bool false))), none, []⟩]))
    .ret)
    .skip)))
  (.seq (.keep [2] (.ops [⟨(some 13), (.load (some 19) (.tmp 1)), none, []⟩,
    ⟨(some 14), (.call (.func 20) [(.tmp 13)]), none, []⟩,
    ⟨(some 15), (.bin .eql (.tmp 14) (.const (.int .i64 0))), none, []⟩,
    ⟨(some 2), (.move (.tmp 15)), none, []⟩]))
  .ret)))
theorem t8 : trF Tryd.prog Tryd.f8 s8 = some s8 := by kernel_rfl
theorem k8 : okS s8 = true := by kernel_rfl
theorem r8 : resT Tryd.prog Tryd.f8.results.toList = some [.t 2] := by kernel_rfl

def s9 : S :=
  (.seq (.keep [] (.ops [⟨(some 0), (.move (.const (.bool false))), none, []⟩]))
  (.seq (.keep [1] (.ops [⟨(some 21), (.buildSlice 3 [(.int .i64 0), (.int .i64 0), (.int .i64 0)] [(0, 1, (.const (.int .i64 10))), (1, 1, (.const (.int .i64 (-120)))), (2, 1, (.const (.int .i64 5)))]), none, []⟩,
    ⟨(some 22), (.call (.func 22) [(.tmp 21)]), none, []⟩,
    ⟨(some 1), (.alloc (.agg #[(.int .u8 0), (.int .u8 0), (.int .u8 0), (.int .u8 0), (.int .u8 0), (.int .u8 0), (.int .u8 0), (.int .u8 0), (.int .u8 0), (.int .u8 0), (.int .u8 0), (.int .u8 0), (.int .u8 0), (.int .u8 0), (.int .u8 0), (.int .u8 0), (.int .i64 0), (.slice none 0 0), (.slice none 0 0)])), none, []⟩,
    ⟨none, (.store 19 (.tmp 1) (.tmp 22)), none, []⟩]))
  (.seq (.keep [1, 3] (.draw [0, 0, 2, 7, 15, 31, 31, 0, 191, 511] [⟨0, 0, [], ⟨(some 24), (.load (some 19) (.tmp 1)), none, []⟩⟩,
    ⟨1, 0, [], ⟨(some 25), (.buildSlice 4 (List.replicate 4 (.int .i64 0)) [(0, 1, (.const (.int .i64 4))), (1, 1, (.const (.int .i64 6))), (2, 1, (.const (.int .i64 (-120)))), (3, 1, (.const (.int .i64 20)))]), none, []⟩⟩,
    ⟨7, 0, [], ⟨(some 2), (.alloc (.agg #[(.int .i64 0), (.int .i64 0), (.int .i64 0), (.int .i64 0), (.int .i64 0), (.int .i64 0), (.int .i64 0), (.string ⟨#[]⟩), (.bool false)])), none, []⟩⟩,
    ⟨2, 2, [0], ⟨(some 26), (.call (.func 22) [(.tmp 25)]), none, [((.load (some 19) (.tmp 1)), none, (some 24))]⟩⟩,
    ⟨3, 7, [], ⟨(some 27), (.call (.func 10) [(.tmp 24), (.tmp 26)]), none, []⟩⟩,
    ⟨4, 15, [], ⟨(some 23), (.move (.tmp 27)), none, []⟩⟩,
    ⟨5, 31, [], ⟨(some 28), (.extract (.tmp 23) 0), none, []⟩⟩,
    ⟨6, 31, [], ⟨(some 29), (.extract (.tmp 23) 1), none, []⟩⟩,
    ⟨8, 191, [], ⟨none, (.store 9 (.tmp 2) (.tmp 28)), none, []⟩⟩,
    ⟨9, 511, [], ⟨(some 3), (.move (.tmp 29)), none, []⟩⟩]))
  (.seq (.keep [1, 3, 4, 5] (.draw [0, 0, 2, 7, 15, 31, 31, 0, 191, 511] [⟨0, 0, [], ⟨(some 31), (.load (some 19) (.tmp 1)), none, []⟩⟩,
    ⟨1, 0, [], ⟨(some 32), (.buildSlice 3 [(.int .i64 0), (.int .i64 0), (.int .i64 0)] [(0, 1, (.const (.int .i64 10))), (1, 1, (.const (.int .i64 (-120)))), (2, 1, (.const (.int .i64 3)))]), none, []⟩⟩,
    ⟨7, 0, [], ⟨(some 4), (.alloc (.agg #[(.int .i64 0), (.int .i64 0), (.int .i64 0), (.int .i64 0), (.int .i64 0), (.int .i64 0), (.int .i64 0), (.string ⟨#[]⟩), (.bool false)])), none, []⟩⟩,
    ⟨2, 2, [0], ⟨(some 33), (.call (.func 22) [(.tmp 32)]), none, [((.load (some 19) (.tmp 1)), none, (some 31))]⟩⟩,
    ⟨3, 7, [], ⟨(some 34), (.call (.func 10) [(.tmp 31), (.tmp 33)]), none, []⟩⟩,
    ⟨4, 15, [], ⟨(some 30), (.move (.tmp 34)), none, []⟩⟩,
    ⟨5, 31, [], ⟨(some 35), (.extract (.tmp 30) 0), none, []⟩⟩,
    ⟨6, 31, [], ⟨(some 36), (.extract (.tmp 30) 1), none, []⟩⟩,
    ⟨8, 191, [], ⟨none, (.store 9 (.tmp 4) (.tmp 35)), none, []⟩⟩,
    ⟨9, 511, [], ⟨(some 5), (.move (.tmp 36)), none, []⟩⟩]))
  (.seq (.keep [1, 3, 4, 5, 6, 7] (.draw [0, 0, 2, 7, 15, 31, 31, 0, 191, 511] [⟨0, 0, [], ⟨(some 38), (.load (some 19) (.tmp 1)), none, []⟩⟩,
    ⟨1, 0, [], ⟨(some 39), (.buildSlice 1 [(.int .i64 0)] [(0, 1, (.const (.int .i64 20)))]), none, []⟩⟩,
    ⟨7, 0, [], ⟨(some 6), (.alloc (.agg #[(.int .i64 0), (.int .i64 0), (.int .i64 0), (.int .i64 0), (.int .i64 0), (.int .i64 0), (.int .i64 0), (.string ⟨#[]⟩), (.bool false)])), none, []⟩⟩,
    ⟨2, 2, [0], ⟨(some 40), (.call (.func 22) [(.tmp 39)]), none, [((.load (some 19) (.tmp 1)), none, (some 38))]⟩⟩,
    ⟨3, 7, [], ⟨(some 41), (.call (.func 10) [(.tmp 38), (.tmp 40)]), none, []⟩⟩,
    ⟨4, 15, [], ⟨(some 37), (.move (.tmp 41)), none, []⟩⟩,
    ⟨5, 31, [], ⟨(some 42), (.extract (.tmp 37) 0), none, []⟩⟩,
    ⟨6, 31, [], ⟨(some 43), (.extract (.tmp 37) 1), none, []⟩⟩,
    ⟨8, 191, [], ⟨none, (.store 9 (.tmp 6) (.tmp 42)), none, []⟩⟩,
    ⟨9, 511, [], ⟨(some 7), (.move (.tmp 43)), none, []⟩⟩]))
  (.seq (.keep [1, 3, 4, 5, 6, 7, 8, 9] (.draw [0, 0, 2, 7, 15, 31, 31, 0, 191, 511] [⟨0, 0, [], ⟨(some 45), (.load (some 19) (.tmp 1)), none, []⟩⟩,
    ⟨1, 0, [], ⟨(some 46), (.buildSlice 5 (List.replicate 5 (.int .i64 0)) [(0, 1, (.const (.int .i64 5))), (1, 1, (.const (.int .i64 (-121)))), (2, 1, (.const (.int .i64 5))), (3, 1, (.const (.int .i64 (-120)))), (4, 1, (.const (.int .i64 5)))]), none, []⟩⟩,
    ⟨7, 0, [], ⟨(some 8), (.alloc (.agg #[(.int .i64 0), (.int .i64 0), (.int .i64 0), (.int .i64 0), (.int .i64 0), (.int .i64 0), (.int .i64 0), (.string ⟨#[]⟩), (.bool false)])), none, []⟩⟩,
    ⟨2, 2, [0], ⟨(some 47), (.call (.func 22) [(.tmp 46)]), none, [((.load (some 19) (.tmp 1)), none, (some 45))]⟩⟩,
    ⟨3, 7, [], ⟨(some 48), (.call (.func 10) [(.tmp 45), (.tmp 47)]), none, []⟩⟩,
    ⟨4, 15, [], ⟨(some 44), (.move (.tmp 48)), none, []⟩⟩,
    ⟨5, 31, [], ⟨(some 49), (.extract (.tmp 44) 0), none, []⟩⟩,
    ⟨6, 31, [], ⟨(some 50), (.extract (.tmp 44) 1), none, []⟩⟩,
    ⟨8, 191, [], ⟨none, (.store 9 (.tmp 8) (.tmp 49)), none, []⟩⟩,
    ⟨9, 511, [], ⟨(some 9), (.move (.tmp 50)), none, []⟩⟩]))
  (.seq (.keep [1, 3, 4, 5, 6, 7, 8, 9, 10, 11, 12] (.draw [0, 1, 0, 4, 12, 31, 63, 127, 127, 127, 0, 0, 3327, 7679, 16383] [⟨0, 0, [], ⟨(some 52), (.load (some 19) (.tmp 1)), none, []⟩⟩,
    ⟨1, 1, [], ⟨(some 53), (.build [(.int .u8 0), (.int .u8 0), (.int .u8 0), (.int .u8 0), (.int .u8 0), (.int .u8 0), (.int .u8 0), (.int .u8 0), (.int .u8 0), (.int .u8 0), (.int .u8 0), (.int .u8 0), (.int .u8 0), (.int .u8 0), (.int .u8 0), (.int .u8 0), (.int .i64 0), (.slice none 0 0), (.slice none 0 0), (.int .i64 0), (.int .i64 0)] [(0, 19, (.tmp 52)), (20, 1, (.const (.int .i64 2)))]), none, []⟩⟩,
    ⟨2, 0, [], ⟨(some 54), (.buildSlice 3 [(.int .i64 0), (.int .i64 0), (.int .i64 0)] [(0, 1, (.const (.int .i64 10))), (1, 1, (.const (.int .i64 (-120)))), (2, 1, (.const (.int .i64 9)))]), none, []⟩⟩,
    ⟨10, 0, [], ⟨(some 10), (.alloc (.agg #[(.int .u8 0), (.int .u8 0), (.int .u8 0), (.int .u8 0), (.int .u8 0), (.int .u8 0), (.int .u8 0), (.int .u8 0), (.int .u8 0), (.int .u8 0), (.int .u8 0), (.int .u8 0), (.int .u8 0), (.int .u8 0), (.int .u8 0), (.int .u8 0), (.int .i64 0), (.slice none 0 0), (.slice none 0 0), (.int .i64 0), (.int .i64 0)])), none, []⟩⟩,
    ⟨11, 0, [], ⟨(some 11), (.alloc (.agg #[(.int .i64 0), (.int .i64 0), (.int .i64 0), (.int .i64 0), (.int .i64 0), (.int .i64 0), (.int .i64 0), (.string ⟨#[]⟩), (.bool false)])), none, []⟩⟩,
    ⟨3, 4, [0], ⟨(some 55), (.call (.func 22) [(.tmp 54)]), none, [((.load (some 19) (.tmp 1)), none, (some 52))]⟩⟩,
    ⟨4, 12, [], ⟨(some 56), (.build [(.int .u8 0), (.int .u8 0), (.int .u8 0), (.int .u8 0), (.int .u8 0), (.int .u8 0), (.int .u8 0), (.int .u8 0), (.int .u8 0), (.int .u8 0), (.int .u8 0), (.int .u8 0), (.int .u8 0), (.int .u8 0), (.int .u8 0), (.int .u8 0), (.int .i64 0), (.slice none 0 0), (.slice none 0 0), (.int .i64 0), (.int .i64 0)] [(0, 19, (.tmp 55))]), none, []⟩⟩,
    ⟨5, 31, [], ⟨(some 57), (.call (.func 23) [(.tmp 53), (.tmp 56)]), none, []⟩⟩,
    ⟨6, 63, [], ⟨(some 51), (.move (.tmp 57)), none, []⟩⟩,
    ⟨7, 127, [], ⟨(some 58), (.extract (.tmp 51) 0), none, []⟩⟩,
    ⟨8, 127, [], ⟨(some 59), (.extract (.tmp 51) 1), none, []⟩⟩,
    ⟨9, 127, [], ⟨(some 60), (.extract (.tmp 51) 2), none, []⟩⟩,
    ⟨12, 3327, [], ⟨none, (.store 21 (.tmp 10) (.tmp 58)), none, []⟩⟩,
    ⟨13, 7679, [], ⟨none, (.store 9 (.tmp 11) (.tmp 59)), none, []⟩⟩,
    ⟨14, 16383, [], ⟨(some 12), (.move (.tmp 60)), none, []⟩⟩]))
  (.seq (.keep [1, 3, 4, 5, 6, 7, 8, 9, 10, 11, 12, 15] (.ops [⟨(some 62), (.load (some 19) (.tmp 1)), none, []⟩,
    ⟨(some 63), (.build [(.int .u8 0), (.int .u8 0), (.int .u8 0), (.int .u8 0), (.int .u8 0), (.int .u8 0), (.int .u8 0), (.int .u8 0), (.int .u8 0), (.int .u8 0), (.int .u8 0), (.int .u8 0), (.int .u8 0), (.int .u8 0), (.int .u8 0), (.int .u8 0), (.int .i64 0), (.slice none 0 0), (.slice none 0 0), (.int .i64 0), (.int .i64 0)] [(0, 19, (.tmp 62))]), none, []⟩,
    ⟨(some 64), (.load (some 19) (.tmp 1)), none, []⟩,
    ⟨(some 65), (.build [(.int .u8 0), (.int .u8 0), (.int .u8 0), (.int .u8 0), (.int .u8 0), (.int .u8 0), (.int .u8 0), (.int .u8 0), (.int .u8 0), (.int .u8 0), (.int .u8 0), (.int .u8 0), (.int .u8 0), (.int .u8 0), (.int .u8 0), (.int .u8 0), (.int .i64 0), (.slice none 0 0), (.slice none 0 0), (.int .i64 0), (.int .i64 0)] [(0, 19, (.tmp 64)), (20, 1, (.const (.int .i64 1)))]), none, []⟩,
    ⟨(some 66), (.call (.func 23) [(.tmp 63), (.tmp 65)]), none, []⟩,
    ⟨(some 61), (.move (.tmp 66)), none, []⟩,
    ⟨(some 67), (.extract (.tmp 61) 0), none, []⟩,
    ⟨(some 68), (.extract (.tmp 61) 1), none, []⟩,
    ⟨(some 69), (.extract (.tmp 61) 2), none, []⟩,
    ⟨(some 13), (.alloc (.agg #[(.int .u8 0), (.int .u8 0), (.int .u8 0), (.int .u8 0), (.int .u8 0), (.int .u8 0), (.int .u8 0), (.int .u8 0), (.int .u8 0), (.int .u8 0), (.int .u8 0), (.int .u8 0), (.int .u8 0), (.int .u8 0), (.int .u8 0), (.int .u8 0), (.int .i64 0), (.slice none 0 0), (.slice none 0 0), (.int .i64 0), (.int .i64 0)])), none, []⟩,
    ⟨(some 14), (.alloc (.agg #[(.int .i64 0), (.int .i64 0), (.int .i64 0), (.int .i64 0), (.int .i64 0), (.int .i64 0), (.int .i64 0), (.string ⟨#[]⟩), (.bool false)])), none, []⟩,
    ⟨none, (.store 21 (.tmp 13) (.tmp 67)), none, []⟩,
    ⟨none, (.store 9 (.tmp 14) (.tmp 68)), none, []⟩,
    ⟨(some 15), (.move (.tmp 69)), none, []⟩]))
  (.seq (.keep [1, 3, 4, 5, 6, 7, 8, 9, 10, 11, 12, 15, 16, 17] (.ops [⟨(some 71), (.load (some 19) (.tmp 1)), none, []⟩,
    ⟨(some 72), (.call (.func 11) [(.tmp 71), (.const (.int .i64 1))]), none, []⟩,
    ⟨(some 70), (.move (.tmp 72)), none, []⟩,
    ⟨(some 73), (.extract (.tmp 70) 0), none, []⟩,
    ⟨(some 74), (.extract (.tmp 70) 1), none, []⟩,
    ⟨(some 16), (.alloc (.agg #[(.int .u8 0), (.int .u8 0), (.int .u8 0), (.int .u8 0), (.int .u8 0), (.int .u8 0), (.int .u8 0), (.int .u8 0), (.int .u8 0), (.int .u8 0), (.int .u8 0), (.int .u8 0), (.int .u8 0), (.int .u8 0), (.int .u8 0), (.int .u8 0), (.int .i64 0), (.slice none 0 0), (.slice none 0 0)])), none, []⟩,
    ⟨none, (.store 19 (.tmp 16) (.tmp 73)), none, []⟩,
    ⟨(some 17), (.move (.tmp 74)), none, []⟩]))
  (.seq (.keep [1, 3, 4, 5, 6, 7, 8, 9, 10, 11, 12, 15, 16, 17, 19] (.ops [⟨(some 76), (.load (some 19) (.tmp 1)), none, []⟩,
    ⟨(some 77), (.call (.func 11) [(.tmp 76), (.const (.int .i64 0))]), none, []⟩,
    ⟨(some 75), (.move (.tmp 77)), none, []⟩,
    ⟨(some 78), (.extract (.tmp 75) 0), none, []⟩,
    ⟨(some 79), (.extract (.tmp 75) 1), none, []⟩,
    ⟨(some 18), (.alloc (.agg #[(.int .u8 0), (.int .u8 0), (.int .u8 0), (.int .u8 0), (.int .u8 0), (.int .u8 0), (.int .u8 0), (.int .u8 0), (.int .u8 0), (.int .u8 0), (.int .u8 0), (.int .u8 0), (.int .u8 0), (.int .u8 0), (.int .u8 0), (.int .u8 0), (.int .i64 0), (.slice none 0 0), (.slice none 0 0)])), none, []⟩,
    ⟨none, (.store 19 (.tmp 18) (.tmp 78)), none, []⟩,
    ⟨(some 19), (.move (.tmp 79)), none, []⟩]))
  (.seq (.keep [1, 4, 6, 8, 16] (.seq (.keep [1, 4, 6, 8, 16, 132] (.ops [⟨(some 80), (.move (.tmp 3)), none, []⟩,
    ⟨(some 81), (.un .not (.tmp 80)), none, []⟩,
    ⟨(some 82), (.move (.tmp 81)), none, []⟩,
    ⟨(some 83), (.move (.tmp 5)), (some (82, false)), []⟩,
    ⟨(some 84), (.pick (.tmp 82) (.const (.bool true)) (.tmp 83)), none, []⟩,
    ⟨(some 85), (.move (.tmp 84)), none, []⟩,
    ⟨(some 86), (.move (.tmp 7)), (some (85, false)), []⟩,
    ⟨(some 87), (.pick (.tmp 85) (.const (.bool true)) (.tmp 86)), none, []⟩,
    ⟨(some 88), (.move (.tmp 87)), none, []⟩,
    ⟨(some 89), (.move (.tmp 9)), (some (88, false)), []⟩,
    ⟨(some 90), (.pick (.tmp 88) (.const (.bool true)) (.tmp 89)), none, []⟩,
    ⟨(some 91), (.move (.tmp 90)), none, []⟩,
    ⟨(some 92), (.move (.tmp 12)), (some (91, false)), []⟩,
    ⟨(some 93), (.bin .neq (.tmp 92) (.const (.int .i64 0))), (some (91, false)), []⟩,
    ⟨(some 94), (.pick (.tmp 91) (.const (.bool true)) (.tmp 93)), none, []⟩,
    ⟨(some 95), (.move (.tmp 94)), none, []⟩,
    ⟨(some 96), (.move (.tmp 15)), (some (95, false)), []⟩,
    ⟨(some 97), (.bin .neq (.tmp 96) (.const (.int .i64 4))), (some (95, false)), []⟩,
    ⟨(some 98), (.pick (.tmp 95) (.const (.bool true)) (.tmp 97)), none, []⟩,
    ⟨(some 99), (.move (.tmp 98)), none, []⟩,
    ⟨(some 100), (.move (.tmp 17)), (some (99, false)), []⟩,
    ⟨(some 101), (.bin .neq (.tmp 100) (.const (.int .i64 0))), (some (99, false)), []⟩,
    ⟨(some 102), (.pick (.tmp 99) (.const (.bool true)) (.tmp 101)), none, []⟩,
    ⟨(some 103), (.move (.tmp 102)), none, []⟩,
    ⟨(some 104), (.move (.tmp 19)), (some (103, false)), []⟩,
    ⟨(some 105), (.bin .neq (.tmp 104) (.const (.int .i64 1))), (some (103, false)), []⟩,
    ⟨(some 106), (.pick (.tmp 103) (.const (.bool true)) (.tmp 105)), none, []⟩,
    ⟨(some 107), (.move (.tmp 106)), none, []⟩,
    ⟨(some 108), (.load (some 9) (.tmp 11)), (some (107, false)), []⟩,
    ⟨(some 109), (.build [(.int .i64 0), (.int .i64 0), (.int .i64 0), (.int .i64 0), (.int .i64 0), (.int .i64 0), (.int .i64 0), (.string ⟨#[]⟩), (.bool false)] []), (some (107, false)), []⟩,
    ⟨(some 110), (.eqAgg true [(.int .i64), (.int .i64), (.int .i64), (.int .i64), (.int .i64), (.int .i64), (.int .i64), .string, .bool] (.tmp 108) (.tmp 109)), (some (107, false)), []⟩,
    ⟨(some 111), (.pick (.tmp 107) (.const (.bool true)) (.tmp 110)), none, []⟩,
    ⟨(some 112), (.move (.tmp 111)), none, []⟩,
    ⟨(some 113), (.fieldAddr 20 (.tmp 10)), (some (112, false)), []⟩,
    ⟨(some 114), (.load none (.tmp 113)), (some (112, false)), []⟩,
    ⟨(some 115), (.bin .neq (.tmp 114) (.const (.int .i64 2))), (some (112, false)), []⟩,
    ⟨(some 116), (.pick (.tmp 112) (.const (.bool true)) (.tmp 115)), none, []⟩,
    ⟨(some 117), (.move (.tmp 116)), none, []⟩,
    ⟨(some 118), (.fieldAddr 0 (.tmp 10)), (some (117, false)), []⟩,
    ⟨(some 119), (.fieldAddr 17 (.tmp 118)), (some (117, false)), []⟩,
    ⟨(some 120), (.load none (.tmp 119)), (some (117, false)), []⟩,
    ⟨(some 121), (.len (.tmp 120)), (some (117, false)), []⟩,
    ⟨(some 122), (.bin .neq (.tmp 121) (.const (.int .i64 3))), (some (117, false)), []⟩,
    ⟨(some 123), (.pick (.tmp 117) (.const (.bool true)) (.tmp 122)), none, []⟩,
    ⟨(some 124), (.move (.tmp 123)), none, []⟩,
    ⟨(some 125), (.fieldAddr 0 (.tmp 10)), (some (124, false)), []⟩,
    ⟨(some 126), (.fieldAddr 17 (.tmp 125)), (some (124, false)), []⟩,
    ⟨(some 127), (.load none (.tmp 126)), (some (124, false)), []⟩,
    ⟨(some 128), (.indexAddr 5 (.tmp 127) (.const (.int .i64 2))), (some (124, false)), []⟩,
    ⟨(some 129), (.fieldAddr 3 (.tmp 128)), (some (124, false)), []⟩,
    ⟨(some 130), (.load none (.tmp 129)), (some (124, false)), []⟩,
    ⟨(some 131), (.bin .neq (.tmp 130) (.const (.int .i64 9))), (some (124, false)), []⟩,
    ⟨(some 132), (.pick (.tmp 124) (.const (.bool true)) (.tmp 131)), none, []⟩]))
  (.cond (.tmp 132)
    (.seq (.keep [0] (.ops [⟨(some 0), (.move (.const (.bool false))), none, []⟩]))
    .ret)
    .skip)))
  (.seq (.keep [1, 16, 20] (.ops [⟨(some 133), (.fieldAddr 1 (.tmp 4)), none, []⟩,
    ⟨(some 134), (.load none (.tmp 133)), none, []⟩,
    ⟨(some 135), (.bin .eql (.tmp 134) (.const (.int .i64 2))), none, []⟩,
    ⟨(some 136), (.move (.tmp 135)), none, []⟩,
    ⟨(some 137), (.fieldAddr 2 (.tmp 4)), (some (136, true)), []⟩,
    ⟨(some 138), (.load none (.tmp 137)), (some (136, true)), []⟩,
    ⟨(some 139), (.bin .eql (.tmp 138) (.const (.int .i64 3))), (some (136, true)), []⟩,
    ⟨(some 140), (.pick (.tmp 136) (.tmp 139) (.const (.bool false))), none, []⟩,
    ⟨(some 141), (.move (.tmp 140)), none, []⟩,
    ⟨(some 142), (.fieldAddr 3 (.tmp 4)), (some (141, true)), []⟩,
    ⟨(some 143), (.fieldAddr 3 (.tmp 142)), (some (141, true)), []⟩,
    ⟨(some 144), (.load none (.tmp 143)), (some (141, true)), []⟩,
    ⟨(some 145), (.bin .eql (.tmp 144) (.const (.int .i64 5))), (some (141, true)), []⟩,
    ⟨(some 146), (.pick (.tmp 141) (.tmp 145) (.const (.bool false))), none, []⟩,
    ⟨(some 147), (.move (.tmp 146)), none, []⟩,
    ⟨(some 148), (.fieldAddr 8 (.tmp 4)), (some (147, true)), []⟩,
    ⟨(some 149), (.load none (.tmp 148)), (some (147, true)), []⟩,
    ⟨(some 150), (.un .not (.tmp 149)), (some (147, true)), []⟩,
    ⟨(some 151), (.pick (.tmp 147) (.tmp 150) (.const (.bool false))), none, []⟩,
    ⟨(some 152), (.move (.tmp 151)), none, []⟩,
    ⟨(some 153), (.fieldAddr 1 (.tmp 6)), (some (152, true)), []⟩,
    ⟨(some 154), (.load none (.tmp 153)), (some (152, true)), []⟩,
    ⟨(some 155), (.bin .eql (.tmp 154) (.const (.int .i64 1))), (some (152, true)), []⟩,
    ⟨(some 156), (.pick (.tmp 152) (.tmp 155) (.const (.bool false))), none, []⟩,
    ⟨(some 157), (.move (.tmp 156)), none, []⟩,
    ⟨(some 158), (.fieldAddr 2 (.tmp 6)), (some (157, true)), []⟩,
    ⟨(some 159), (.load none (.tmp 158)), (some (157, true)), []⟩,
    ⟨(some 160), (.bin .eql (.tmp 159) (.const (.int .i64 0))), (some (157, true)), []⟩,
    ⟨(some 161), (.pick (.tmp 157) (.tmp 160) (.const (.bool false))), none, []⟩,
    ⟨(some 162), (.move (.tmp 161)), none, []⟩,
    ⟨(some 163), (.fieldAddr 3 (.tmp 6)), (some (162, true)), []⟩,
    ⟨(some 164), (.fieldAddr 4 (.tmp 163)), (some (162, true)), []⟩,
    ⟨(some 165), (.load none (.tmp 164)), (some (162, true)), []⟩,
    ⟨(some 166), (.bin .eql (.tmp 165) (.const (.string ⟨#[120]⟩))), (some (162, true)), []⟩,
    ⟨(some 167), (.pick (.tmp 162) (.tmp 166) (.const (.bool false))), none, []⟩,
    ⟨(some 168), (.move (.tmp 167)), none, []⟩,
    ⟨(some 169), (.fieldAddr 8 (.tmp 6)), (some (168, true)), []⟩,
    ⟨(some 170), (.load none (.tmp 169)), (some (168, true)), []⟩,
    ⟨(some 171), (.un .not (.tmp 170)), (some (168, true)), []⟩,
    ⟨(some 172), (.pick (.tmp 168) (.tmp 171) (.const (.bool false))), none, []⟩,
    ⟨(some 173), (.move (.tmp 172)), none, []⟩,
    ⟨(some 174), (.fieldAddr 1 (.tmp 8)), (some (173, true)), []⟩,
    ⟨(some 175), (.load none (.tmp 174)), (some (173, true)), []⟩,
    ⟨(some 176), (.bin .eql (.tmp 175) (.const (.int .i64 0))), (some (173, true)), []⟩,
    ⟨(some 177), (.pick (.tmp 173) (.tmp 176) (.const (.bool false))), none, []⟩,
    ⟨(some 178), (.move (.tmp 177)), none, []⟩,
    ⟨(some 179), (.fieldAddr 2 (.tmp 8)), (some (178, true)), []⟩,
    ⟨(some 180), (.load none (.tmp 179)), (some (178, true)), []⟩,
    ⟨(some 181), (.bin .eql (.tmp 180) (.const (.int .i64 1))), (some (178, true)), []⟩,
    ⟨(some 182), (.pick (.tmp 178) (.tmp 181) (.const (.bool false))), none, []⟩,
    ⟨(some 183), (.move (.tmp 182)), none, []⟩,
    ⟨(some 184), (.fieldAddr 3 (.tmp 8)), (some (183, true)), []⟩,
    ⟨(some 185), (.fieldAddr 4 (.tmp 184)), (some (183, true)), []⟩,
    ⟨(some 186), (.load none (.tmp 185)), (some (183, true)), []⟩,
    ⟨(some 187), (.bin .eql (.tmp 186) (.const (.string ⟨#[121]⟩))), (some (183, true)), []⟩,
    ⟨(some 188), (.pick (.tmp 183) (.tmp 187) (.const (.bool false))), none, []⟩,
    ⟨(some 189), (.move (.tmp 188)), none, []⟩,
    ⟨(some 190), (.fieldAddr 8 (.tmp 8)), (some (189, true)), []⟩,
    ⟨(some 191), (.load none (.tmp 190)), (some (189, true)), []⟩,
    ⟨(some 192), (.pick (.tmp 189) (.tmp 191) (.const (.bool false))), none, []⟩,
    ⟨(some 20), (.move (.tmp 192)), none, []⟩]))
  (.seq (.keep [0] (.draw [0, 1, 3, 3, 11, 31, 63, 127, 255, 511, 1023, 2047, 4095, 8191, 16383, 16383, 49151, 131071, 262143, 524287] [⟨0, 0, [], ⟨(some 193), (.move (.tmp 20)), none, []⟩⟩,
    ⟨1, 1, [], ⟨(some 194), (.move (.tmp 193)), none, []⟩⟩,
    ⟨2, 3, [], ⟨(some 195), (.load (some 19) (.tmp 16)), (some (194, true)), []⟩⟩,
    ⟨3, 3, [], ⟨(some 196), (.buildSlice 1 [(.int .i64 0)] [(0, 1, (.const (.int .i64 15)))]), (some (194, true)), []⟩⟩,
    ⟨4, 11, [2], ⟨(some 197), (.call (.func 22) [(.tmp 196)]), (some (194, true)), [((.load (some 19) (.tmp 16)), (some (194, true)), (some 195))]⟩⟩,
    ⟨5, 31, [], ⟨(some 198), (.call (.func 14) [(.tmp 195), (.tmp 197)]), (some (194, true)), []⟩⟩,
    ⟨6, 63, [], ⟨(some 199), (.pick (.tmp 194) (.tmp 198) (.const (.bool false))), none, []⟩⟩,
    ⟨7, 127, [], ⟨(some 200), (.move (.tmp 199)), none, []⟩⟩,
    ⟨8, 255, [], ⟨(some 201), (.fieldAddr 17 (.tmp 16)), (some (200, true)), []⟩⟩,
    ⟨9, 511, [], ⟨(some 202), (.load none (.tmp 201)), (some (200, true)), []⟩⟩,
    ⟨10, 1023, [], ⟨(some 203), (.len (.tmp 202)), (some (200, true)), []⟩⟩,
    ⟨11, 2047, [], ⟨(some 204), (.bin .eql (.tmp 203) (.const (.int .i64 2))), (some (200, true)), []⟩⟩,
    ⟨12, 4095, [], ⟨(some 205), (.pick (.tmp 200) (.tmp 204) (.const (.bool false))), none, []⟩⟩,
    ⟨13, 8191, [], ⟨(some 206), (.move (.tmp 205)), none, []⟩⟩,
    ⟨14, 16383, [], ⟨(some 207), (.load (some 19) (.tmp 1)), (some (206, true)), []⟩⟩,
    ⟨15, 16383, [], ⟨(some 208), (.buildSlice 5 (List.replicate 5 (.int .i64 0)) [(0, 1, (.const (.int .i64 3))), (1, 1, (.const (.int .i64 7))), (2, 1, (.const (.int .i64 (-120)))), (3, 1, (.const (.int .i64 1))), (4, 1, (.const (.int .i64 4)))]), (some (206, true)), []⟩⟩,
    ⟨16, 49151, [14], ⟨(some 209), (.call (.func 22) [(.tmp 208)]), (some (206, true)), [((.load (some 19) (.tmp 1)), (some (206, true)), (some 207))]⟩⟩,
    ⟨17, 131071, [], ⟨(some 210), (.call (.func 14) [(.tmp 207), (.tmp 209)]), (some (206, true)), []⟩⟩,
    ⟨18, 262143, [], ⟨(some 211), (.pick (.tmp 206) (.tmp 210) (.const (.bool false))), none, []⟩⟩,
    ⟨19, 524287, [], ⟨(some 0), (.move (.tmp 211)), none, []⟩⟩]))
  .ret)))))))))))))
theorem t9 : trF Tryd.prog Tryd.f9 s9 = some s9 := by kernel_rfl
theorem k9 : okS s9 = true := by kernel_rfl
theorem r9 : resT Tryd.prog Tryd.f9.results.toList = some [.t 0] := by kernel_rfl

def s10 : S :=
  (.seq (.keep [2, 3, 4] (.ops [⟨(some 2), (.box (.tmp 0)), none, []⟩,
    ⟨(some 3), (.box (.tmp 1)), none, []⟩,
    ⟨(some 4), (.alloc (.agg #[(.int .i64 0), (.int .i64 0), (.int .i64 0), (.int .i64 0), (.int .i64 0), (.int .i64 0), (.int .i64 0), (.string ⟨#[]⟩), (.bool false)])), none, []⟩,
    ⟨(some 5), (.move (.const (.bool false))), none, []⟩]))
  (.seq (.keep [2, 3, 4] (.seq (.keep [2, 3, 4, 24] (.ops [⟨(some 13), (.fieldAddr 0 (.tmp 2)), none, []⟩,
    ⟨(some 14), (.load (some 16) (.tmp 13)), none, []⟩,
    ⟨(some 15), (.fieldAddr 0 (.tmp 3)), none, []⟩,
    ⟨(some 16), (.load (some 16) (.tmp 15)), none, []⟩,
    ⟨(some 17), (.eqAgg true (List.replicate 16 (.int .u8)) (.tmp 14) (.tmp 16)), none, []⟩,
    ⟨(some 18), (.move (.tmp 17)), none, []⟩,
    ⟨(some 19), (.fieldAddr 16 (.tmp 2)), (some (18, false)), []⟩,
    ⟨(some 20), (.load none (.tmp 19)), (some (18, false)), []⟩,
    ⟨(some 21), (.fieldAddr 16 (.tmp 3)), (some (18, false)), []⟩,
    ⟨(some 22), (.load none (.tmp 21)), (some (18, false)), []⟩,
    ⟨(some 23), (.bin .neq (.tmp 20) (.tmp 22)), (some (18, false)), []⟩,
    ⟨(some 24), (.pick (.tmp 18) (.const (.bool true)) (.tmp 23)), none, []⟩]))
  (.cond (.tmp 24)
    (.seq (.keep [4, 5] (.ops [⟨(some 25), (.build [(.int .i64 0), (.int .i64 0), (.int .i64 0), (.int .i64 0), (.int .i64 0), (.int .i64 0), (.int .i64 0), (.string ⟨#[]⟩), (.bool false)] [(8, 1, (.const (.bool true)))]), none, []⟩,
      ⟨none, (.store 9 (.tmp 4) (.tmp 25)), none, []⟩,
      ⟨(some 5), (.move (.const (.bool false))), none, []⟩]))
    .ret)
    .skip)))
  (.seq (.keep [4, 6, 7] (.draw [0, 1, 3, 0, 8, 24, 7, 127] [⟨0, 0, [], ⟨(some 26), (.load (some 19) (.tmp 2)), none, []⟩⟩,
    ⟨1, 1, [], ⟨(some 27), (.build [(.int .u8 0), (.int .u8 0), (.int .u8 0), (.int .u8 0), (.int .u8 0), (.int .u8 0), (.int .u8 0), (.int .u8 0), (.int .u8 0), (.int .u8 0), (.int .u8 0), (.int .u8 0), (.int .u8 0), (.int .u8 0), (.int .u8 0), (.int .u8 0), (.int .i64 0), (.slice none 0 0), (.slice none 0 0), (.int .i64 0), (.int .i64 0)] [(0, 19, (.tmp 26))]), none, []⟩⟩,
    ⟨2, 3, [], ⟨(some 28), (.box (.tmp 27)), none, []⟩⟩,
    ⟨3, 0, [], ⟨(some 29), (.load (some 19) (.tmp 3)), none, []⟩⟩,
    ⟨4, 8, [], ⟨(some 30), (.build [(.int .u8 0), (.int .u8 0), (.int .u8 0), (.int .u8 0), (.int .u8 0), (.int .u8 0), (.int .u8 0), (.int .u8 0), (.int .u8 0), (.int .u8 0), (.int .u8 0), (.int .u8 0), (.int .u8 0), (.int .u8 0), (.int .u8 0), (.int .u8 0), (.int .i64 0), (.slice none 0 0), (.slice none 0 0), (.int .i64 0), (.int .i64 0)] [(0, 19, (.tmp 29))]), none, []⟩⟩,
    ⟨5, 24, [], ⟨(some 31), (.box (.tmp 30)), none, []⟩⟩,
    ⟨6, 7, [], ⟨(some 6), (.move (.tmp 28)), none, []⟩⟩,
    ⟨7, 127, [], ⟨(some 7), (.move (.tmp 31)), none, []⟩⟩]))
  (.block 0
    (.loop
      (.keep [4, 6, 7] (.block 1
        (.seq (.keep [4, 6, 7, 8, 9] (.ops [⟨(some 33), (.move (.tmp 6)), none, []⟩,
          ⟨(some 34), (.call (.func 24) [(.tmp 33)]), none, []⟩,
          ⟨(some 32), (.move (.tmp 34)), none, []⟩,
          ⟨(some 35), (.extract (.tmp 32) 0), none, []⟩,
          ⟨(some 36), (.extract (.tmp 32) 1), none, []⟩,
          ⟨(some 8), (.alloc (.agg #[(.int .i64 0), (.int .i64 0), (.int .i64 0), (.int .i64 0), (.string ⟨#[]⟩)])), none, []⟩,
          ⟨none, (.store 5 (.tmp 8) (.tmp 35)), none, []⟩,
          ⟨(some 9), (.move (.tmp 36)), none, []⟩]))
        (.seq (.keep [4, 6, 7, 8, 9, 10, 11] (.ops [⟨(some 38), (.move (.tmp 7)), none, []⟩,
          ⟨(some 39), (.call (.func 24) [(.tmp 38)]), none, []⟩,
          ⟨(some 37), (.move (.tmp 39)), none, []⟩,
          ⟨(some 40), (.extract (.tmp 37) 0), none, []⟩,
          ⟨(some 41), (.extract (.tmp 37) 1), none, []⟩,
          ⟨(some 10), (.alloc (.agg #[(.int .i64 0), (.int .i64 0), (.int .i64 0), (.int .i64 0), (.string ⟨#[]⟩)])), none, []⟩,
          ⟨none, (.store 5 (.tmp 10) (.tmp 40)), none, []⟩,
          ⟨(some 11), (.move (.tmp 41)), none, []⟩]))
        (.block 2
          (.seq (.keep [4, 6, 7, 8, 10, 11, 52] (.ops [⟨(some 53), (.move (.tmp 9)), none, []⟩,
            ⟨(some 54), (.un .not (.tmp 53)), none, []⟩,
            ⟨(some 52), (.move (.tmp 54)), none, []⟩]))
          (.cond (.tmp 52)
            (.seq (.keep [4, 5] (.ops [⟨(some 55), (.build [(.int .i64 0), (.int .i64 0), (.int .i64 0), (.int .i64 0), (.int .i64 0), (.int .i64 0), (.int .i64 0), (.string ⟨#[]⟩), (.bool false)] []), none, []⟩,
              ⟨none, (.store 9 (.tmp 4) (.tmp 55)), none, []⟩,
              ⟨(some 5), (.move (.const (.bool true))), none, []⟩]))
            .ret)
            (.seq (.keep [4, 6, 7, 8, 10, 11, 56] (.ops [⟨(some 57), (.move (.tmp 11)), none, []⟩,
              ⟨(some 58), (.move (.tmp 57)), none, []⟩,
              ⟨(some 59), (.load (some 5) (.tmp 8)), (some (58, true)), []⟩,
              ⟨(some 60), (.call (.func 25) [(.tmp 59)]), (some (58, true)), []⟩,
              ⟨(some 61), (.pick (.tmp 58) (.tmp 60) (.const (.bool false))), none, []⟩,
              ⟨(some 62), (.move (.tmp 61)), none, []⟩,
              ⟨(some 63), (.load (some 5) (.tmp 10)), (some (62, true)), []⟩,
              ⟨(some 64), (.call (.func 25) [(.tmp 63)]), (some (62, true)), []⟩,
              ⟨(some 65), (.pick (.tmp 62) (.tmp 64) (.const (.bool false))), none, []⟩,
              ⟨(some 66), (.move (.tmp 65)), none, []⟩,
              ⟨(some 67), (.fieldAddr 1 (.tmp 8)), (some (66, true)), []⟩,
              ⟨(some 68), (.load none (.tmp 67)), (some (66, true)), []⟩,
              ⟨(some 69), (.fieldAddr 1 (.tmp 10)), (some (66, true)), []⟩,
              ⟨(some 70), (.load none (.tmp 69)), (some (66, true)), []⟩,
              ⟨(some 71), (.bin .eql (.tmp 68) (.tmp 70)), (some (66, true)), []⟩,
              ⟨(some 72), (.pick (.tmp 66) (.tmp 71) (.const (.bool false))), none, []⟩,
              ⟨(some 56), (.move (.tmp 72)), none, []⟩]))
            (.cond (.tmp 56)
              (.seq (.keep [4, 6, 7, 12] (.draw [0, 1, 0, 4, 12, 28, 63, 0, 128, 0, 512, 1536, 3584, 8064, 16383, 32767] [⟨0, 0, [], ⟨(some 73), (.fieldAddr 3 (.tmp 8)), none, []⟩⟩,
                ⟨1, 1, [], ⟨(some 74), (.load none (.tmp 73)), none, []⟩⟩,
                ⟨2, 0, [], ⟨(some 75), (.move (.tmp 6)), none, []⟩⟩,
                ⟨3, 4, [], ⟨(some 76), (.nilCheck (.tmp 75)), none, []⟩⟩,
                ⟨4, 12, [], ⟨(some 77), (.fieldAddr 20 (.tmp 76)), none, []⟩⟩,
                ⟨5, 28, [], ⟨(some 78), (.load none (.tmp 77)), none, []⟩⟩,
                ⟨6, 63, [], ⟨(some 79), (.bin .sub (.tmp 74) (.tmp 78)), none, []⟩⟩,
                ⟨7, 0, [], ⟨(some 80), (.fieldAddr 3 (.tmp 10)), none, []⟩⟩,
                ⟨8, 128, [], ⟨(some 81), (.load none (.tmp 80)), none, []⟩⟩,
                ⟨9, 0, [], ⟨(some 82), (.move (.tmp 7)), none, []⟩⟩,
                ⟨10, 512, [], ⟨(some 83), (.nilCheck (.tmp 82)), none, []⟩⟩,
                ⟨11, 1536, [], ⟨(some 84), (.fieldAddr 20 (.tmp 83)), none, []⟩⟩,
                ⟨12, 3584, [], ⟨(some 85), (.load none (.tmp 84)), none, []⟩⟩,
                ⟨13, 8064, [], ⟨(some 86), (.bin .sub (.tmp 81) (.tmp 85)), none, []⟩⟩,
                ⟨14, 16383, [], ⟨(some 87), (.minmax false [(.tmp 79), (.tmp 86)]), none, []⟩⟩,
                ⟨15, 32767, [], ⟨(some 12), (.move (.tmp 87)), none, []⟩⟩]))
              (.seq (.keep [4, 6, 7, 12] (.ops [⟨(some 88), (.move (.tmp 6)), none, []⟩,
                ⟨(some 89), (.move (.tmp 12)), none, []⟩,
                ⟨(some 90), (.call (.func 26) [(.tmp 88), (.tmp 89)]), none, []⟩]))
              (.ops [⟨(some 91), (.move (.tmp 7)), none, []⟩,
                ⟨(some 92), (.move (.tmp 12)), none, []⟩,
                ⟨(some 93), (.call (.func 26) [(.tmp 91), (.tmp 92)]), none, []⟩])))
              (.seq (.keep [4, 6, 7, 8, 10, 11, 94] (.ops [⟨(some 95), (.move (.tmp 11)), none, []⟩,
                ⟨(some 96), (.move (.tmp 95)), none, []⟩,
                ⟨(some 97), (.load (some 5) (.tmp 8)), (some (96, true)), []⟩,
                ⟨(some 98), (.call (.func 25) [(.tmp 97)]), (some (96, true)), []⟩,
                ⟨(some 99), (.un .not (.tmp 98)), (some (96, true)), []⟩,
                ⟨(some 100), (.pick (.tmp 96) (.tmp 99) (.const (.bool false))), none, []⟩,
                ⟨(some 101), (.move (.tmp 100)), none, []⟩,
                ⟨(some 102), (.load (some 5) (.tmp 8)), (some (101, true)), []⟩,
                ⟨(some 103), (.load (some 5) (.tmp 10)), (some (101, true)), []⟩,
                ⟨(some 104), (.eqAgg false [(.int .i64), (.int .i64), (.int .i64), (.int .i64), .string] (.tmp 102) (.tmp 103)), (some (101, true)), []⟩,
                ⟨(some 105), (.pick (.tmp 101) (.tmp 104) (.const (.bool false))), none, []⟩,
                ⟨(some 94), (.move (.tmp 105)), none, []⟩]))
              (.cond (.tmp 94)
                (.seq (.keep [4, 6, 7] (.ops [⟨(some 106), (.move (.tmp 6)), none, []⟩,
                  ⟨(some 107), (.call (.func 26) [(.tmp 106), (.const (.int .i64 0))]), none, []⟩]))
                (.ops [⟨(some 108), (.move (.tmp 7)), none, []⟩,
                  ⟨(some 109), (.call (.func 26) [(.tmp 108), (.const (.int .i64 0))]), none, []⟩]))
                (.seq (.keep [4, 6, 7, 8, 10, 110] (.ops [⟨(some 111), (.move (.tmp 11)), none, []⟩,
                  ⟨(some 112), (.move (.tmp 111)), none, []⟩,
                  ⟨(some 113), (.load (some 5) (.tmp 8)), (some (112, true)), []⟩,
                  ⟨(some 114), (.call (.func 25) [(.tmp 113)]), (some (112, true)), []⟩,
                  ⟨(some 115), (.pick (.tmp 112) (.tmp 114) (.const (.bool false))), none, []⟩,
                  ⟨(some 116), (.move (.tmp 115)), none, []⟩,
                  ⟨(some 117), (.load (some 5) (.tmp 10)), (some (116, true)), []⟩,
                  ⟨(some 118), (.call (.func 25) [(.tmp 117)]), (some (116, true)), []⟩,
                  ⟨(some 119), (.un .not (.tmp 118)), (some (116, true)), []⟩,
                  ⟨(some 120), (.pick (.tmp 116) (.tmp 119) (.const (.bool false))), none, []⟩,
                  ⟨(some 110), (.move (.tmp 120)), none, []⟩]))
                (.cond (.tmp 110)
                  (.seq (.keep [4, 5] (.draw [0, 1, 3, 7, 0, 16, 48, 112, 0, 511, 1023, 2047] [⟨0, 0, [], ⟨(some 121), (.move (.tmp 6)), none, []⟩⟩,
                    ⟨1, 1, [], ⟨(some 122), (.nilCheck (.tmp 121)), none, []⟩⟩,
                    ⟨2, 3, [], ⟨(some 123), (.fieldAddr 19 (.tmp 122)), none, []⟩⟩,
                    ⟨3, 7, [], ⟨(some 124), (.load none (.tmp 123)), none, []⟩⟩,
                    ⟨4, 0, [], ⟨(some 125), (.move (.tmp 7)), none, []⟩⟩,
                    ⟨5, 16, [], ⟨(some 126), (.nilCheck (.tmp 125)), none, []⟩⟩,
                    ⟨6, 48, [], ⟨(some 127), (.fieldAddr 19 (.tmp 126)), none, []⟩⟩,
                    ⟨7, 112, [], ⟨(some 128), (.load none (.tmp 127)), none, []⟩⟩,
                    ⟨8, 0, [], ⟨(some 129), (.load (some 5) (.tmp 10)), none, []⟩⟩,
                    ⟨9, 511, [], ⟨(some 130), (.build [(.int .i64 0), (.int .i64 0), (.int .i64 0), (.int .i64 0), (.int .i64 0), (.int .i64 0), (.int .i64 0), (.string ⟨#[]⟩), (.bool false)] [(1, 1, (.tmp 124)), (2, 1, (.tmp 128)), (3, 5, (.tmp 129)), (8, 1, (.const (.bool true)))]), none, []⟩⟩,
                    ⟨10, 1023, [], ⟨none, (.store 9 (.tmp 4) (.tmp 130)), none, []⟩⟩,
                    ⟨11, 2047, [], ⟨(some 5), (.move (.const (.bool false))), none, []⟩⟩]))
                  .ret)
                  (.seq (.keep [4, 5] (.draw [0, 1, 3, 7, 0, 16, 48, 112, 0, 511, 1023, 2047] [⟨0, 0, [], ⟨(some 42), (.move (.tmp 6)), none, []⟩⟩,
                    ⟨1, 1, [], ⟨(some 43), (.nilCheck (.tmp 42)), none, []⟩⟩,
                    ⟨2, 3, [], ⟨(some 44), (.fieldAddr 19 (.tmp 43)), none, []⟩⟩,
                    ⟨3, 7, [], ⟨(some 45), (.load none (.tmp 44)), none, []⟩⟩,
                    ⟨4, 0, [], ⟨(some 46), (.move (.tmp 7)), none, []⟩⟩,
                    ⟨5, 16, [], ⟨(some 47), (.nilCheck (.tmp 46)), none, []⟩⟩,
                    ⟨6, 48, [], ⟨(some 48), (.fieldAddr 19 (.tmp 47)), none, []⟩⟩,
                    ⟨7, 112, [], ⟨(some 49), (.load none (.tmp 48)), none, []⟩⟩,
                    ⟨8, 0, [], ⟨(some 50), (.load (some 5) (.tmp 8)), none, []⟩⟩,
                    ⟨9, 511, [], ⟨(some 51), (.build [(.int .i64 0), (.int .i64 0), (.int .i64 0), (.int .i64 0), (.int .i64 0), (.int .i64 0), (.int .i64 0), (.string ⟨#[]⟩), (.bool false)] [(1, 1, (.tmp 45)), (2, 1, (.tmp 49)), (3, 5, (.tmp 50))]), none, []⟩⟩,
                    ⟨10, 1023, [], ⟨none, (.store 9 (.tmp 4) (.tmp 51)), none, []⟩⟩,
                    ⟨11, 2047, [], ⟨(some 5), (.move (.const (.bool false))), none, []⟩⟩]))
                  .ret)))))))))))))))))))
theorem t10 : trF Tryd.prog Tryd.f10 s10 = some s10 := by kernel_rfl
theorem k10 : okS s10 = true := by kernel_rfl
theorem r10 : resT Tryd.prog Tryd.f10.results.toList = some [.c 4 (some 9), .t 5] := by kernel_rfl

def s11 : S :=
  (.seq (.keep [2, 3, 4] (.ops [⟨(some 2), (.box (.tmp 0)), none, []⟩,
    ⟨(some 3), (.box (.tmp 1)), none, []⟩,
    ⟨(some 4), (.alloc (.agg #[(.int .u8 0), (.int .u8 0), (.int .u8 0), (.int .u8 0), (.int .u8 0), (.int .u8 0), (.int .u8 0), (.int .u8 0), (.int .u8 0), (.int .u8 0), (.int .u8 0), (.int .u8 0), (.int .u8 0), (.int .u8 0), (.int .u8 0), (.int .u8 0), (.int .i64 0), (.slice none 0 0), (.slice none 0 0)])), none, []⟩,
    ⟨(some 5), (.move (.const (.int .i64 0))), none, []⟩]))
  (.seq (.keep [2, 3, 4] (.seq (.keep [2, 3, 4, 22] (.ops [⟨(some 6), (.load none (.tmp 3)), none, []⟩,
    ⟨(some 7), (.bin .lss (.tmp 6) (.const (.int .i64 0))), none, []⟩,
    ⟨(some 8), (.move (.tmp 7)), none, []⟩,
    ⟨(some 9), (.load none (.tmp 3)), (some (8, false)), []⟩,
    ⟨(some 10), (.fieldAddr 17 (.tmp 2)), (some (8, false)), []⟩,
    ⟨(some 11), (.load none (.tmp 10)), (some (8, false)), []⟩,
    ⟨(some 12), (.len (.tmp 11)), (some (8, false)), []⟩,
    ⟨(some 13), (.bin .geq (.tmp 9) (.tmp 12)), (some (8, false)), []⟩,
    ⟨(some 14), (.pick (.tmp 8) (.const (.bool true)) (.tmp 13)), none, []⟩,
    ⟨(some 15), (.move (.tmp 14)), none, []⟩,
    ⟨(some 16), (.fieldAddr 17 (.tmp 2)), (some (15, false)), []⟩,
    ⟨(some 17), (.load none (.tmp 16)), (some (15, false)), []⟩,
    ⟨(some 18), (.load none (.tmp 3)), (some (15, false)), []⟩,
    ⟨(some 19), (.indexAddr 5 (.tmp 17) (.tmp 18)), (some (15, false)), []⟩,
    ⟨(some 20), (.load (some 5) (.tmp 19)), (some (15, false)), []⟩,
    ⟨(some 21), (.call (.func 25) [(.tmp 20)]), (some (15, false)), []⟩,
    ⟨(some 22), (.pick (.tmp 15) (.const (.bool true)) (.tmp 21)), none, []⟩]))
  (.cond (.tmp 22)
    (.seq (.keep [4, 5] (.ops [⟨(some 23), (.build [(.int .u8 0), (.int .u8 0), (.int .u8 0), (.int .u8 0), (.int .u8 0), (.int .u8 0), (.int .u8 0), (.int .u8 0), (.int .u8 0), (.int .u8 0), (.int .u8 0), (.int .u8 0), (.int .u8 0), (.int .u8 0), (.int .u8 0), (.int .u8 0), (.int .i64 0), (.slice none 0 0), (.slice none 0 0)] []), none, []⟩,
      ⟨none, (.store 19 (.tmp 4) (.tmp 23)), none, []⟩,
      ⟨(some 5), (.move (.const (.int .i64 1))), none, []⟩]))
    .ret)
    .skip)))
  (.seq (.keep [2, 3, 4] (.ops [⟨(some 24), (.fieldAddr 17 (.tmp 2)), none, []⟩,
    ⟨(some 25), (.load none (.tmp 24)), none, []⟩,
    ⟨(some 26), (.makeFunc (.func 28) [] [(.tmp 3)]), none, []⟩,
    ⟨(some 27), (.call (.func 27) [(.tmp 25), (.tmp 26)]), none, []⟩,
    ⟨(some 28), (.fieldAddr 17 (.tmp 2)), none, []⟩,
    ⟨none, (.store 1 (.tmp 28) (.tmp 27)), none, []⟩]))
  (.seq (.keep [2, 4] (.ops [⟨(some 29), (.fieldAddr 18 (.tmp 2)), none, []⟩,
    ⟨(some 30), (.load none (.tmp 29)), none, []⟩,
    ⟨(some 31), (.makeFunc (.func 30) [] [(.tmp 3)]), none, []⟩,
    ⟨(some 32), (.call (.func 29) [(.tmp 30), (.tmp 31)]), none, []⟩,
    ⟨(some 33), (.fieldAddr 18 (.tmp 2)), none, []⟩,
    ⟨none, (.store 1 (.tmp 33) (.tmp 32)), none, []⟩]))
  (.seq (.keep [4, 5] (.ops [⟨(some 34), (.load (some 19) (.tmp 2)), none, []⟩,
    ⟨none, (.store 19 (.tmp 4) (.tmp 34)), none, []⟩,
    ⟨(some 5), (.move (.const (.int .i64 0))), none, []⟩]))
  .ret)))))
theorem t11 : trF Tryd.prog Tryd.f11 s11 = some s11 := by kernel_rfl
theorem k11 : okS s11 = true := by kernel_rfl
theorem r11 : resT Tryd.prog Tryd.f11.results.toList = some [.c 4 (some 19), .t 5] := by kernel_rfl

def s12 : S :=
  (.seq (.keep [2, 3, 4] (.ops [⟨(some 2), (.box (.tmp 0)), none, []⟩,
    ⟨(some 3), (.box (.tmp 1)), none, []⟩,
    ⟨(some 4), (.alloc (.agg #[(.int .i64 0), (.int .i64 0), (.int .i64 0), (.int .i64 0), (.int .i64 0), (.int .i64 0), (.int .i64 0), (.string ⟨#[]⟩), (.bool false), (.bool false)])), none, []⟩]))
  (.seq (.keep [2, 3, 4] (.seq (.keep [2, 3, 4, 23] (.ops [⟨(some 12), (.fieldAddr 0 (.tmp 2)), none, []⟩,
    ⟨(some 13), (.load (some 16) (.tmp 12)), none, []⟩,
    ⟨(some 14), (.fieldAddr 0 (.tmp 3)), none, []⟩,
    ⟨(some 15), (.load (some 16) (.tmp 14)), none, []⟩,
    ⟨(some 16), (.eqAgg true (List.replicate 16 (.int .u8)) (.tmp 13) (.tmp 15)), none, []⟩,
    ⟨(some 17), (.move (.tmp 16)), none, []⟩,
    ⟨(some 18), (.fieldAddr 16 (.tmp 2)), (some (17, false)), []⟩,
    ⟨(some 19), (.load none (.tmp 18)), (some (17, false)), []⟩,
    ⟨(some 20), (.fieldAddr 16 (.tmp 3)), (some (17, false)), []⟩,
    ⟨(some 21), (.load none (.tmp 20)), (some (17, false)), []⟩,
    ⟨(some 22), (.bin .neq (.tmp 19) (.tmp 21)), (some (17, false)), []⟩,
    ⟨(some 23), (.pick (.tmp 17) (.const (.bool true)) (.tmp 22)), none, []⟩]))
  (.cond (.tmp 23)
    (.seq (.keep [4] (.ops [⟨(some 24), (.build [(.int .i64 0), (.int .i64 0), (.int .i64 0), (.int .i64 0), (.int .i64 0), (.int .i64 0), (.int .i64 0), (.string ⟨#[]⟩), (.bool false)] [(8, 1, (.const (.bool true)))]), none, []⟩,
      ⟨(some 25), (.build [(.int .i64 0), (.int .i64 0), (.int .i64 0), (.int .i64 0), (.int .i64 0), (.int .i64 0), (.int .i64 0), (.string ⟨#[]⟩), (.bool false), (.bool false)] [(0, 9, (.tmp 24))]), none, []⟩,
      ⟨none, (.store 10 (.tmp 4) (.tmp 25)), none, []⟩]))
    .ret)
    .skip)))
  (.seq (.keep [2, 3, 4, 5] (.ops [⟨(some 5), (.move (.const (.int .i64 0))), none, []⟩]))
  (.seq (.keep [2, 3, 4, 5, 6] (.ops [⟨(some 6), (.move (.const (.int .i64 0))), none, []⟩]))
  (.seq (.keep [2, 3, 4, 5, 6, 7] (.ops [⟨(some 7), (.move (.const (.int .i64 0))), none, []⟩]))
  (.seq (.keep [2, 3, 4, 5, 6, 7, 8] (.ops [⟨(some 8), (.move (.const (.int .i64 0))), none, []⟩]))
  (.seq (.keep [4] (.block 0
    (.loop
      (.keep [2, 3, 4, 5, 6, 7, 8] (.seq (.keep [2, 3, 4, 5, 6, 7, 8] (.seq (.keep [2, 3, 4, 5, 6, 7, 8, 30] (.ops [⟨(some 26), (.move (.tmp 5)), none, []⟩,
        ⟨(some 27), (.fieldAddr 17 (.tmp 2)), none, []⟩,
        ⟨(some 28), (.load none (.tmp 27)), none, []⟩,
        ⟨(some 29), (.len (.tmp 28)), none, []⟩,
        ⟨(some 30), (.bin .lss (.tmp 26) (.tmp 29)), none, []⟩]))
      (.cond (.tmp 30)
        .skip
        (.exit 0))))
      (.block 1
        (.seq (.keep [2, 3, 4, 5, 6, 7, 8] (.seq (.keep [2, 3, 4, 5, 6, 7, 8, 35] (.ops [⟨(some 31), (.move (.tmp 6)), none, []⟩,
          ⟨(some 32), (.fieldAddr 17 (.tmp 3)), none, []⟩,
          ⟨(some 33), (.load none (.tmp 32)), none, []⟩,
          ⟨(some 34), (.len (.tmp 33)), none, []⟩,
          ⟨(some 35), (.bin .geq (.tmp 31) (.tmp 34)), none, []⟩]))
        (.cond (.tmp 35)
          (.seq (.keep [4] (.ops [⟨(some 36), (.load (some 19) (.tmp 2)), none, []⟩,
            ⟨(some 37), (.load (some 19) (.tmp 3)), none, []⟩,
            ⟨(some 38), (.move (.tmp 5)), none, []⟩,
            ⟨(some 39), (.move (.tmp 6)), none, []⟩,
            ⟨(some 40), (.call (.func 31) [(.tmp 36), (.tmp 37), (.tmp 38), (.tmp 39)]), none, []⟩,
            ⟨none, (.store 10 (.tmp 4) (.tmp 40)), none, []⟩]))
          .ret)
          .skip)))
        (.seq (.keep [2, 3, 4, 5, 6, 7, 8, 9] (.ops [⟨(some 41), (.fieldAddr 17 (.tmp 2)), none, []⟩,
          ⟨(some 42), (.load none (.tmp 41)), none, []⟩,
          ⟨(some 43), (.move (.tmp 5)), none, []⟩,
          ⟨(some 44), (.indexAddr 5 (.tmp 42) (.tmp 43)), none, []⟩,
          ⟨(some 45), (.load (some 5) (.tmp 44)), none, []⟩,
          ⟨(some 9), (.alloc (.agg #[(.int .i64 0), (.int .i64 0), (.int .i64 0), (.int .i64 0), (.string ⟨#[]⟩)])), none, []⟩,
          ⟨none, (.store 5 (.tmp 9) (.tmp 45)), none, []⟩]))
        (.seq (.keep [2, 3, 4, 5, 6, 7, 8, 9, 10] (.ops [⟨(some 46), (.fieldAddr 17 (.tmp 3)), none, []⟩,
          ⟨(some 47), (.load none (.tmp 46)), none, []⟩,
          ⟨(some 48), (.move (.tmp 6)), none, []⟩,
          ⟨(some 49), (.indexAddr 5 (.tmp 47) (.tmp 48)), none, []⟩,
          ⟨(some 50), (.load (some 5) (.tmp 49)), none, []⟩,
          ⟨(some 10), (.alloc (.agg #[(.int .i64 0), (.int .i64 0), (.int .i64 0), (.int .i64 0), (.string ⟨#[]⟩)])), none, []⟩,
          ⟨none, (.store 5 (.tmp 10) (.tmp 50)), none, []⟩]))
        (.seq (.keep [2, 3, 4, 5, 6, 7, 8, 9, 10] (.seq (.keep [2, 3, 4, 5, 6, 7, 8, 9, 10, 63] (.ops [⟨(some 51), (.load (some 5) (.tmp 9)), none, []⟩,
          ⟨(some 52), (.call (.func 32) [(.tmp 51)]), none, []⟩,
          ⟨(some 53), (.move (.tmp 52)), none, []⟩,
          ⟨(some 54), (.load (some 5) (.tmp 10)), (some (53, true)), []⟩,
          ⟨(some 55), (.call (.func 32) [(.tmp 54)]), (some (53, true)), []⟩,
          ⟨(some 56), (.pick (.tmp 53) (.tmp 55) (.const (.bool false))), none, []⟩,
          ⟨(some 57), (.move (.tmp 56)), none, []⟩,
          ⟨(some 58), (.fieldAddr 1 (.tmp 9)), (some (57, true)), []⟩,
          ⟨(some 59), (.load none (.tmp 58)), (some (57, true)), []⟩,
          ⟨(some 60), (.fieldAddr 1 (.tmp 10)), (some (57, true)), []⟩,
          ⟨(some 61), (.load none (.tmp 60)), (some (57, true)), []⟩,
          ⟨(some 62), (.bin .eql (.tmp 59) (.tmp 61)), (some (57, true)), []⟩,
          ⟨(some 63), (.pick (.tmp 57) (.tmp 62) (.const (.bool false))), none, []⟩]))
        (.cond (.tmp 63)
          (.seq (.keep [2, 3, 4, 5, 6, 7, 8, 9, 10, 11] (.ops [⟨(some 64), (.fieldAddr 3 (.tmp 9)), none, []⟩,
            ⟨(some 65), (.load none (.tmp 64)), none, []⟩,
            ⟨(some 66), (.move (.tmp 7)), none, []⟩,
            ⟨(some 67), (.bin .sub (.tmp 65) (.tmp 66)), none, []⟩,
            ⟨(some 68), (.fieldAddr 3 (.tmp 10)), none, []⟩,
            ⟨(some 69), (.load none (.tmp 68)), none, []⟩,
            ⟨(some 70), (.move (.tmp 8)), none, []⟩,
            ⟨(some 71), (.bin .sub (.tmp 69) (.tmp 70)), none, []⟩,
            ⟨(some 72), (.minmax false [(.tmp 67), (.tmp 71)]), none, []⟩,
            ⟨(some 11), (.move (.tmp 72)), none, []⟩]))
          (.seq (.keep [2, 3, 4, 5, 6, 7, 8, 9, 10, 11] (.ops [⟨(some 73), (.move (.tmp 7)), none, []⟩,
            ⟨(some 74), (.move (.tmp 11)), none, []⟩,
            ⟨(some 75), (.bin .add (.tmp 73) (.tmp 74)), none, []⟩,
            ⟨(some 7), (.move (.tmp 75)), none, []⟩]))
          (.seq (.keep [2, 3, 4, 5, 6, 7, 8, 9, 10] (.ops [⟨(some 76), (.move (.tmp 8)), none, []⟩,
            ⟨(some 77), (.move (.tmp 11)), none, []⟩,
            ⟨(some 78), (.bin .add (.tmp 76) (.tmp 77)), none, []⟩,
            ⟨(some 8), (.move (.tmp 78)), none, []⟩]))
          (.seq (.keep [2, 3, 4, 5, 6, 7, 8, 10] (.seq (.keep [2, 3, 4, 5, 6, 7, 8, 10, 82] (.ops [⟨(some 79), (.move (.tmp 7)), none, []⟩,
            ⟨(some 80), (.fieldAddr 3 (.tmp 9)), none, []⟩,
            ⟨(some 81), (.load none (.tmp 80)), none, []⟩,
            ⟨(some 82), (.bin .eql (.tmp 79) (.tmp 81)), none, []⟩]))
          (.cond (.tmp 82)
            (.seq (.keep [2, 3, 4, 5, 6, 8, 10] (.ops [⟨(some 83), (.move (.tmp 5)), none, []⟩,
              ⟨(some 84), (.bin .add (.tmp 83) (.const (.int .i64 1))), none, []⟩,
              ⟨(some 5), (.move (.tmp 84)), none, []⟩]))
            (.ops [⟨(some 7), (.move (.const (.int .i64 0))), none, []⟩]))
            .skip)))
          (.seq (.keep [2, 3, 4, 5, 6, 7, 8] (.seq (.keep [2, 3, 4, 5, 6, 7, 8, 88] (.ops [⟨(some 85), (.move (.tmp 8)), none, []⟩,
            ⟨(some 86), (.fieldAddr 3 (.tmp 10)), none, []⟩,
            ⟨(some 87), (.load none (.tmp 86)), none, []⟩,
            ⟨(some 88), (.bin .eql (.tmp 85) (.tmp 87)), none, []⟩]))
          (.cond (.tmp 88)
            (.seq (.keep [2, 3, 4, 5, 6, 7] (.ops [⟨(some 89), (.move (.tmp 6)), none, []⟩,
              ⟨(some 90), (.bin .add (.tmp 89) (.const (.int .i64 1))), none, []⟩,
              ⟨(some 6), (.move (.tmp 90)), none, []⟩]))
            (.ops [⟨(some 8), (.move (.const (.int .i64 0))), none, []⟩]))
            .skip)))
          (.exit 1))))))
          .skip)))
        (.seq (.keep [2, 3, 4, 5, 6, 7, 8] (.seq (.keep [2, 3, 4, 5, 6, 7, 8, 101] (.ops [⟨(some 91), (.load (some 5) (.tmp 9)), none, []⟩,
          ⟨(some 92), (.call (.func 32) [(.tmp 91)]), none, []⟩,
          ⟨(some 93), (.move (.tmp 92)), none, []⟩,
          ⟨(some 94), (.load (some 5) (.tmp 10)), (some (93, false)), []⟩,
          ⟨(some 95), (.call (.func 32) [(.tmp 94)]), (some (93, false)), []⟩,
          ⟨(some 96), (.pick (.tmp 93) (.const (.bool true)) (.tmp 95)), none, []⟩,
          ⟨(some 97), (.move (.tmp 96)), none, []⟩,
          ⟨(some 98), (.load (some 5) (.tmp 9)), (some (97, false)), []⟩,
          ⟨(some 99), (.load (some 5) (.tmp 10)), (some (97, false)), []⟩,
          ⟨(some 100), (.eqAgg true [(.int .i64), (.int .i64), (.int .i64), (.int .i64), .string] (.tmp 98) (.tmp 99)), (some (97, false)), []⟩,
          ⟨(some 101), (.pick (.tmp 97) (.const (.bool true)) (.tmp 100)), none, []⟩]))
        (.cond (.tmp 101)
          (.seq (.keep [4] (.ops [⟨(some 102), (.load (some 19) (.tmp 2)), none, []⟩,
            ⟨(some 103), (.load (some 19) (.tmp 3)), none, []⟩,
            ⟨(some 104), (.move (.tmp 5)), none, []⟩,
            ⟨(some 105), (.move (.tmp 6)), none, []⟩,
            ⟨(some 106), (.call (.func 31) [(.tmp 102), (.tmp 103), (.tmp 104), (.tmp 105)]), none, []⟩,
            ⟨none, (.store 10 (.tmp 4) (.tmp 106)), none, []⟩]))
          .ret)
          .skip)))
        (.seq (.keep [2, 3, 4, 5, 6, 7, 8] (.ops [⟨(some 107), (.move (.tmp 5)), none, []⟩,
          ⟨(some 108), (.bin .add (.tmp 107) (.const (.int .i64 1))), none, []⟩,
          ⟨(some 5), (.move (.tmp 108)), none, []⟩]))
        (.ops [⟨(some 109), (.move (.tmp 6)), none, []⟩,
          ⟨(some 110), (.bin .add (.tmp 109) (.const (.int .i64 1))), none, []⟩,
          ⟨(some 6), (.move (.tmp 110)), none, []⟩])))))))))))))
  (.seq (.keep [4] (.ops [⟨(some 111), (.build [(.int .i64 0), (.int .i64 0), (.int .i64 0), (.int .i64 0), (.int .i64 0), (.int .i64 0), (.int .i64 0), (.string ⟨#[]⟩), (.bool false), (.bool false)] [(9, 1, (.const (.bool true)))]), none, []⟩,
    ⟨none, (.store 10 (.tmp 4) (.tmp 111)), none, []⟩]))
  .ret))))))))
theorem t12 : trF Tryd.prog Tryd.f12 s12 = some s12 := by kernel_rfl
theorem k12 : okS s12 = true := by kernel_rfl
theorem r12 : resT Tryd.prog Tryd.f12.results.toList = some [.c 4 (some 10)] := by kernel_rfl

def s13 : S :=
  (.seq (.keep [1, 2, 4] (.ops [⟨(some 2), (.box (.tmp 0)), none, []⟩,
    ⟨(some 4), (.alloc (.agg #[(.int .u8 0), (.int .u8 0), (.int .u8 0), (.int .u8 0), (.int .u8 0), (.int .u8 0), (.int .u8 0), (.int .u8 0), (.int .u8 0), (.int .u8 0), (.int .u8 0), (.int .u8 0), (.int .u8 0), (.int .u8 0), (.int .u8 0), (.int .u8 0), (.int .i64 0), (.slice none 0 0), (.slice none 0 0), (.int .i64 0)])), none, []⟩]))
  (.seq (.keep [1, 2, 4] (.seq (.keep [1, 2, 4, 24] (.ops [⟨(some 8), (.move (.tmp 1)), none, []⟩,
    ⟨(some 9), (.bin .lss (.tmp 8) (.const (.int .i64 0))), none, []⟩,
    ⟨(some 10), (.move (.tmp 9)), none, []⟩,
    ⟨(some 11), (.move (.tmp 1)), (some (10, false)), []⟩,
    ⟨(some 12), (.fieldAddr 17 (.tmp 2)), (some (10, false)), []⟩,
    ⟨(some 13), (.load none (.tmp 12)), (some (10, false)), []⟩,
    ⟨(some 14), (.len (.tmp 13)), (some (10, false)), []⟩,
    ⟨(some 15), (.bin .geq (.tmp 11) (.tmp 14)), (some (10, false)), []⟩,
    ⟨(some 16), (.pick (.tmp 10) (.const (.bool true)) (.tmp 15)), none, []⟩,
    ⟨(some 17), (.move (.tmp 16)), none, []⟩,
    ⟨(some 18), (.fieldAddr 17 (.tmp 2)), (some (17, false)), []⟩,
    ⟨(some 19), (.load none (.tmp 18)), (some (17, false)), []⟩,
    ⟨(some 20), (.move (.tmp 1)), (some (17, false)), []⟩,
    ⟨(some 21), (.indexAddr 5 (.tmp 19) (.tmp 20)), (some (17, false)), []⟩,
    ⟨(some 22), (.load (some 5) (.tmp 21)), (some (17, false)), []⟩,
    ⟨(some 23), (.call (.func 32) [(.tmp 22)]), (some (17, false)), []⟩,
    ⟨(some 24), (.pick (.tmp 17) (.const (.bool true)) (.tmp 23)), none, []⟩]))
  (.cond (.tmp 24)
    (.seq (.keep [4] (.ops [⟨(some 25), (.build [(.int .u8 0), (.int .u8 0), (.int .u8 0), (.int .u8 0), (.int .u8 0), (.int .u8 0), (.int .u8 0), (.int .u8 0), (.int .u8 0), (.int .u8 0), (.int .u8 0), (.int .u8 0), (.int .u8 0), (.int .u8 0), (.int .u8 0), (.int .u8 0), (.int .i64 0), (.slice none 0 0), (.slice none 0 0), (.int .i64 0)] [(19, 1, (.const (.int .i64 1)))]), none, []⟩,
      ⟨none, (.store 20 (.tmp 4) (.tmp 25)), none, []⟩]))
    .ret)
    .skip)))
  (.seq (.keep [1, 2, 4, 5] (.ops [⟨(some 26), (.fieldAddr 0 (.tmp 2)), none, []⟩,
    ⟨(some 27), (.load (some 16) (.tmp 26)), none, []⟩,
    ⟨(some 28), (.fieldAddr 16 (.tmp 2)), none, []⟩,
    ⟨(some 29), (.load none (.tmp 28)), none, []⟩,
    ⟨(some 30), (.build [(.int .u8 0), (.int .u8 0), (.int .u8 0), (.int .u8 0), (.int .u8 0), (.int .u8 0), (.int .u8 0), (.int .u8 0), (.int .u8 0), (.int .u8 0), (.int .u8 0), (.int .u8 0), (.int .u8 0), (.int .u8 0), (.int .u8 0), (.int .u8 0), (.int .i64 0), (.slice none 0 0), (.slice none 0 0)] [(0, 16, (.tmp 27)), (16, 1, (.tmp 29))]), none, []⟩,
    ⟨(some 5), (.alloc (.agg #[(.int .u8 0), (.int .u8 0), (.int .u8 0), (.int .u8 0), (.int .u8 0), (.int .u8 0), (.int .u8 0), (.int .u8 0), (.int .u8 0), (.int .u8 0), (.int .u8 0), (.int .u8 0), (.int .u8 0), (.int .u8 0), (.int .u8 0), (.int .u8 0), (.int .i64 0), (.slice none 0 0), (.slice none 0 0)])), none, []⟩,
    ⟨none, (.store 19 (.tmp 5) (.tmp 30)), none, []⟩]))
  (.seq (.keep [1, 2, 4, 5] (.seq (.keep [1, 2, 4, 5, 6] (.ops [⟨(some 6), (.move (.const (.int .i64 0))), none, []⟩]))
  (.block 0
    (.loop
      (.keep [1, 2, 4, 5, 6] (.seq (.keep [1, 2, 4, 5, 6] (.seq (.keep [1, 2, 4, 5, 6, 35] (.ops [⟨(some 31), (.move (.tmp 6)), none, []⟩,
        ⟨(some 32), (.fieldAddr 17 (.tmp 2)), none, []⟩,
        ⟨(some 33), (.load none (.tmp 32)), none, []⟩,
        ⟨(some 34), (.len (.tmp 33)), none, []⟩,
        ⟨(some 35), (.bin .lss (.tmp 31) (.tmp 34)), none, []⟩]))
      (.cond (.tmp 35)
        .skip
        (.exit 0))))
      (.seq (.keep [1, 2, 4, 5, 6] (.block 1
        (.seq (.keep [1, 2, 4, 5, 6, 40] (.ops [⟨(some 38), (.move (.tmp 6)), none, []⟩,
          ⟨(some 39), (.move (.tmp 1)), none, []⟩,
          ⟨(some 40), (.bin .neq (.tmp 38) (.tmp 39)), none, []⟩]))
        (.cond (.tmp 40)
          (.draw [0, 1, 0, 4, 0, 28, 60, 124, 255, 511, 1023] [⟨0, 0, [], ⟨(some 41), (.fieldAddr 17 (.tmp 5)), none, []⟩⟩,
            ⟨1, 1, [], ⟨(some 42), (.load none (.tmp 41)), none, []⟩⟩,
            ⟨2, 0, [], ⟨(some 43), (.fieldAddr 17 (.tmp 2)), none, []⟩⟩,
            ⟨3, 4, [], ⟨(some 44), (.load none (.tmp 43)), none, []⟩⟩,
            ⟨4, 0, [], ⟨(some 45), (.move (.tmp 6)), none, []⟩⟩,
            ⟨5, 28, [], ⟨(some 46), (.indexAddr 5 (.tmp 44) (.tmp 45)), none, []⟩⟩,
            ⟨6, 60, [], ⟨(some 47), (.load (some 5) (.tmp 46)), none, []⟩⟩,
            ⟨7, 124, [], ⟨(some 48), (.buildSlice 1 [(.int .i64 0), (.int .i64 0), (.int .i64 0), (.int .i64 0), (.string ⟨#[]⟩)] [(0, 5, (.tmp 47))]), none, []⟩⟩,
            ⟨8, 255, [], ⟨(some 49), (.append 5 48 (.tmp 42) (.tmp 48)), none, []⟩⟩,
            ⟨9, 511, [], ⟨(some 50), (.fieldAddr 17 (.tmp 5)), none, []⟩⟩,
            ⟨10, 1023, [], ⟨none, (.store 1 (.tmp 50) (.tmp 49)), none, []⟩⟩])
          .skip))))
      (.ops [⟨(some 36), (.move (.tmp 6)), none, []⟩,
        ⟨(some 37), (.bin .add (.tmp 36) (.const (.int .i64 1))), none, []⟩,
        ⟨(some 6), (.move (.tmp 37)), none, []⟩]))))))))
  (.seq (.keep [4, 5] (.seq (.keep [1, 2, 4, 5, 7] (.ops [⟨(some 7), (.move (.const (.int .i64 0))), none, []⟩]))
  (.block 2
    (.loop
      (.keep [1, 2, 4, 5, 7] (.seq (.keep [1, 2, 4, 5, 7] (.seq (.keep [1, 2, 4, 5, 7, 55] (.ops [⟨(some 51), (.move (.tmp 7)), none, []⟩,
        ⟨(some 52), (.fieldAddr 18 (.tmp 2)), none, []⟩,
        ⟨(some 53), (.load none (.tmp 52)), none, []⟩,
        ⟨(some 54), (.len (.tmp 53)), none, []⟩,
        ⟨(some 55), (.bin .lss (.tmp 51) (.tmp 54)), none, []⟩]))
      (.cond (.tmp 55)
        .skip
        (.exit 2))))
      (.seq (.keep [1, 2, 4, 5, 7] (.block 3
        (.seq (.keep [1, 2, 4, 5, 7, 65] (.ops [⟨(some 58), (.fieldAddr 18 (.tmp 2)), none, []⟩,
          ⟨(some 59), (.load none (.tmp 58)), none, []⟩,
          ⟨(some 60), (.move (.tmp 7)), none, []⟩,
          ⟨(some 61), (.indexAddr 33 (.tmp 59) (.tmp 60)), none, []⟩,
          ⟨(some 62), (.fieldAddr 0 (.tmp 61)), none, []⟩,
          ⟨(some 63), (.load none (.tmp 62)), none, []⟩,
          ⟨(some 64), (.move (.tmp 1)), none, []⟩,
          ⟨(some 65), (.bin .leq (.tmp 63) (.tmp 64)), none, []⟩]))
        (.cond (.tmp 65)
          (.draw [0, 1, 0, 4, 0, 28, 60, 124, 255, 511, 1023] [⟨0, 0, [], ⟨(some 66), (.fieldAddr 18 (.tmp 5)), none, []⟩⟩,
            ⟨1, 1, [], ⟨(some 67), (.load none (.tmp 66)), none, []⟩⟩,
            ⟨2, 0, [], ⟨(some 68), (.fieldAddr 18 (.tmp 2)), none, []⟩⟩,
            ⟨3, 4, [], ⟨(some 69), (.load none (.tmp 68)), none, []⟩⟩,
            ⟨4, 0, [], ⟨(some 70), (.move (.tmp 7)), none, []⟩⟩,
            ⟨5, 28, [], ⟨(some 71), (.indexAddr 33 (.tmp 69) (.tmp 70)), none, []⟩⟩,
            ⟨6, 60, [], ⟨(some 72), (.load (some 33) (.tmp 71)), none, []⟩⟩,
            ⟨7, 124, [], ⟨(some 73), (.buildSlice 1 [(.int .i64 0), (.int .u8 0), (.int .u8 0), (.int .u8 0), (.int .u8 0), (.int .u8 0), (.int .u8 0), (.int .u8 0), (.int .u8 0), (.int .u8 0), (.int .u8 0), (.int .u8 0), (.int .u8 0), (.int .u8 0), (.int .u8 0), (.int .u8 0), (.int .u8 0), (.int .u8 0), (.int .u8 0), (.int .u8 0), (.int .u8 0), (.int .u8 0), (.int .u8 0), (.int .u8 0), (.int .u8 0), (.int .u8 0), (.int .u8 0), (.int .u8 0), (.int .u8 0), (.int .u8 0), (.int .u8 0), (.int .u8 0), (.int .u8 0)] [(0, 33, (.tmp 72))]), none, []⟩⟩,
            ⟨8, 255, [], ⟨(some 74), (.append 33 40 (.tmp 67) (.tmp 73)), none, []⟩⟩,
            ⟨9, 511, [], ⟨(some 75), (.fieldAddr 18 (.tmp 5)), none, []⟩⟩,
            ⟨10, 1023, [], ⟨none, (.store 1 (.tmp 75) (.tmp 74)), none, []⟩⟩])
          .skip))))
      (.ops [⟨(some 56), (.move (.tmp 7)), none, []⟩,
        ⟨(some 57), (.bin .add (.tmp 56) (.const (.int .i64 1))), none, []⟩,
        ⟨(some 7), (.move (.tmp 57)), none, []⟩]))))))))
  (.seq (.keep [4] (.ops [⟨(some 76), (.load (some 19) (.tmp 5)), none, []⟩,
    ⟨(some 77), (.build [(.int .u8 0), (.int .u8 0), (.int .u8 0), (.int .u8 0), (.int .u8 0), (.int .u8 0), (.int .u8 0), (.int .u8 0), (.int .u8 0), (.int .u8 0), (.int .u8 0), (.int .u8 0), (.int .u8 0), (.int .u8 0), (.int .u8 0), (.int .u8 0), (.int .i64 0), (.slice none 0 0), (.slice none 0 0), (.int .i64 0)] [(0, 19, (.tmp 76))]), none, []⟩,
    ⟨none, (.store 20 (.tmp 4) (.tmp 77)), none, []⟩]))
  .ret))))))
theorem t13 : trF Tryd.prog Tryd.f13 s13 = some s13 := by kernel_rfl
theorem k13 : okS s13 = true := by kernel_rfl
theorem r13 : resT Tryd.prog Tryd.f13.results.toList = some [.c 4 (some 20)] := by kernel_rfl

def s14 : S :=
  (.seq (.keep [2, 3] (.ops [⟨(some 2), (.box (.tmp 0)), none, []⟩,
    ⟨(some 3), (.box (.tmp 1)), none, []⟩,
    ⟨(some 4), (.move (.const (.bool false))), none, []⟩]))
  (.seq (.keep [2, 3, 6] (.ops [⟨(some 10), (.load (some 19) (.tmp 2)), none, []⟩,
    ⟨(some 11), (.load (some 19) (.tmp 3)), none, []⟩,
    ⟨(some 12), (.call (.func 10) [(.tmp 10), (.tmp 11)]), none, []⟩,
    ⟨(some 9), (.move (.tmp 12)), none, []⟩,
    ⟨(some 13), (.extract (.tmp 9) 0), none, []⟩,
    ⟨(some 14), (.extract (.tmp 9) 1), none, []⟩,
    ⟨(some 5), (.alloc (.agg #[(.int .i64 0), (.int .i64 0), (.int .i64 0), (.int .i64 0), (.int .i64 0), (.int .i64 0), (.int .i64 0), (.string ⟨#[]⟩), (.bool false)])), none, []⟩,
    ⟨none, (.store 9 (.tmp 5) (.tmp 13)), none, []⟩,
    ⟨(some 6), (.move (.tmp 14)), none, []⟩]))
  (.seq (.keep [6, 8] (.ops [⟨(some 16), (.load (some 19) (.tmp 3)), none, []⟩,
    ⟨(some 17), (.load (some 19) (.tmp 2)), none, []⟩,
    ⟨(some 18), (.call (.func 10) [(.tmp 16), (.tmp 17)]), none, []⟩,
    ⟨(some 15), (.move (.tmp 18)), none, []⟩,
    ⟨(some 19), (.extract (.tmp 15) 0), none, []⟩,
    ⟨(some 20), (.extract (.tmp 15) 1), none, []⟩,
    ⟨(some 7), (.alloc (.agg #[(.int .i64 0), (.int .i64 0), (.int .i64 0), (.int .i64 0), (.int .i64 0), (.int .i64 0), (.int .i64 0), (.string ⟨#[]⟩), (.bool false)])), none, []⟩,
    ⟨none, (.store 9 (.tmp 7) (.tmp 19)), none, []⟩,
    ⟨(some 8), (.move (.tmp 20)), none, []⟩]))
  (.seq (.keep [4] (.ops [⟨(some 21), (.move (.tmp 6)), none, []⟩,
    ⟨(some 22), (.move (.tmp 21)), none, []⟩,
    ⟨(some 23), (.move (.tmp 8)), (some (22, true)), []⟩,
    ⟨(some 24), (.pick (.tmp 22) (.tmp 23) (.const (.bool false))), none, []⟩,
    ⟨(some 4), (.move (.tmp 24)), none, []⟩]))
  .ret))))
theorem t14 : trF Tryd.prog Tryd.f14 s14 = some s14 := by kernel_rfl
theorem k14 : okS s14 = true := by kernel_rfl
theorem r14 : resT Tryd.prog Tryd.f14.results.toList = some [.t 4] := by kernel_rfl

def s15 : S :=
  (.seq (.keep [2, 3] (.ops [⟨(some 2), (.box (.tmp 0)), none, []⟩,
    ⟨(some 3), (.box (.tmp 1)), none, []⟩,
    ⟨(some 4), (.move (.const (.bool false))), none, []⟩]))
  (.seq (.keep [4] (.ops [⟨(some 5), (.load (some 19) (.tmp 2)), none, []⟩,
    ⟨(some 6), (.load (some 19) (.tmp 3)), none, []⟩,
    ⟨(some 7), (.call (.func 12) [(.tmp 5), (.tmp 6)]), none, []⟩,
    ⟨(some 8), (.field 9 none (.tmp 7)), none, []⟩,
    ⟨(some 9), (.move (.tmp 8)), none, []⟩,
    ⟨(some 10), (.load (some 19) (.tmp 3)), (some (9, true)), []⟩,
    ⟨(some 11), (.load (some 19) (.tmp 2)), (some (9, true)), []⟩,
    ⟨(some 12), (.call (.func 12) [(.tmp 10), (.tmp 11)]), (some (9, true)), []⟩,
    ⟨(some 13), (.field 9 none (.tmp 12)), (some (9, true)), []⟩,
    ⟨(some 14), (.pick (.tmp 9) (.tmp 13) (.const (.bool false))), none, []⟩,
    ⟨(some 4), (.move (.tmp 14)), none, []⟩]))
  .ret))
theorem t15 : trF Tryd.prog Tryd.f15 s15 = some s15 := by kernel_rfl
theorem k15 : okS s15 = true := by kernel_rfl
theorem r15 : resT Tryd.prog Tryd.f15.results.toList = some [.t 4] := by kernel_rfl

def s16 : S :=
  (.seq (.keep [2, 3] (.ops [⟨(some 2), (.box (.tmp 0)), none, []⟩,
    ⟨(some 3), (.box (.tmp 1)), none, []⟩,
    ⟨(some 4), (.move (.const (.bool false))), none, []⟩]))
  (.seq (.keep [2, 3] (.seq (.keep [2, 3, 36] (.ops [⟨(some 7), (.fieldAddr 0 (.tmp 2)), none, []⟩,
    ⟨(some 8), (.load (some 16) (.tmp 7)), none, []⟩,
    ⟨(some 9), (.fieldAddr 0 (.tmp 3)), none, []⟩,
    ⟨(some 10), (.load (some 16) (.tmp 9)), none, []⟩,
    ⟨(some 11), (.eqAgg true (List.replicate 16 (.int .u8)) (.tmp 8) (.tmp 10)), none, []⟩,
    ⟨(some 12), (.move (.tmp 11)), none, []⟩,
    ⟨(some 13), (.fieldAddr 16 (.tmp 2)), (some (12, false)), []⟩,
    ⟨(some 14), (.load none (.tmp 13)), (some (12, false)), []⟩,
    ⟨(some 15), (.fieldAddr 16 (.tmp 3)), (some (12, false)), []⟩,
    ⟨(some 16), (.load none (.tmp 15)), (some (12, false)), []⟩,
    ⟨(some 17), (.bin .neq (.tmp 14) (.tmp 16)), (some (12, false)), []⟩,
    ⟨(some 18), (.pick (.tmp 12) (.const (.bool true)) (.tmp 17)), none, []⟩,
    ⟨(some 19), (.move (.tmp 18)), none, []⟩,
    ⟨(some 20), (.fieldAddr 17 (.tmp 2)), (some (19, false)), []⟩,
    ⟨(some 21), (.load none (.tmp 20)), (some (19, false)), []⟩,
    ⟨(some 22), (.len (.tmp 21)), (some (19, false)), []⟩,
    ⟨(some 23), (.fieldAddr 17 (.tmp 3)), (some (19, false)), []⟩,
    ⟨(some 24), (.load none (.tmp 23)), (some (19, false)), []⟩,
    ⟨(some 25), (.len (.tmp 24)), (some (19, false)), []⟩,
    ⟨(some 26), (.bin .neq (.tmp 22) (.tmp 25)), (some (19, false)), []⟩,
    ⟨(some 27), (.pick (.tmp 19) (.const (.bool true)) (.tmp 26)), none, []⟩,
    ⟨(some 28), (.move (.tmp 27)), none, []⟩,
    ⟨(some 29), (.fieldAddr 18 (.tmp 2)), (some (28, false)), []⟩,
    ⟨(some 30), (.load none (.tmp 29)), (some (28, false)), []⟩,
    ⟨(some 31), (.len (.tmp 30)), (some (28, false)), []⟩,
    ⟨(some 32), (.fieldAddr 18 (.tmp 3)), (some (28, false)), []⟩,
    ⟨(some 33), (.load none (.tmp 32)), (some (28, false)), []⟩,
    ⟨(some 34), (.len (.tmp 33)), (some (28, false)), []⟩,
    ⟨(some 35), (.bin .neq (.tmp 31) (.tmp 34)), (some (28, false)), []⟩,
    ⟨(some 36), (.pick (.tmp 28) (.const (.bool true)) (.tmp 35)), none, []⟩]))
  (.cond (.tmp 36)
    (.seq (.keep [4] (.ops [⟨(some 4), (.move (.const (.bool false))), none, []⟩]))
    .ret)
    .skip)))
  (.seq (.keep [2, 3] (.seq (.keep [2, 3, 5] (.ops [⟨(some 5), (.move (.const (.int .i64 0))), none, []⟩]))
  (.block 0
    (.loop
      (.keep [2, 3, 5] (.seq (.keep [2, 3, 5] (.seq (.keep [2, 3, 5, 41] (.ops [⟨(some 37), (.move (.tmp 5)), none, []⟩,
        ⟨(some 38), (.fieldAddr 17 (.tmp 2)), none, []⟩,
        ⟨(some 39), (.load none (.tmp 38)), none, []⟩,
        ⟨(some 40), (.len (.tmp 39)), none, []⟩,
        ⟨(some 41), (.bin .lss (.tmp 37) (.tmp 40)), none, []⟩]))
      (.cond (.tmp 41)
        .skip
        (.exit 0))))
      (.seq (.keep [2, 3, 5] (.block 1
        (.seq (.keep [2, 3, 5, 54] (.draw [0, 1, 0, 7, 15, 0, 32, 0, 224, 480, 1023] [⟨0, 0, [], ⟨(some 44), (.fieldAddr 17 (.tmp 2)), none, []⟩⟩,
          ⟨1, 1, [], ⟨(some 45), (.load none (.tmp 44)), none, []⟩⟩,
          ⟨2, 0, [], ⟨(some 46), (.move (.tmp 5)), none, []⟩⟩,
          ⟨3, 7, [], ⟨(some 47), (.indexAddr 5 (.tmp 45) (.tmp 46)), none, []⟩⟩,
          ⟨4, 15, [], ⟨(some 48), (.load (some 5) (.tmp 47)), none, []⟩⟩,
          ⟨5, 0, [], ⟨(some 49), (.fieldAddr 17 (.tmp 3)), none, []⟩⟩,
          ⟨6, 32, [], ⟨(some 50), (.load none (.tmp 49)), none, []⟩⟩,
          ⟨7, 0, [], ⟨(some 51), (.move (.tmp 5)), none, []⟩⟩,
          ⟨8, 224, [], ⟨(some 52), (.indexAddr 5 (.tmp 50) (.tmp 51)), none, []⟩⟩,
          ⟨9, 480, [], ⟨(some 53), (.load (some 5) (.tmp 52)), none, []⟩⟩,
          ⟨10, 1023, [], ⟨(some 54), (.eqAgg true [(.int .i64), (.int .i64), (.int .i64), (.int .i64), .string] (.tmp 48) (.tmp 53)), none, []⟩⟩]))
        (.cond (.tmp 54)
          (.seq (.keep [4] (.ops [⟨(some 4), (.move (.const (.bool false))), none, []⟩]))
          .ret)
          .skip))))
      (.ops [⟨(some 42), (.move (.tmp 5)), none, []⟩,
        ⟨(some 43), (.bin .add (.tmp 42) (.const (.int .i64 1))), none, []⟩,
        ⟨(some 5), (.move (.tmp 43)), none, []⟩]))))))))
  (.seq (.keep [] (.seq (.keep [2, 3, 6] (.ops [⟨(some 6), (.move (.const (.int .i64 0))), none, []⟩]))
  (.block 2
    (.loop
      (.keep [2, 3, 6] (.seq (.keep [2, 3, 6] (.seq (.keep [2, 3, 6, 59] (.ops [⟨(some 55), (.move (.tmp 6)), none, []⟩,
        ⟨(some 56), (.fieldAddr 18 (.tmp 2)), none, []⟩,
        ⟨(some 57), (.load none (.tmp 56)), none, []⟩,
        ⟨(some 58), (.len (.tmp 57)), none, []⟩,
        ⟨(some 59), (.bin .lss (.tmp 55) (.tmp 58)), none, []⟩]))
      (.cond (.tmp 59)
        .skip
        (.exit 2))))
      (.seq (.keep [2, 3, 6] (.block 3
        (.seq (.keep [2, 3, 6, 72] (.draw [0, 1, 0, 7, 15, 0, 32, 0, 224, 480, 1023] [⟨0, 0, [], ⟨(some 62), (.fieldAddr 18 (.tmp 2)), none, []⟩⟩,
          ⟨1, 1, [], ⟨(some 63), (.load none (.tmp 62)), none, []⟩⟩,
          ⟨2, 0, [], ⟨(some 64), (.move (.tmp 6)), none, []⟩⟩,
          ⟨3, 7, [], ⟨(some 65), (.indexAddr 33 (.tmp 63) (.tmp 64)), none, []⟩⟩,
          ⟨4, 15, [], ⟨(some 66), (.load (some 33) (.tmp 65)), none, []⟩⟩,
          ⟨5, 0, [], ⟨(some 67), (.fieldAddr 18 (.tmp 3)), none, []⟩⟩,
          ⟨6, 32, [], ⟨(some 68), (.load none (.tmp 67)), none, []⟩⟩,
          ⟨7, 0, [], ⟨(some 69), (.move (.tmp 6)), none, []⟩⟩,
          ⟨8, 224, [], ⟨(some 70), (.indexAddr 33 (.tmp 68) (.tmp 69)), none, []⟩⟩,
          ⟨9, 480, [], ⟨(some 71), (.load (some 33) (.tmp 70)), none, []⟩⟩,
          ⟨10, 1023, [], ⟨(some 72), (.eqAgg true [(.int .i64), (.int .u8), (.int .u8), (.int .u8), (.int .u8), (.int .u8), (.int .u8), (.int .u8), (.int .u8), (.int .u8), (.int .u8), (.int .u8), (.int .u8), (.int .u8), (.int .u8), (.int .u8), (.int .u8), (.int .u8), (.int .u8), (.int .u8), (.int .u8), (.int .u8), (.int .u8), (.int .u8), (.int .u8), (.int .u8), (.int .u8), (.int .u8), (.int .u8), (.int .u8), (.int .u8), (.int .u8), (.int .u8)] (.tmp 66) (.tmp 71)), none, []⟩⟩]))
        (.cond (.tmp 72)
          (.seq (.keep [4] (.ops [⟨(some 4), (.move (.const (.bool false))), none, []⟩]))
          .ret)
          .skip))))
      (.ops [⟨(some 60), (.move (.tmp 6)), none, []⟩,
        ⟨(some 61), (.bin .add (.tmp 60) (.const (.int .i64 1))), none, []⟩,
        ⟨(some 6), (.move (.tmp 61)), none, []⟩]))))))))
  (.seq (.keep [4] (.ops [⟨(some 4), (.move (.const (.bool true))), none, []⟩]))
  .ret)))))
theorem t16 : trF Tryd.prog Tryd.f16 s16 = some s16 := by kernel_rfl
theorem k16 : okS s16 = true := by kernel_rfl
theorem r16 : resT Tryd.prog Tryd.f16.results.toList = some [.t 4] := by kernel_rfl

def s17 : S :=
  (.seq (.keep [1, 2, 4] (.ops [⟨(some 2), (.box (.tmp 0)), none, []⟩,
    ⟨(some 4), (.alloc (.agg #[(.int .u8 0), (.int .u8 0), (.int .u8 0), (.int .u8 0), (.int .u8 0), (.int .u8 0), (.int .u8 0), (.int .u8 0), (.int .u8 0), (.int .u8 0), (.int .u8 0), (.int .u8 0), (.int .u8 0), (.int .u8 0), (.int .u8 0), (.int .u8 0), (.int .i64 0), (.slice none 0 0), (.slice none 0 0), (.int .i64 0), (.int .i64 0)])), none, []⟩]))
  (.seq (.keep [1, 2, 4] (.seq (.keep [1, 2, 4, 15] (.ops [⟨(some 7), (.move (.tmp 1)), none, []⟩,
    ⟨(some 8), (.bin .lss (.tmp 7) (.const (.int .i64 0))), none, []⟩,
    ⟨(some 9), (.move (.tmp 8)), none, []⟩,
    ⟨(some 10), (.move (.tmp 1)), (some (9, false)), []⟩,
    ⟨(some 11), (.fieldAddr 17 (.tmp 2)), (some (9, false)), []⟩,
    ⟨(some 12), (.load none (.tmp 11)), (some (9, false)), []⟩,
    ⟨(some 13), (.len (.tmp 12)), (some (9, false)), []⟩,
    ⟨(some 14), (.bin .gtr (.tmp 10) (.tmp 13)), (some (9, false)), []⟩,
    ⟨(some 15), (.pick (.tmp 9) (.const (.bool true)) (.tmp 14)), none, []⟩]))
  (.cond (.tmp 15)
    (.seq (.keep [4] (.ops [⟨(some 16), (.build [(.int .u8 0), (.int .u8 0), (.int .u8 0), (.int .u8 0), (.int .u8 0), (.int .u8 0), (.int .u8 0), (.int .u8 0), (.int .u8 0), (.int .u8 0), (.int .u8 0), (.int .u8 0), (.int .u8 0), (.int .u8 0), (.int .u8 0), (.int .u8 0), (.int .i64 0), (.slice none 0 0), (.slice none 0 0), (.int .i64 0), (.int .i64 0)] [(20, 1, (.const (.int .i64 1)))]), none, []⟩,
      ⟨none, (.store 21 (.tmp 4) (.tmp 16)), none, []⟩]))
    .ret)
    .skip)))
  (.seq (.keep [1, 2, 4, 5] (.draw [0, 1, 0, 4, 0, 16, 0, 112, 255, 0, 1023] [⟨0, 0, [], ⟨(some 17), (.fieldAddr 0 (.tmp 2)), none, []⟩⟩,
    ⟨1, 1, [], ⟨(some 18), (.load (some 16) (.tmp 17)), none, []⟩⟩,
    ⟨2, 0, [], ⟨(some 19), (.fieldAddr 16 (.tmp 2)), none, []⟩⟩,
    ⟨3, 4, [], ⟨(some 20), (.load none (.tmp 19)), none, []⟩⟩,
    ⟨4, 0, [], ⟨(some 21), (.fieldAddr 17 (.tmp 2)), none, []⟩⟩,
    ⟨5, 16, [], ⟨(some 22), (.load none (.tmp 21)), none, []⟩⟩,
    ⟨6, 0, [], ⟨(some 23), (.move (.tmp 1)), none, []⟩⟩,
    ⟨7, 112, [], ⟨(some 24), (.slice 5 (.tmp 22) none (some (.tmp 23)) none), none, []⟩⟩,
    ⟨8, 255, [], ⟨(some 25), (.build [(.int .u8 0), (.int .u8 0), (.int .u8 0), (.int .u8 0), (.int .u8 0), (.int .u8 0), (.int .u8 0), (.int .u8 0), (.int .u8 0), (.int .u8 0), (.int .u8 0), (.int .u8 0), (.int .u8 0), (.int .u8 0), (.int .u8 0), (.int .u8 0), (.int .i64 0), (.slice none 0 0), (.slice none 0 0)] [(0, 16, (.tmp 18)), (16, 1, (.tmp 20)), (17, 1, (.tmp 24))]), none, []⟩⟩,
    ⟨9, 0, [], ⟨(some 5), (.alloc (.agg #[(.int .u8 0), (.int .u8 0), (.int .u8 0), (.int .u8 0), (.int .u8 0), (.int .u8 0), (.int .u8 0), (.int .u8 0), (.int .u8 0), (.int .u8 0), (.int .u8 0), (.int .u8 0), (.int .u8 0), (.int .u8 0), (.int .u8 0), (.int .u8 0), (.int .i64 0), (.slice none 0 0), (.slice none 0 0)])), none, []⟩⟩,
    ⟨10, 1023, [], ⟨none, (.store 19 (.tmp 5) (.tmp 25)), none, []⟩⟩]))
  (.seq (.keep [4, 5] (.seq (.keep [1, 2, 4, 5, 6] (.ops [⟨(some 6), (.move (.const (.int .i64 0))), none, []⟩]))
  (.block 0
    (.loop
      (.keep [1, 2, 4, 5, 6] (.seq (.keep [1, 2, 4, 5, 6] (.seq (.keep [1, 2, 4, 5, 6, 30] (.ops [⟨(some 26), (.move (.tmp 6)), none, []⟩,
        ⟨(some 27), (.fieldAddr 18 (.tmp 2)), none, []⟩,
        ⟨(some 28), (.load none (.tmp 27)), none, []⟩,
        ⟨(some 29), (.len (.tmp 28)), none, []⟩,
        ⟨(some 30), (.bin .lss (.tmp 26) (.tmp 29)), none, []⟩]))
      (.cond (.tmp 30)
        .skip
        (.exit 0))))
      (.seq (.keep [1, 2, 4, 5, 6] (.block 1
        (.seq (.keep [1, 2, 4, 5, 6, 40] (.ops [⟨(some 33), (.fieldAddr 18 (.tmp 2)), none, []⟩,
          ⟨(some 34), (.load none (.tmp 33)), none, []⟩,
          ⟨(some 35), (.move (.tmp 6)), none, []⟩,
          ⟨(some 36), (.indexAddr 33 (.tmp 34) (.tmp 35)), none, []⟩,
          ⟨(some 37), (.fieldAddr 0 (.tmp 36)), none, []⟩,
          ⟨(some 38), (.load none (.tmp 37)), none, []⟩,
          ⟨(some 39), (.move (.tmp 1)), none, []⟩,
          ⟨(some 40), (.bin .leq (.tmp 38) (.tmp 39)), none, []⟩]))
        (.cond (.tmp 40)
          (.draw [0, 1, 0, 4, 0, 28, 60, 124, 255, 511, 1023] [⟨0, 0, [], ⟨(some 41), (.fieldAddr 18 (.tmp 5)), none, []⟩⟩,
            ⟨1, 1, [], ⟨(some 42), (.load none (.tmp 41)), none, []⟩⟩,
            ⟨2, 0, [], ⟨(some 43), (.fieldAddr 18 (.tmp 2)), none, []⟩⟩,
            ⟨3, 4, [], ⟨(some 44), (.load none (.tmp 43)), none, []⟩⟩,
            ⟨4, 0, [], ⟨(some 45), (.move (.tmp 6)), none, []⟩⟩,
            ⟨5, 28, [], ⟨(some 46), (.indexAddr 33 (.tmp 44) (.tmp 45)), none, []⟩⟩,
            ⟨6, 60, [], ⟨(some 47), (.load (some 33) (.tmp 46)), none, []⟩⟩,
            ⟨7, 124, [], ⟨(some 48), (.buildSlice 1 [(.int .i64 0), (.int .u8 0), (.int .u8 0), (.int .u8 0), (.int .u8 0), (.int .u8 0), (.int .u8 0), (.int .u8 0), (.int .u8 0), (.int .u8 0), (.int .u8 0), (.int .u8 0), (.int .u8 0), (.int .u8 0), (.int .u8 0), (.int .u8 0), (.int .u8 0), (.int .u8 0), (.int .u8 0), (.int .u8 0), (.int .u8 0), (.int .u8 0), (.int .u8 0), (.int .u8 0), (.int .u8 0), (.int .u8 0), (.int .u8 0), (.int .u8 0), (.int .u8 0), (.int .u8 0), (.int .u8 0), (.int .u8 0), (.int .u8 0)] [(0, 33, (.tmp 47))]), none, []⟩⟩,
            ⟨8, 255, [], ⟨(some 49), (.append 33 40 (.tmp 42) (.tmp 48)), none, []⟩⟩,
            ⟨9, 511, [], ⟨(some 50), (.fieldAddr 18 (.tmp 5)), none, []⟩⟩,
            ⟨10, 1023, [], ⟨none, (.store 1 (.tmp 50) (.tmp 49)), none, []⟩⟩])
          .skip))))
      (.ops [⟨(some 31), (.move (.tmp 6)), none, []⟩,
        ⟨(some 32), (.bin .add (.tmp 31) (.const (.int .i64 1))), none, []⟩,
        ⟨(some 6), (.move (.tmp 32)), none, []⟩]))))))))
  (.seq (.keep [4] (.ops [⟨(some 51), (.load (some 19) (.tmp 5)), none, []⟩,
    ⟨(some 52), (.build [(.int .u8 0), (.int .u8 0), (.int .u8 0), (.int .u8 0), (.int .u8 0), (.int .u8 0), (.int .u8 0), (.int .u8 0), (.int .u8 0), (.int .u8 0), (.int .u8 0), (.int .u8 0), (.int .u8 0), (.int .u8 0), (.int .u8 0), (.int .u8 0), (.int .i64 0), (.slice none 0 0), (.slice none 0 0), (.int .i64 0), (.int .i64 0)] [(0, 19, (.tmp 51))]), none, []⟩,
    ⟨none, (.store 21 (.tmp 4) (.tmp 52)), none, []⟩]))
  .ret)))))
theorem t17 : trF Tryd.prog Tryd.f17 s17 = some s17 := by kernel_rfl
theorem k17 : okS s17 = true := by kernel_rfl
theorem r17 : resT Tryd.prog Tryd.f17.results.toList = some [.c 4 (some 21)] := by kernel_rfl

def s18 : S :=
  (.seq (.keep [1, 2, 3, 6] (.ops [⟨(some 3), (.box (.tmp 0)), none, []⟩,
    ⟨(some 6), (.alloc (.agg #[(.int .u8 0), (.int .u8 0), (.int .u8 0), (.int .u8 0), (.int .u8 0), (.int .u8 0), (.int .u8 0), (.int .u8 0), (.int .u8 0), (.int .u8 0), (.int .u8 0), (.int .u8 0), (.int .u8 0), (.int .u8 0), (.int .u8 0), (.int .u8 0), (.int .i64 0), (.slice none 0 0), (.slice none 0 0)])), none, []⟩]))
  (.seq (.keep [1, 2, 3, 6, 7] (.ops [⟨(some 10), (.fieldAddr 0 (.tmp 3)), none, []⟩,
    ⟨(some 11), (.load (some 16) (.tmp 10)), none, []⟩,
    ⟨(some 12), (.fieldAddr 16 (.tmp 3)), none, []⟩,
    ⟨(some 13), (.load none (.tmp 12)), none, []⟩,
    ⟨(some 14), (.build [(.int .u8 0), (.int .u8 0), (.int .u8 0), (.int .u8 0), (.int .u8 0), (.int .u8 0), (.int .u8 0), (.int .u8 0), (.int .u8 0), (.int .u8 0), (.int .u8 0), (.int .u8 0), (.int .u8 0), (.int .u8 0), (.int .u8 0), (.int .u8 0), (.int .i64 0), (.slice none 0 0), (.slice none 0 0)] [(0, 16, (.tmp 11)), (16, 1, (.tmp 13))]), none, []⟩,
    ⟨(some 7), (.alloc (.agg #[(.int .u8 0), (.int .u8 0), (.int .u8 0), (.int .u8 0), (.int .u8 0), (.int .u8 0), (.int .u8 0), (.int .u8 0), (.int .u8 0), (.int .u8 0), (.int .u8 0), (.int .u8 0), (.int .u8 0), (.int .u8 0), (.int .u8 0), (.int .u8 0), (.int .i64 0), (.slice none 0 0), (.slice none 0 0)])), none, []⟩,
    ⟨none, (.store 19 (.tmp 7) (.tmp 14)), none, []⟩]))
  (.seq (.keep [6, 7] (.seq (.keep [1, 2, 3, 6, 7, 8] (.ops [⟨(some 8), (.move (.const (.int .i64 0))), none, []⟩]))
  (.block 0
    (.loop
      (.keep [1, 2, 3, 6, 7, 8] (.seq (.keep [1, 2, 3, 6, 7, 8] (.seq (.keep [1, 2, 3, 6, 7, 8, 19] (.ops [⟨(some 15), (.move (.tmp 8)), none, []⟩,
        ⟨(some 16), (.fieldAddr 17 (.tmp 3)), none, []⟩,
        ⟨(some 17), (.load none (.tmp 16)), none, []⟩,
        ⟨(some 18), (.len (.tmp 17)), none, []⟩,
        ⟨(some 19), (.bin .lss (.tmp 15) (.tmp 18)), none, []⟩]))
      (.cond (.tmp 19)
        .skip
        (.exit 0))))
      (.seq (.keep [1, 2, 3, 6, 7, 8] (.block 1
        (.seq (.keep [1, 2, 3, 6, 7, 8, 9] (.ops [⟨(some 22), (.fieldAddr 17 (.tmp 3)), none, []⟩,
          ⟨(some 23), (.load none (.tmp 22)), none, []⟩,
          ⟨(some 24), (.move (.tmp 8)), none, []⟩,
          ⟨(some 25), (.indexAddr 5 (.tmp 23) (.tmp 24)), none, []⟩,
          ⟨(some 26), (.load (some 5) (.tmp 25)), none, []⟩,
          ⟨(some 9), (.alloc (.agg #[(.int .i64 0), (.int .i64 0), (.int .i64 0), (.int .i64 0), (.string ⟨#[]⟩)])), none, []⟩,
          ⟨none, (.store 5 (.tmp 9) (.tmp 26)), none, []⟩]))
        (.seq (.keep [1, 2, 3, 6, 7, 8, 9] (.seq (.keep [1, 2, 3, 6, 7, 8, 9, 43] (.ops [⟨(some 27), (.move (.tmp 8)), none, []⟩,
          ⟨(some 28), (.move (.tmp 1)), none, []⟩,
          ⟨(some 29), (.bin .eql (.tmp 27) (.tmp 28)), none, []⟩,
          ⟨(some 30), (.move (.tmp 29)), none, []⟩,
          ⟨(some 31), (.load (some 5) (.tmp 9)), (some (30, true)), []⟩,
          ⟨(some 32), (.call (.func 32) [(.tmp 31)]), (some (30, true)), []⟩,
          ⟨(some 33), (.pick (.tmp 30) (.tmp 32) (.const (.bool false))), none, []⟩,
          ⟨(some 34), (.move (.tmp 33)), none, []⟩,
          ⟨(some 35), (.move (.tmp 2)), (some (34, true)), []⟩,
          ⟨(some 36), (.bin .geq (.tmp 35) (.const (.int .i64 1))), (some (34, true)), []⟩,
          ⟨(some 37), (.pick (.tmp 34) (.tmp 36) (.const (.bool false))), none, []⟩,
          ⟨(some 38), (.move (.tmp 37)), none, []⟩,
          ⟨(some 39), (.move (.tmp 2)), (some (38, true)), []⟩,
          ⟨(some 40), (.fieldAddr 3 (.tmp 9)), (some (38, true)), []⟩,
          ⟨(some 41), (.load none (.tmp 40)), (some (38, true)), []⟩,
          ⟨(some 42), (.bin .lss (.tmp 39) (.tmp 41)), (some (38, true)), []⟩,
          ⟨(some 43), (.pick (.tmp 38) (.tmp 42) (.const (.bool false))), none, []⟩]))
        (.cond (.tmp 43)
          (.seq (.keep [1, 2, 3, 6, 7, 8] (.ops [⟨(some 44), (.fieldAddr 17 (.tmp 7)), none, []⟩,
            ⟨(some 45), (.load none (.tmp 44)), none, []⟩,
            ⟨(some 46), (.fieldAddr 1 (.tmp 9)), none, []⟩,
            ⟨(some 47), (.load none (.tmp 46)), none, []⟩,
            ⟨(some 48), (.fieldAddr 2 (.tmp 9)), none, []⟩,
            ⟨(some 49), (.load none (.tmp 48)), none, []⟩,
            ⟨(some 50), (.move (.tmp 2)), none, []⟩,
            ⟨(some 51), (.build [(.int .i64 0), (.int .i64 0), (.int .i64 0), (.int .i64 0), (.string ⟨#[]⟩)] [(0, 1, (.const (.int .i64 1))), (1, 1, (.tmp 47)), (2, 1, (.tmp 49)), (3, 1, (.tmp 50))]), none, []⟩,
            ⟨(some 52), (.fieldAddr 1 (.tmp 9)), none, []⟩,
            ⟨(some 53), (.load none (.tmp 52)), none, []⟩,
            ⟨(some 54), (.fieldAddr 2 (.tmp 9)), none, []⟩,
            ⟨(some 55), (.load none (.tmp 54)), none, []⟩,
            ⟨(some 56), (.move (.tmp 2)), none, []⟩,
            ⟨(some 57), (.bin .add (.tmp 55) (.tmp 56)), none, []⟩,
            ⟨(some 58), (.fieldAddr 3 (.tmp 9)), none, []⟩,
            ⟨(some 59), (.load none (.tmp 58)), none, []⟩,
            ⟨(some 60), (.move (.tmp 2)), none, []⟩,
            ⟨(some 61), (.bin .sub (.tmp 59) (.tmp 60)), none, []⟩,
            ⟨(some 62), (.build [(.int .i64 0), (.int .i64 0), (.int .i64 0), (.int .i64 0), (.string ⟨#[]⟩)] [(0, 1, (.const (.int .i64 1))), (1, 1, (.tmp 53)), (2, 1, (.tmp 57)), (3, 1, (.tmp 61))]), none, []⟩,
            ⟨(some 63), (.buildSlice 2 [(.int .i64 0), (.int .i64 0), (.int .i64 0), (.int .i64 0), (.string ⟨#[]⟩), (.int .i64 0), (.int .i64 0), (.int .i64 0), (.int .i64 0), (.string ⟨#[]⟩)] [(0, 5, (.tmp 51)), (5, 5, (.tmp 62))]), none, []⟩,
            ⟨(some 64), (.append 5 48 (.tmp 45) (.tmp 63)), none, []⟩,
            ⟨(some 65), (.fieldAddr 17 (.tmp 7)), none, []⟩,
            ⟨none, (.store 1 (.tmp 65) (.tmp 64)), none, []⟩]))
          (.exit 1))
          .skip)))
        (.ops [⟨(some 66), (.fieldAddr 17 (.tmp 7)), none, []⟩,
          ⟨(some 67), (.load none (.tmp 66)), none, []⟩,
          ⟨(some 68), (.load (some 5) (.tmp 9)), none, []⟩,
          ⟨(some 69), (.buildSlice 1 [(.int .i64 0), (.int .i64 0), (.int .i64 0), (.int .i64 0), (.string ⟨#[]⟩)] [(0, 5, (.tmp 68))]), none, []⟩,
          ⟨(some 70), (.append 5 48 (.tmp 67) (.tmp 69)), none, []⟩,
          ⟨(some 71), (.fieldAddr 17 (.tmp 7)), none, []⟩,
          ⟨none, (.store 1 (.tmp 71) (.tmp 70)), none, []⟩])))))
      (.ops [⟨(some 20), (.move (.tmp 8)), none, []⟩,
        ⟨(some 21), (.bin .add (.tmp 20) (.const (.int .i64 1))), none, []⟩,
        ⟨(some 8), (.move (.tmp 21)), none, []⟩]))))))))
  (.seq (.keep [6] (.ops [⟨(some 72), (.load (some 19) (.tmp 7)), none, []⟩,
    ⟨none, (.store 19 (.tmp 6) (.tmp 72)), none, []⟩]))
  .ret))))
theorem t18 : trF Tryd.prog Tryd.f18 s18 = some s18 := by kernel_rfl
theorem k18 : okS s18 = true := by kernel_rfl
theorem r18 : resT Tryd.prog Tryd.f18.results.toList = some [.c 6 (some 19)] := by kernel_rfl

def s19 : S :=
  (.seq (.keep [1, 3, 4, 6] (.ops [⟨(some 4), (.box (.tmp 0)), none, []⟩,
    ⟨(some 6), (.box (.tmp 2)), none, []⟩,
    ⟨(some 8), (.move (.const (.bool false))), none, []⟩]))
  (.seq (.keep [1, 3, 4, 6, 9] (.ops [⟨(some 9), (.move (.const (.int .i64 0))), none, []⟩]))
  (.seq (.keep [3, 6, 9] (.seq (.keep [1, 3, 4, 6, 9, 10] (.ops [⟨(some 10), (.move (.const (.int .i64 0))), none, []⟩]))
  (.block 0
    (.loop
      (.keep [1, 3, 4, 6, 9, 10] (.seq (.keep [1, 3, 4, 6, 9, 10] (.seq (.keep [1, 3, 4, 6, 9, 10, 13] (.ops [⟨(some 11), (.move (.tmp 10)), none, []⟩,
        ⟨(some 12), (.move (.tmp 1)), none, []⟩,
        ⟨(some 13), (.bin .lss (.tmp 11) (.tmp 12)), none, []⟩]))
      (.cond (.tmp 13)
        .skip
        (.exit 0))))
      (.seq (.keep [1, 3, 4, 6, 9, 10] (.block 1
        (.seq (.keep [1, 3, 4, 6, 9, 10] (.seq (.keep [1, 3, 4, 6, 9, 10, 22] (.ops [⟨(some 16), (.fieldAddr 17 (.tmp 4)), none, []⟩,
          ⟨(some 17), (.load none (.tmp 16)), none, []⟩,
          ⟨(some 18), (.move (.tmp 10)), none, []⟩,
          ⟨(some 19), (.indexAddr 5 (.tmp 17) (.tmp 18)), none, []⟩,
          ⟨(some 20), (.fieldAddr 0 (.tmp 19)), none, []⟩,
          ⟨(some 21), (.load none (.tmp 20)), none, []⟩,
          ⟨(some 22), (.bin .eql (.tmp 21) (.const (.int .i64 1))), none, []⟩]))
        (.cond (.tmp 22)
          (.exit 1)
          .skip)))
        (.seq (.keep [1, 3, 4, 6, 9, 10] (.block 2
          (.loop
            (.keep [1, 3, 4, 6, 9, 10] (.seq (.keep [1, 3, 4, 6, 9, 10] (.seq (.keep [1, 3, 4, 6, 9, 10, 36] (.ops [⟨(some 23), (.move (.tmp 9)), none, []⟩,
              ⟨(some 24), (.fieldAddr 17 (.tmp 6)), none, []⟩,
              ⟨(some 25), (.load none (.tmp 24)), none, []⟩,
              ⟨(some 26), (.len (.tmp 25)), none, []⟩,
              ⟨(some 27), (.bin .lss (.tmp 23) (.tmp 26)), none, []⟩,
              ⟨(some 28), (.move (.tmp 27)), none, []⟩,
              ⟨(some 29), (.fieldAddr 17 (.tmp 6)), (some (28, true)), []⟩,
              ⟨(some 30), (.load none (.tmp 29)), (some (28, true)), []⟩,
              ⟨(some 31), (.move (.tmp 9)), (some (28, true)), []⟩,
              ⟨(some 32), (.indexAddr 5 (.tmp 30) (.tmp 31)), (some (28, true)), []⟩,
              ⟨(some 33), (.fieldAddr 0 (.tmp 32)), (some (28, true)), []⟩,
              ⟨(some 34), (.load none (.tmp 33)), (some (28, true)), []⟩,
              ⟨(some 35), (.bin .eql (.tmp 34) (.const (.int .i64 1))), (some (28, true)), []⟩,
              ⟨(some 36), (.pick (.tmp 28) (.tmp 35) (.const (.bool false))), none, []⟩]))
            (.cond (.tmp 36)
              .skip
              (.exit 2))))
            (.block 3
              (.ops [⟨(some 37), (.move (.tmp 9)), none, []⟩,
                ⟨(some 38), (.bin .add (.tmp 37) (.const (.int .i64 1))), none, []⟩,
                ⟨(some 9), (.move (.tmp 38)), none, []⟩])))))))
        (.seq (.keep [1, 3, 4, 6, 9, 10] (.seq (.keep [1, 3, 4, 6, 9, 10, 65] (.draw [0, 0, 2, 6, 15, 31, 63, 127, 255, 511, 511, 2047, 4095, 8191, 16383, 32767, 65535, 32767, 262143, 524287, 32767, 1081343, 32767, 7372799, 15761407, 33554431, 67108863] [⟨0, 0, [], ⟨(some 39), (.move (.tmp 9)), none, []⟩⟩,
          ⟨1, 0, [], ⟨(some 40), (.fieldAddr 17 (.tmp 6)), none, []⟩⟩,
          ⟨2, 2, [], ⟨(some 41), (.load none (.tmp 40)), none, []⟩⟩,
          ⟨3, 6, [], ⟨(some 42), (.len (.tmp 41)), none, []⟩⟩,
          ⟨4, 15, [], ⟨(some 43), (.bin .geq (.tmp 39) (.tmp 42)), none, []⟩⟩,
          ⟨5, 31, [], ⟨(some 44), (.move (.tmp 43)), none, []⟩⟩,
          ⟨6, 63, [], ⟨(some 45), (.move (.tmp 3)), (some (44, false)), []⟩⟩,
          ⟨7, 127, [], ⟨(some 46), (.bin .geq (.tmp 45) (.const (.int .i64 0))), (some (44, false)), []⟩⟩,
          ⟨8, 255, [], ⟨(some 47), (.move (.tmp 46)), (some (44, false)), []⟩⟩,
          ⟨9, 511, [], ⟨(some 48), (.move (.tmp 9)), (some (47, true)), []⟩⟩,
          ⟨10, 511, [], ⟨(some 49), (.move (.tmp 3)), (some (47, true)), []⟩⟩,
          ⟨11, 2047, [], ⟨(some 50), (.bin .geq (.tmp 48) (.tmp 49)), (some (47, true)), []⟩⟩,
          ⟨12, 4095, [], ⟨(some 51), (.pick (.tmp 47) (.tmp 50) (.const (.bool false))), (some (44, false)), []⟩⟩,
          ⟨13, 8191, [], ⟨(some 52), (.pick (.tmp 44) (.const (.bool true)) (.tmp 51)), none, []⟩⟩,
          ⟨14, 16383, [], ⟨(some 53), (.move (.tmp 52)), none, []⟩⟩,
          ⟨15, 32767, [], ⟨(some 54), (.fieldAddr 17 (.tmp 6)), (some (53, false)), []⟩⟩,
          ⟨16, 65535, [], ⟨(some 55), (.load none (.tmp 54)), (some (53, false)), []⟩⟩,
          ⟨17, 32767, [], ⟨(some 56), (.move (.tmp 9)), (some (53, false)), []⟩⟩,
          ⟨18, 262143, [], ⟨(some 57), (.indexAddr 5 (.tmp 55) (.tmp 56)), (some (53, false)), []⟩⟩,
          ⟨19, 524287, [], ⟨(some 58), (.load (some 5) (.tmp 57)), (some (53, false)), []⟩⟩,
          ⟨20, 32767, [], ⟨(some 59), (.fieldAddr 17 (.tmp 4)), (some (53, false)), []⟩⟩,
          ⟨21, 1081343, [], ⟨(some 60), (.load none (.tmp 59)), (some (53, false)), []⟩⟩,
          ⟨22, 32767, [], ⟨(some 61), (.move (.tmp 10)), (some (53, false)), []⟩⟩,
          ⟨23, 7372799, [], ⟨(some 62), (.indexAddr 5 (.tmp 60) (.tmp 61)), (some (53, false)), []⟩⟩,
          ⟨24, 15761407, [], ⟨(some 63), (.load (some 5) (.tmp 62)), (some (53, false)), []⟩⟩,
          ⟨25, 33554431, [], ⟨(some 64), (.eqAgg true [(.int .i64), (.int .i64), (.int .i64), (.int .i64), .string] (.tmp 58) (.tmp 63)), (some (53, false)), []⟩⟩,
          ⟨26, 67108863, [], ⟨(some 65), (.pick (.tmp 53) (.const (.bool true)) (.tmp 64)), none, []⟩⟩]))
        (.cond (.tmp 65)
          (.seq (.keep [8] (.ops [⟨(some 8), (.move (.const (.bool false))), none, []⟩]))
          .ret)
          .skip)))
        (.ops [⟨(some 66), (.move (.tmp 9)), none, []⟩,
          ⟨(some 67), (.bin .add (.tmp 66) (.const (.int .i64 1))), none, []⟩,
          ⟨(some 9), (.move (.tmp 67)), none, []⟩]))))))
      (.ops [⟨(some 14), (.move (.tmp 10)), none, []⟩,
        ⟨(some 15), (.bin .add (.tmp 14) (.const (.int .i64 1))), none, []⟩,
        ⟨(some 10), (.move (.tmp 15)), none, []⟩]))))))))
  (.seq (.keep [3, 9] (.block 4
    (.loop
      (.keep [3, 6, 9] (.seq (.keep [3, 6, 9] (.seq (.keep [3, 6, 9, 79] (.ops [⟨(some 68), (.move (.tmp 9)), none, []⟩,
        ⟨(some 69), (.move (.tmp 3)), none, []⟩,
        ⟨(some 70), (.bin .lss (.tmp 68) (.tmp 69)), none, []⟩,
        ⟨(some 71), (.move (.tmp 70)), none, []⟩,
        ⟨(some 72), (.fieldAddr 17 (.tmp 6)), (some (71, true)), []⟩,
        ⟨(some 73), (.load none (.tmp 72)), (some (71, true)), []⟩,
        ⟨(some 74), (.move (.tmp 9)), (some (71, true)), []⟩,
        ⟨(some 75), (.indexAddr 5 (.tmp 73) (.tmp 74)), (some (71, true)), []⟩,
        ⟨(some 76), (.fieldAddr 0 (.tmp 75)), (some (71, true)), []⟩,
        ⟨(some 77), (.load none (.tmp 76)), (some (71, true)), []⟩,
        ⟨(some 78), (.bin .eql (.tmp 77) (.const (.int .i64 1))), (some (71, true)), []⟩,
        ⟨(some 79), (.pick (.tmp 71) (.tmp 78) (.const (.bool false))), none, []⟩]))
      (.cond (.tmp 79)
        .skip
        (.exit 4))))
      (.block 5
        (.ops [⟨(some 80), (.move (.tmp 9)), none, []⟩,
          ⟨(some 81), (.bin .add (.tmp 80) (.const (.int .i64 1))), none, []⟩,
          ⟨(some 9), (.move (.tmp 81)), none, []⟩])))))))
  (.seq (.keep [8] (.ops [⟨(some 82), (.move (.tmp 3)), none, []⟩,
    ⟨(some 83), (.bin .lss (.tmp 82) (.const (.int .i64 0))), none, []⟩,
    ⟨(some 84), (.move (.tmp 83)), none, []⟩,
    ⟨(some 85), (.move (.tmp 9)), (some (84, false)), []⟩,
    ⟨(some 86), (.move (.tmp 3)), (some (84, false)), []⟩,
    ⟨(some 87), (.bin .geq (.tmp 85) (.tmp 86)), (some (84, false)), []⟩,
    ⟨(some 88), (.pick (.tmp 84) (.const (.bool true)) (.tmp 87)), none, []⟩,
    ⟨(some 8), (.move (.tmp 88)), none, []⟩]))
  .ret)))))
theorem t19 : trF Tryd.prog Tryd.f19 s19 = some s19 := by kernel_rfl
theorem k19 : okS s19 = true := by kernel_rfl
theorem r19 : resT Tryd.prog Tryd.f19.results.toList = some [.t 8] := by kernel_rfl

def s20 : S :=
  (.seq (.keep [1] (.ops [⟨(some 1), (.box (.tmp 0)), none, []⟩,
    ⟨(some 2), (.move (.const (.int .i64 0))), none, []⟩]))
  (.seq (.keep [1] (.seq (.keep [1, 15] (.ops [⟨(some 8), (.fieldAddr 16 (.tmp 1)), none, []⟩,
    ⟨(some 9), (.load none (.tmp 8)), none, []⟩,
    ⟨(some 10), (.bin .lss (.tmp 9) (.const (.int .i64 1))), none, []⟩,
    ⟨(some 11), (.move (.tmp 10)), none, []⟩,
    ⟨(some 12), (.fieldAddr 16 (.tmp 1)), (some (11, false)), []⟩,
    ⟨(some 13), (.load none (.tmp 12)), (some (11, false)), []⟩,
    ⟨(some 14), (.bin .gtr (.tmp 13) (.const (.int .i64 4))), (some (11, false)), []⟩,
    ⟨(some 15), (.pick (.tmp 11) (.const (.bool true)) (.tmp 14)), none, []⟩]))
  (.cond (.tmp 15)
    (.seq (.keep [2] (.ops [⟨(some 2), (.move (.const (.int .i64 1))), none, []⟩]))
    .ret)
    .skip)))
  (.seq (.keep [1] (.seq (.keep [1, 25] (.ops [⟨(some 16), (.fieldAddr 17 (.tmp 1)), none, []⟩,
    ⟨(some 17), (.load none (.tmp 16)), none, []⟩,
    ⟨(some 18), (.len (.tmp 17)), none, []⟩,
    ⟨(some 19), (.bin .gtr (.tmp 18) (.const (.int .i64 4096))), none, []⟩,
    ⟨(some 20), (.move (.tmp 19)), none, []⟩,
    ⟨(some 21), (.fieldAddr 18 (.tmp 1)), (some (20, false)), []⟩,
    ⟨(some 22), (.load none (.tmp 21)), (some (20, false)), []⟩,
    ⟨(some 23), (.len (.tmp 22)), (some (20, false)), []⟩,
    ⟨(some 24), (.bin .gtr (.tmp 23) (.const (.int .i64 256))), (some (20, false)), []⟩,
    ⟨(some 25), (.pick (.tmp 20) (.const (.bool true)) (.tmp 24)), none, []⟩]))
  (.cond (.tmp 25)
    (.seq (.keep [2] (.ops [⟨(some 2), (.move (.const (.int .i64 2))), none, []⟩]))
    .ret)
    .skip)))
  (.seq (.keep [1] (.seq (.keep [1, 3] (.ops [⟨(some 3), (.move (.const (.int .i64 0))), none, []⟩]))
  (.block 0
    (.loop
      (.keep [1, 3] (.seq (.keep [1, 3] (.seq (.keep [1, 3, 30] (.ops [⟨(some 26), (.move (.tmp 3)), none, []⟩,
        ⟨(some 27), (.fieldAddr 17 (.tmp 1)), none, []⟩,
        ⟨(some 28), (.load none (.tmp 27)), none, []⟩,
        ⟨(some 29), (.len (.tmp 28)), none, []⟩,
        ⟨(some 30), (.bin .lss (.tmp 26) (.tmp 29)), none, []⟩]))
      (.cond (.tmp 30)
        .skip
        (.exit 0))))
      (.seq (.keep [1, 3] (.block 1
        (.seq (.keep [1, 3, 4] (.draw [0, 1, 0, 7, 15, 0, 32, 127, 255] [⟨0, 0, [], ⟨(some 33), (.fieldAddr 17 (.tmp 1)), none, []⟩⟩,
          ⟨1, 1, [], ⟨(some 34), (.load none (.tmp 33)), none, []⟩⟩,
          ⟨2, 0, [], ⟨(some 35), (.move (.tmp 3)), none, []⟩⟩,
          ⟨3, 7, [], ⟨(some 36), (.indexAddr 5 (.tmp 34) (.tmp 35)), none, []⟩⟩,
          ⟨4, 15, [], ⟨(some 37), (.load (some 5) (.tmp 36)), none, []⟩⟩,
          ⟨5, 0, [], ⟨(some 38), (.fieldAddr 16 (.tmp 1)), none, []⟩⟩,
          ⟨6, 32, [], ⟨(some 39), (.load none (.tmp 38)), none, []⟩⟩,
          ⟨7, 127, [], ⟨(some 40), (.call (.func 33) [(.tmp 37), (.tmp 39)]), none, []⟩⟩,
          ⟨8, 255, [], ⟨(some 4), (.move (.tmp 40)), none, []⟩⟩]))
        (.seq (.keep [1, 3, 62] (.draw [0, 1, 3, 7, 15, 7, 63, 127, 255, 7, 519, 7, 3591, 7, 8199, 7, 57351, 122887, 253959, 523783, 1048575, 2097151] [⟨0, 0, [], ⟨(some 41), (.move (.tmp 4)), none, []⟩⟩,
          ⟨1, 1, [], ⟨(some 42), (.un .not (.tmp 41)), none, []⟩⟩,
          ⟨2, 3, [], ⟨(some 43), (.move (.tmp 42)), none, []⟩⟩,
          ⟨3, 7, [], ⟨(some 44), (.fieldAddr 17 (.tmp 1)), (some (43, false)), []⟩⟩,
          ⟨4, 15, [], ⟨(some 45), (.load none (.tmp 44)), (some (43, false)), []⟩⟩,
          ⟨5, 7, [], ⟨(some 46), (.move (.tmp 3)), (some (43, false)), []⟩⟩,
          ⟨6, 63, [], ⟨(some 47), (.indexAddr 5 (.tmp 45) (.tmp 46)), (some (43, false)), []⟩⟩,
          ⟨7, 127, [], ⟨(some 48), (.fieldAddr 2 (.tmp 47)), (some (43, false)), []⟩⟩,
          ⟨8, 255, [], ⟨(some 49), (.load none (.tmp 48)), (some (43, false)), []⟩⟩,
          ⟨9, 7, [], ⟨(some 50), (.fieldAddr 17 (.tmp 1)), (some (43, false)), []⟩⟩,
          ⟨10, 519, [], ⟨(some 51), (.load none (.tmp 50)), (some (43, false)), []⟩⟩,
          ⟨11, 7, [], ⟨(some 52), (.move (.tmp 3)), (some (43, false)), []⟩⟩,
          ⟨12, 3591, [], ⟨(some 53), (.slice 5 (.tmp 51) none (some (.tmp 52)) none), (some (43, false)), []⟩⟩,
          ⟨13, 7, [], ⟨(some 54), (.fieldAddr 17 (.tmp 1)), (some (43, false)), []⟩⟩,
          ⟨14, 8199, [], ⟨(some 55), (.load none (.tmp 54)), (some (43, false)), []⟩⟩,
          ⟨15, 7, [], ⟨(some 56), (.move (.tmp 3)), (some (43, false)), []⟩⟩,
          ⟨16, 57351, [], ⟨(some 57), (.indexAddr 5 (.tmp 55) (.tmp 56)), (some (43, false)), []⟩⟩,
          ⟨17, 122887, [], ⟨(some 58), (.fieldAddr 1 (.tmp 57)), (some (43, false)), []⟩⟩,
          ⟨18, 253959, [], ⟨(some 59), (.load none (.tmp 58)), (some (43, false)), []⟩⟩,
          ⟨19, 523783, [4, 8], ⟨(some 60), (.call (.func 34) [(.tmp 53), (.tmp 59)]), (some (43, false)), [((.load none (.tmp 44)), (some (43, false)), (some 45)), ((.load none (.tmp 48)), (some (43, false)), (some 49))]⟩⟩,
          ⟨20, 1048575, [], ⟨(some 61), (.bin .neq (.tmp 49) (.tmp 60)), (some (43, false)), []⟩⟩,
          ⟨21, 2097151, [], ⟨(some 62), (.pick (.tmp 43) (.const (.bool true)) (.tmp 61)), none, []⟩⟩]))
        (.cond (.tmp 62)
          (.seq (.keep [2] (.ops [⟨(some 2), (.move (.const (.int .i64 3))), none, []⟩]))
          .ret)
          .skip)))))
      (.ops [⟨(some 31), (.move (.tmp 3)), none, []⟩,
        ⟨(some 32), (.bin .add (.tmp 31) (.const (.int .i64 1))), none, []⟩,
        ⟨(some 3), (.move (.tmp 32)), none, []⟩]))))))))
  (.seq (.keep [1, 5] (.ops [⟨(some 5), (.move (.const (.int .i64 0))), none, []⟩]))
  (.seq (.keep [1] (.seq (.keep [1, 5, 6] (.ops [⟨(some 6), (.move (.const (.int .i64 0))), none, []⟩]))
  (.block 2
    (.loop
      (.keep [1, 5, 6] (.seq (.keep [1, 5, 6] (.seq (.keep [1, 5, 6, 67] (.ops [⟨(some 63), (.move (.tmp 6)), none, []⟩,
        ⟨(some 64), (.fieldAddr 18 (.tmp 1)), none, []⟩,
        ⟨(some 65), (.load none (.tmp 64)), none, []⟩,
        ⟨(some 66), (.len (.tmp 65)), none, []⟩,
        ⟨(some 67), (.bin .lss (.tmp 63) (.tmp 66)), none, []⟩]))
      (.cond (.tmp 67)
        .skip
        (.exit 2))))
      (.seq (.keep [1, 5, 6] (.block 3
        (.seq (.keep [1, 6] (.seq (.keep [1, 6, 89] (.draw [0, 1, 0, 7, 15, 31, 0, 127, 255, 511, 1023, 511, 4095, 8191, 16383, 511, 33279, 98815, 262143, 524287] [⟨0, 0, [], ⟨(some 70), (.fieldAddr 18 (.tmp 1)), none, []⟩⟩,
          ⟨1, 1, [], ⟨(some 71), (.load none (.tmp 70)), none, []⟩⟩,
          ⟨2, 0, [], ⟨(some 72), (.move (.tmp 6)), none, []⟩⟩,
          ⟨3, 7, [], ⟨(some 73), (.indexAddr 33 (.tmp 71) (.tmp 72)), none, []⟩⟩,
          ⟨4, 15, [], ⟨(some 74), (.fieldAddr 0 (.tmp 73)), none, []⟩⟩,
          ⟨5, 31, [], ⟨(some 75), (.load none (.tmp 74)), none, []⟩⟩,
          ⟨6, 0, [], ⟨(some 76), (.move (.tmp 5)), none, []⟩⟩,
          ⟨7, 127, [], ⟨(some 77), (.bin .leq (.tmp 75) (.tmp 76)), none, []⟩⟩,
          ⟨8, 255, [], ⟨(some 78), (.move (.tmp 77)), none, []⟩⟩,
          ⟨9, 511, [], ⟨(some 79), (.fieldAddr 18 (.tmp 1)), (some (78, false)), []⟩⟩,
          ⟨10, 1023, [], ⟨(some 80), (.load none (.tmp 79)), (some (78, false)), []⟩⟩,
          ⟨11, 511, [], ⟨(some 81), (.move (.tmp 6)), (some (78, false)), []⟩⟩,
          ⟨12, 4095, [], ⟨(some 82), (.indexAddr 33 (.tmp 80) (.tmp 81)), (some (78, false)), []⟩⟩,
          ⟨13, 8191, [], ⟨(some 83), (.fieldAddr 0 (.tmp 82)), (some (78, false)), []⟩⟩,
          ⟨14, 16383, [], ⟨(some 84), (.load none (.tmp 83)), (some (78, false)), []⟩⟩,
          ⟨15, 511, [], ⟨(some 85), (.fieldAddr 17 (.tmp 1)), (some (78, false)), []⟩⟩,
          ⟨16, 33279, [], ⟨(some 86), (.load none (.tmp 85)), (some (78, false)), []⟩⟩,
          ⟨17, 98815, [], ⟨(some 87), (.len (.tmp 86)), (some (78, false)), []⟩⟩,
          ⟨18, 262143, [], ⟨(some 88), (.bin .gtr (.tmp 84) (.tmp 87)), (some (78, false)), []⟩⟩,
          ⟨19, 524287, [], ⟨(some 89), (.pick (.tmp 78) (.const (.bool true)) (.tmp 88)), none, []⟩⟩]))
        (.cond (.tmp 89)
          (.seq (.keep [2] (.ops [⟨(some 2), (.move (.const (.int .i64 3))), none, []⟩]))
          .ret)
          .skip)))
        (.ops [⟨(some 90), (.fieldAddr 18 (.tmp 1)), none, []⟩,
          ⟨(some 91), (.load none (.tmp 90)), none, []⟩,
          ⟨(some 92), (.move (.tmp 6)), none, []⟩,
          ⟨(some 93), (.indexAddr 33 (.tmp 91) (.tmp 92)), none, []⟩,
          ⟨(some 94), (.fieldAddr 0 (.tmp 93)), none, []⟩,
          ⟨(some 95), (.load none (.tmp 94)), none, []⟩,
          ⟨(some 5), (.move (.tmp 95)), none, []⟩]))))
      (.ops [⟨(some 68), (.move (.tmp 6)), none, []⟩,
        ⟨(some 69), (.bin .add (.tmp 68) (.const (.int .i64 1))), none, []⟩,
        ⟨(some 6), (.move (.tmp 69)), none, []⟩]))))))))
  (.seq (.keep [] (.seq (.keep [1, 7] (.ops [⟨(some 7), (.move (.const (.int .i64 0))), none, []⟩]))
  (.block 4
    (.loop
      (.keep [1, 7] (.seq (.keep [1, 7] (.seq (.keep [1, 7, 100] (.ops [⟨(some 96), (.move (.tmp 7)), none, []⟩,
        ⟨(some 97), (.fieldAddr 18 (.tmp 1)), none, []⟩,
        ⟨(some 98), (.load none (.tmp 97)), none, []⟩,
        ⟨(some 99), (.len (.tmp 98)), none, []⟩,
        ⟨(some 100), (.bin .lss (.tmp 96) (.tmp 99)), none, []⟩]))
      (.cond (.tmp 100)
        .skip
        (.exit 4))))
      (.seq (.keep [1, 7] (.block 5
        (.seq (.keep [1, 7, 117] (.draw [0, 1, 0, 7, 15, 31, 0, 0, 128, 0, 896, 1920, 3968, 8128, 16383] [⟨0, 0, [], ⟨(some 103), (.fieldAddr 18 (.tmp 1)), none, []⟩⟩,
          ⟨1, 1, [], ⟨(some 104), (.load none (.tmp 103)), none, []⟩⟩,
          ⟨2, 0, [], ⟨(some 105), (.move (.tmp 7)), none, []⟩⟩,
          ⟨3, 7, [], ⟨(some 106), (.indexAddr 33 (.tmp 104) (.tmp 105)), none, []⟩⟩,
          ⟨4, 15, [], ⟨(some 107), (.fieldAddr 1 (.tmp 106)), none, []⟩⟩,
          ⟨5, 31, [], ⟨(some 108), (.load (some 16) (.tmp 107)), none, []⟩⟩,
          ⟨6, 0, [], ⟨(some 109), (.load (some 19) (.tmp 1)), none, []⟩⟩,
          ⟨7, 0, [], ⟨(some 110), (.fieldAddr 18 (.tmp 1)), none, []⟩⟩,
          ⟨8, 128, [], ⟨(some 111), (.load none (.tmp 110)), none, []⟩⟩,
          ⟨9, 0, [], ⟨(some 112), (.move (.tmp 7)), none, []⟩⟩,
          ⟨10, 896, [], ⟨(some 113), (.indexAddr 33 (.tmp 111) (.tmp 112)), none, []⟩⟩,
          ⟨11, 1920, [], ⟨(some 114), (.fieldAddr 0 (.tmp 113)), none, []⟩⟩,
          ⟨12, 3968, [], ⟨(some 115), (.load none (.tmp 114)), none, []⟩⟩,
          ⟨13, 8128, [1, 5], ⟨(some 116), (.call (.func 35) [(.tmp 109), (.tmp 115)]), none, [((.load none (.tmp 103)), none, (some 104)), ((.load (some 16) (.tmp 107)), none, (some 108))]⟩⟩,
          ⟨14, 16383, [], ⟨(some 117), (.eqAgg true (List.replicate 16 (.int .u8)) (.tmp 108) (.tmp 116)), none, []⟩⟩]))
        (.cond (.tmp 117)
          (.seq (.keep [2] (.ops [⟨(some 2), (.move (.const (.int .i64 290))), none, []⟩]))
          .ret)
          .skip))))
      (.ops [⟨(some 101), (.move (.tmp 7)), none, []⟩,
        ⟨(some 102), (.bin .add (.tmp 101) (.const (.int .i64 1))), none, []⟩,
        ⟨(some 7), (.move (.tmp 102)), none, []⟩]))))))))
  (.seq (.keep [2] (.ops [⟨(some 2), (.move (.const (.int .i64 0))), none, []⟩]))
  .ret))))))))
theorem t20 : trF Tryd.prog Tryd.f20 s20 = some s20 := by kernel_rfl
theorem k20 : okS s20 = true := by kernel_rfl
theorem r20 : resT Tryd.prog Tryd.f20.results.toList = some [.t 2] := by kernel_rfl

def s21 : S :=
  (.seq (.keep [1, 2] (.ops [⟨(some 2), (.box (.tmp 0)), none, []⟩,
    ⟨(some 4), (.move (.const (.int .i64 0))), none, []⟩]))
  (.seq (.keep [1, 2, 5] (.ops [⟨(some 5), (.move (.const (.int .i64 0))), none, []⟩]))
  (.seq (.keep [5] (.seq (.keep [1, 2, 5, 6] (.ops [⟨(some 6), (.move (.const (.int .i64 0))), none, []⟩]))
  (.block 0
    (.loop
      (.keep [1, 2, 5, 6] (.seq (.keep [1, 2, 5, 6] (.seq (.keep [1, 2, 5, 6, 16] (.ops [⟨(some 7), (.move (.tmp 6)), none, []⟩,
        ⟨(some 8), (.move (.tmp 1)), none, []⟩,
        ⟨(some 9), (.bin .lss (.tmp 7) (.tmp 8)), none, []⟩,
        ⟨(some 10), (.move (.tmp 9)), none, []⟩,
        ⟨(some 11), (.move (.tmp 6)), (some (10, true)), []⟩,
        ⟨(some 12), (.fieldAddr 17 (.tmp 2)), (some (10, true)), []⟩,
        ⟨(some 13), (.load none (.tmp 12)), (some (10, true)), []⟩,
        ⟨(some 14), (.len (.tmp 13)), (some (10, true)), []⟩,
        ⟨(some 15), (.bin .lss (.tmp 11) (.tmp 14)), (some (10, true)), []⟩,
        ⟨(some 16), (.pick (.tmp 10) (.tmp 15) (.const (.bool false))), none, []⟩]))
      (.cond (.tmp 16)
        .skip
        (.exit 0))))
      (.seq (.keep [1, 2, 5, 6] (.block 1
        (.seq (.keep [1, 2, 5, 6, 25] (.ops [⟨(some 19), (.fieldAddr 17 (.tmp 2)), none, []⟩,
          ⟨(some 20), (.load none (.tmp 19)), none, []⟩,
          ⟨(some 21), (.move (.tmp 6)), none, []⟩,
          ⟨(some 22), (.indexAddr 5 (.tmp 20) (.tmp 21)), none, []⟩,
          ⟨(some 23), (.fieldAddr 0 (.tmp 22)), none, []⟩,
          ⟨(some 24), (.load none (.tmp 23)), none, []⟩,
          ⟨(some 25), (.bin .eql (.tmp 24) (.const (.int .i64 1))), none, []⟩]))
        (.cond (.tmp 25)
          (.ops [⟨(some 26), (.move (.tmp 5)), none, []⟩,
            ⟨(some 27), (.fieldAddr 17 (.tmp 2)), none, []⟩,
            ⟨(some 28), (.load none (.tmp 27)), none, []⟩,
            ⟨(some 29), (.move (.tmp 6)), none, []⟩,
            ⟨(some 30), (.indexAddr 5 (.tmp 28) (.tmp 29)), none, []⟩,
            ⟨(some 31), (.fieldAddr 3 (.tmp 30)), none, []⟩,
            ⟨(some 32), (.load none (.tmp 31)), none, []⟩,
            ⟨(some 33), (.bin .add (.tmp 26) (.tmp 32)), none, []⟩,
            ⟨(some 5), (.move (.tmp 33)), none, []⟩])
          .skip))))
      (.ops [⟨(some 17), (.move (.tmp 6)), none, []⟩,
        ⟨(some 18), (.bin .add (.tmp 17) (.const (.int .i64 1))), none, []⟩,
        ⟨(some 6), (.move (.tmp 18)), none, []⟩]))))))))
  (.seq (.keep [4] (.ops [⟨(some 34), (.move (.tmp 5)), none, []⟩,
    ⟨(some 4), (.move (.tmp 34)), none, []⟩]))
  .ret))))
theorem t21 : trF Tryd.prog Tryd.f21 s21 = some s21 := by kernel_rfl
theorem k21 : okS s21 = true := by kernel_rfl
theorem r21 : resT Tryd.prog Tryd.f21.results.toList = some [.t 4] := by kernel_rfl

def s22 : S :=
  (.seq (.keep [0, 2] (.ops [⟨(some 2), (.alloc (.agg #[(.int .u8 0), (.int .u8 0), (.int .u8 0), (.int .u8 0), (.int .u8 0), (.int .u8 0), (.int .u8 0), (.int .u8 0), (.int .u8 0), (.int .u8 0), (.int .u8 0), (.int .u8 0), (.int .u8 0), (.int .u8 0), (.int .u8 0), (.int .u8 0), (.int .i64 0), (.slice none 0 0), (.slice none 0 0)])), none, []⟩]))
  (.seq (.keep [0, 2, 3] (.ops [⟨(some 6), (.build [(.int .u8 0), (.int .u8 0), (.int .u8 0), (.int .u8 0), (.int .u8 0), (.int .u8 0), (.int .u8 0), (.int .u8 0), (.int .u8 0), (.int .u8 0), (.int .u8 0), (.int .u8 0), (.int .u8 0), (.int .u8 0), (.int .u8 0), (.int .u8 0), (.int .i64 0), (.slice none 0 0), (.slice none 0 0)] [(16, 1, (.const (.int .i64 1)))]), none, []⟩,
    ⟨(some 3), (.alloc (.agg #[(.int .u8 0), (.int .u8 0), (.int .u8 0), (.int .u8 0), (.int .u8 0), (.int .u8 0), (.int .u8 0), (.int .u8 0), (.int .u8 0), (.int .u8 0), (.int .u8 0), (.int .u8 0), (.int .u8 0), (.int .u8 0), (.int .u8 0), (.int .u8 0), (.int .i64 0), (.slice none 0 0), (.slice none 0 0)])), none, []⟩,
    ⟨none, (.store 19 (.tmp 3) (.tmp 6)), none, []⟩]))
  (.seq (.keep [0, 2, 3, 4] (.ops [⟨(some 4), (.move (.const (.int .i64 0))), none, []⟩]))
  (.seq (.keep [2, 3] (.seq (.keep [0, 2, 3, 4, 5] (.ops [⟨(some 5), (.move (.const (.int .i64 0))), none, []⟩]))
  (.block 0
    (.loop
      (.keep [0, 2, 3, 4, 5] (.seq (.keep [0, 2, 3, 4, 5] (.seq (.keep [0, 2, 3, 4, 5, 10] (.ops [⟨(some 7), (.move (.tmp 5)), none, []⟩,
        ⟨(some 8), (.move (.tmp 0)), none, []⟩,
        ⟨(some 9), (.len (.tmp 8)), none, []⟩,
        ⟨(some 10), (.bin .lss (.tmp 7) (.tmp 9)), none, []⟩]))
      (.cond (.tmp 10)
        .skip
        (.exit 0))))
      (.seq (.keep [0, 2, 3, 4, 5] (.block 1
        (.seq (.keep [0, 2, 3, 4, 5, 17] (.ops [⟨(some 13), (.move (.tmp 0)), none, []⟩,
          ⟨(some 14), (.move (.tmp 5)), none, []⟩,
          ⟨(some 15), (.indexAddr 1 (.tmp 13) (.tmp 14)), none, []⟩,
          ⟨(some 16), (.load none (.tmp 15)), none, []⟩,
          ⟨(some 17), (.bin .gtr (.tmp 16) (.const (.int .i64 0))), none, []⟩]))
        (.cond (.tmp 17)
          (.seq (.keep [0, 2, 3, 4, 5] (.draw [0, 1, 0, 0, 0, 24, 56, 124, 252, 511, 1023, 2047] [⟨0, 0, [], ⟨(some 18), (.fieldAddr 17 (.tmp 3)), none, []⟩⟩,
            ⟨1, 1, [], ⟨(some 19), (.load none (.tmp 18)), none, []⟩⟩,
            ⟨2, 0, [], ⟨(some 20), (.move (.tmp 4)), none, []⟩⟩,
            ⟨3, 0, [], ⟨(some 21), (.move (.tmp 0)), none, []⟩⟩,
            ⟨4, 0, [], ⟨(some 22), (.move (.tmp 5)), none, []⟩⟩,
            ⟨5, 24, [], ⟨(some 23), (.indexAddr 1 (.tmp 21) (.tmp 22)), none, []⟩⟩,
            ⟨6, 56, [], ⟨(some 24), (.load none (.tmp 23)), none, []⟩⟩,
            ⟨7, 124, [], ⟨(some 25), (.build [(.int .i64 0), (.int .i64 0), (.int .i64 0), (.int .i64 0), (.string ⟨#[]⟩)] [(0, 1, (.const (.int .i64 1))), (2, 1, (.tmp 20)), (3, 1, (.tmp 24))]), none, []⟩⟩,
            ⟨8, 252, [], ⟨(some 26), (.buildSlice 1 [(.int .i64 0), (.int .i64 0), (.int .i64 0), (.int .i64 0), (.string ⟨#[]⟩)] [(0, 5, (.tmp 25))]), none, []⟩⟩,
            ⟨9, 511, [], ⟨(some 27), (.append 5 48 (.tmp 19) (.tmp 26)), none, []⟩⟩,
            ⟨10, 1023, [], ⟨(some 28), (.fieldAddr 17 (.tmp 3)), none, []⟩⟩,
            ⟨11, 2047, [], ⟨none, (.store 1 (.tmp 28) (.tmp 27)), none, []⟩⟩]))
          (.ops [⟨(some 29), (.move (.tmp 4)), none, []⟩,
            ⟨(some 30), (.move (.tmp 0)), none, []⟩,
            ⟨(some 31), (.move (.tmp 5)), none, []⟩,
            ⟨(some 32), (.indexAddr 1 (.tmp 30) (.tmp 31)), none, []⟩,
            ⟨(some 33), (.load none (.tmp 32)), none, []⟩,
            ⟨(some 34), (.bin .add (.tmp 29) (.tmp 33)), none, []⟩,
            ⟨(some 4), (.move (.tmp 34)), none, []⟩]))
          (.draw [0, 1, 0, 0, 0, 24, 56, 120, 248, 504, 1016, 2044, 4092, 8191, 16383, 32767] [⟨0, 0, [], ⟨(some 35), (.fieldAddr 17 (.tmp 3)), none, []⟩⟩,
            ⟨1, 1, [], ⟨(some 36), (.load none (.tmp 35)), none, []⟩⟩,
            ⟨2, 0, [], ⟨(some 37), (.move (.tmp 4)), none, []⟩⟩,
            ⟨3, 0, [], ⟨(some 38), (.move (.tmp 0)), none, []⟩⟩,
            ⟨4, 0, [], ⟨(some 39), (.move (.tmp 5)), none, []⟩⟩,
            ⟨5, 24, [], ⟨(some 40), (.indexAddr 1 (.tmp 38) (.tmp 39)), none, []⟩⟩,
            ⟨6, 56, [], ⟨(some 41), (.load none (.tmp 40)), none, []⟩⟩,
            ⟨7, 120, [], ⟨(some 42), (.un .neg (.tmp 41)), none, []⟩⟩,
            ⟨8, 248, [], ⟨(some 43), (.convInt .u8 (.tmp 42)), none, []⟩⟩,
            ⟨9, 504, [], ⟨(some 44), (.buildSlice 1 [(.int .u8 0)] [(0, 1, (.tmp 43))]), none, []⟩⟩,
            ⟨10, 1016, [], ⟨(some 45), (.bytesStr (.tmp 44)), none, []⟩⟩,
            ⟨11, 2044, [], ⟨(some 46), (.build [(.int .i64 0), (.int .i64 0), (.int .i64 0), (.int .i64 0), (.string ⟨#[]⟩)] [(0, 1, (.const (.int .i64 3))), (2, 1, (.tmp 37)), (4, 1, (.tmp 45))]), none, []⟩⟩,
            ⟨12, 4092, [], ⟨(some 47), (.buildSlice 1 [(.int .i64 0), (.int .i64 0), (.int .i64 0), (.int .i64 0), (.string ⟨#[]⟩)] [(0, 5, (.tmp 46))]), none, []⟩⟩,
            ⟨13, 8191, [], ⟨(some 48), (.append 5 48 (.tmp 36) (.tmp 47)), none, []⟩⟩,
            ⟨14, 16383, [], ⟨(some 49), (.fieldAddr 17 (.tmp 3)), none, []⟩⟩,
            ⟨15, 32767, [], ⟨none, (.store 1 (.tmp 49) (.tmp 48)), none, []⟩⟩])))))
      (.ops [⟨(some 11), (.move (.tmp 5)), none, []⟩,
        ⟨(some 12), (.bin .add (.tmp 11) (.const (.int .i64 1))), none, []⟩,
        ⟨(some 5), (.move (.tmp 12)), none, []⟩]))))))))
  (.seq (.keep [2] (.ops [⟨(some 50), (.load (some 19) (.tmp 3)), none, []⟩,
    ⟨none, (.store 19 (.tmp 2) (.tmp 50)), none, []⟩]))
  .ret)))))
theorem t22 : trF Tryd.prog Tryd.f22 s22 = some s22 := by kernel_rfl
theorem k22 : okS s22 = true := by kernel_rfl
theorem r22 : resT Tryd.prog Tryd.f22.results.toList = some [.c 2 (some 19)] := by kernel_rfl

def s23 : S :=
  (.seq (.keep [2, 3, 4, 5] (.ops [⟨(some 2), (.box (.tmp 0)), none, []⟩,
    ⟨(some 3), (.box (.tmp 1)), none, []⟩,
    ⟨(some 4), (.alloc (.agg #[(.int .u8 0), (.int .u8 0), (.int .u8 0), (.int .u8 0), (.int .u8 0), (.int .u8 0), (.int .u8 0), (.int .u8 0), (.int .u8 0), (.int .u8 0), (.int .u8 0), (.int .u8 0), (.int .u8 0), (.int .u8 0), (.int .u8 0), (.int .u8 0), (.int .i64 0), (.slice none 0 0), (.slice none 0 0), (.int .i64 0), (.int .i64 0)])), none, []⟩,
    ⟨(some 5), (.alloc (.agg #[(.int .i64 0), (.int .i64 0), (.int .i64 0), (.int .i64 0), (.int .i64 0), (.int .i64 0), (.int .i64 0), (.string ⟨#[]⟩), (.bool false)])), none, []⟩,
    ⟨(some 6), (.move (.const (.int .i64 0))), none, []⟩]))
  (.seq (.keep [2, 3, 4, 5] (.block 0
    (.seq (.keep [2, 3, 4, 5, 9] (.ops [⟨(some 10), (.fieldAddr 19 (.tmp 2)), none, []⟩,
      ⟨(some 11), (.load none (.tmp 10)), none, []⟩,
      ⟨(some 12), (.fieldAddr 19 (.tmp 3)), none, []⟩,
      ⟨(some 13), (.load none (.tmp 12)), none, []⟩,
      ⟨(some 14), (.bin .neq (.tmp 11) (.tmp 13)), none, []⟩,
      ⟨(some 9), (.move (.tmp 14)), none, []⟩]))
    (.cond (.tmp 9)
      (.seq (.keep [4, 5, 6] (.ops [⟨(some 15), (.build [(.int .u8 0), (.int .u8 0), (.int .u8 0), (.int .u8 0), (.int .u8 0), (.int .u8 0), (.int .u8 0), (.int .u8 0), (.int .u8 0), (.int .u8 0), (.int .u8 0), (.int .u8 0), (.int .u8 0), (.int .u8 0), (.int .u8 0), (.int .u8 0), (.int .i64 0), (.slice none 0 0), (.slice none 0 0), (.int .i64 0), (.int .i64 0)] []), none, []⟩,
        ⟨(some 16), (.build [(.int .i64 0), (.int .i64 0), (.int .i64 0), (.int .i64 0), (.int .i64 0), (.int .i64 0), (.int .i64 0), (.string ⟨#[]⟩), (.bool false)] []), none, []⟩,
        ⟨none, (.store 21 (.tmp 4) (.tmp 15)), none, []⟩,
        ⟨none, (.store 9 (.tmp 5) (.tmp 16)), none, []⟩,
        ⟨(some 6), (.move (.const (.int .i64 1))), none, []⟩]))
      .ret)
      (.seq (.keep [2, 3, 4, 5, 17] (.ops [⟨(some 18), (.fieldAddr 20 (.tmp 3)), none, []⟩,
        ⟨(some 19), (.load none (.tmp 18)), none, []⟩,
        ⟨(some 20), (.fieldAddr 19 (.tmp 3)), none, []⟩,
        ⟨(some 21), (.load none (.tmp 20)), none, []⟩,
        ⟨(some 22), (.bin .neq (.tmp 19) (.tmp 21)), none, []⟩,
        ⟨(some 17), (.move (.tmp 22)), none, []⟩]))
      (.cond (.tmp 17)
        (.seq (.keep [4, 5, 6] (.ops [⟨(some 23), (.build [(.int .u8 0), (.int .u8 0), (.int .u8 0), (.int .u8 0), (.int .u8 0), (.int .u8 0), (.int .u8 0), (.int .u8 0), (.int .u8 0), (.int .u8 0), (.int .u8 0), (.int .u8 0), (.int .u8 0), (.int .u8 0), (.int .u8 0), (.int .u8 0), (.int .i64 0), (.slice none 0 0), (.slice none 0 0), (.int .i64 0), (.int .i64 0)] []), none, []⟩,
          ⟨(some 24), (.build [(.int .i64 0), (.int .i64 0), (.int .i64 0), (.int .i64 0), (.int .i64 0), (.int .i64 0), (.int .i64 0), (.string ⟨#[]⟩), (.bool false)] []), none, []⟩,
          ⟨none, (.store 21 (.tmp 4) (.tmp 23)), none, []⟩,
          ⟨none, (.store 9 (.tmp 5) (.tmp 24)), none, []⟩,
          ⟨(some 6), (.move (.const (.int .i64 4))), none, []⟩]))
        .ret)
        .skip))))))
  (.seq (.keep [2, 3, 4, 5] (.seq (.keep [2, 3, 4, 5, 7, 8] (.ops [⟨(some 26), (.fieldAddr 0 (.tmp 2)), none, []⟩,
    ⟨(some 27), (.load (some 19) (.tmp 26)), none, []⟩,
    ⟨(some 28), (.fieldAddr 0 (.tmp 3)), none, []⟩,
    ⟨(some 29), (.load (some 19) (.tmp 28)), none, []⟩,
    ⟨(some 30), (.call (.func 10) [(.tmp 27), (.tmp 29)]), none, []⟩,
    ⟨(some 25), (.move (.tmp 30)), none, []⟩,
    ⟨(some 31), (.extract (.tmp 25) 0), none, []⟩,
    ⟨(some 32), (.extract (.tmp 25) 1), none, []⟩,
    ⟨(some 7), (.alloc (.agg #[(.int .i64 0), (.int .i64 0), (.int .i64 0), (.int .i64 0), (.int .i64 0), (.int .i64 0), (.int .i64 0), (.string ⟨#[]⟩), (.bool false)])), none, []⟩,
    ⟨none, (.store 9 (.tmp 7) (.tmp 31)), none, []⟩,
    ⟨(some 8), (.move (.tmp 32)), none, []⟩]))
  (.seq (.keep [2, 3, 4, 5, 7, 34] (.ops [⟨(some 33), (.move (.tmp 8)), none, []⟩,
    ⟨(some 34), (.un .not (.tmp 33)), none, []⟩]))
  (.cond (.tmp 34)
    (.seq (.keep [4, 5, 6] (.draw [0, 0, 1, 7, 15] [⟨0, 0, [], ⟨(some 35), (.build [(.int .u8 0), (.int .u8 0), (.int .u8 0), (.int .u8 0), (.int .u8 0), (.int .u8 0), (.int .u8 0), (.int .u8 0), (.int .u8 0), (.int .u8 0), (.int .u8 0), (.int .u8 0), (.int .u8 0), (.int .u8 0), (.int .u8 0), (.int .u8 0), (.int .i64 0), (.slice none 0 0), (.slice none 0 0), (.int .i64 0), (.int .i64 0)] []), none, []⟩⟩,
      ⟨1, 0, [], ⟨(some 36), (.load (some 9) (.tmp 7)), none, []⟩⟩,
      ⟨2, 1, [1], ⟨none, (.store 21 (.tmp 4) (.tmp 35)), none, [((.load (some 9) (.tmp 7)), none, (some 36))]⟩⟩,
      ⟨3, 7, [], ⟨none, (.store 9 (.tmp 5) (.tmp 36)), none, []⟩⟩,
      ⟨4, 15, [], ⟨(some 6), (.move (.const (.int .i64 3))), none, []⟩⟩]))
    .ret)
    .skip))))
  (.seq (.keep [2, 4, 5] (.ops [⟨(some 37), (.fieldAddr 0 (.tmp 3)), none, []⟩,
    ⟨(some 38), (.load (some 19) (.tmp 37)), none, []⟩,
    ⟨(some 39), (.fieldAddr 0 (.tmp 2)), none, []⟩,
    ⟨none, (.store 19 (.tmp 39) (.tmp 38)), none, []⟩]))
  (.seq (.keep [4, 5, 6] (.ops [⟨(some 40), (.load (some 21) (.tmp 2)), none, []⟩,
    ⟨(some 41), (.build [(.int .i64 0), (.int .i64 0), (.int .i64 0), (.int .i64 0), (.int .i64 0), (.int .i64 0), (.int .i64 0), (.string ⟨#[]⟩), (.bool false)] []), none, []⟩,
    ⟨none, (.store 21 (.tmp 4) (.tmp 40)), none, []⟩,
    ⟨none, (.store 9 (.tmp 5) (.tmp 41)), none, []⟩,
    ⟨(some 6), (.move (.const (.int .i64 0))), none, []⟩]))
  .ret)))))
theorem t23 : trF Tryd.prog Tryd.f23 s23 = some s23 := by kernel_rfl
theorem k23 : okS s23 = true := by kernel_rfl
theorem r23 : resT Tryd.prog Tryd.f23.results.toList = some [.c 4 (some 21), .c 5 (some 9), .t 6] := by kernel_rfl

def s24 : S :=
  (.seq (.keep [0, 2] (.ops [⟨(some 2), (.alloc (.agg #[(.int .i64 0), (.int .i64 0), (.int .i64 0), (.int .i64 0), (.string ⟨#[]⟩)])), none, []⟩,
    ⟨(some 3), (.move (.const (.bool false))), none, []⟩]))
  (.seq (.keep [0, 2] (.seq (.keep [0, 2, 14] (.draw [0, 1, 3, 7, 0, 16, 48, 112, 240, 496, 1023] [⟨0, 0, [], ⟨(some 4), (.move (.tmp 0)), none, []⟩⟩,
    ⟨1, 1, [], ⟨(some 5), (.nilCheck (.tmp 4)), none, []⟩⟩,
    ⟨2, 3, [], ⟨(some 6), (.fieldAddr 19 (.tmp 5)), none, []⟩⟩,
    ⟨3, 7, [], ⟨(some 7), (.load none (.tmp 6)), none, []⟩⟩,
    ⟨4, 0, [], ⟨(some 8), (.move (.tmp 0)), none, []⟩⟩,
    ⟨5, 16, [], ⟨(some 9), (.nilCheck (.tmp 8)), none, []⟩⟩,
    ⟨6, 48, [], ⟨(some 10), (.fieldAddr 0 (.tmp 9)), none, []⟩⟩,
    ⟨7, 112, [], ⟨(some 11), (.fieldAddr 17 (.tmp 10)), none, []⟩⟩,
    ⟨8, 240, [], ⟨(some 12), (.load none (.tmp 11)), none, []⟩⟩,
    ⟨9, 496, [], ⟨(some 13), (.len (.tmp 12)), none, []⟩⟩,
    ⟨10, 1023, [], ⟨(some 14), (.bin .geq (.tmp 7) (.tmp 13)), none, []⟩⟩]))
  (.cond (.tmp 14)
    (.seq (.keep [2, 3] (.ops [⟨(some 15), (.build [(.int .i64 0), (.int .i64 0), (.int .i64 0), (.int .i64 0), (.string ⟨#[]⟩)] []), none, []⟩,
      ⟨none, (.store 5 (.tmp 2) (.tmp 15)), none, []⟩,
      ⟨(some 3), (.move (.const (.bool false))), none, []⟩]))
    .ret)
    .skip)))
  (.seq (.keep [2, 3] (.draw [0, 1, 3, 7, 15, 0, 32, 96, 224, 511, 1023, 2047, 4095] [⟨0, 0, [], ⟨(some 16), (.move (.tmp 0)), none, []⟩⟩,
    ⟨1, 1, [], ⟨(some 17), (.nilCheck (.tmp 16)), none, []⟩⟩,
    ⟨2, 3, [], ⟨(some 18), (.fieldAddr 0 (.tmp 17)), none, []⟩⟩,
    ⟨3, 7, [], ⟨(some 19), (.fieldAddr 17 (.tmp 18)), none, []⟩⟩,
    ⟨4, 15, [], ⟨(some 20), (.load none (.tmp 19)), none, []⟩⟩,
    ⟨5, 0, [], ⟨(some 21), (.move (.tmp 0)), none, []⟩⟩,
    ⟨6, 32, [], ⟨(some 22), (.nilCheck (.tmp 21)), none, []⟩⟩,
    ⟨7, 96, [], ⟨(some 23), (.fieldAddr 19 (.tmp 22)), none, []⟩⟩,
    ⟨8, 224, [], ⟨(some 24), (.load none (.tmp 23)), none, []⟩⟩,
    ⟨9, 511, [], ⟨(some 25), (.indexAddr 5 (.tmp 20) (.tmp 24)), none, []⟩⟩,
    ⟨10, 1023, [], ⟨(some 26), (.load (some 5) (.tmp 25)), none, []⟩⟩,
    ⟨11, 2047, [], ⟨none, (.store 5 (.tmp 2) (.tmp 26)), none, []⟩⟩,
    ⟨12, 4095, [], ⟨(some 3), (.move (.const (.bool true))), none, []⟩⟩]))
  .ret)))
theorem t24 : trF Tryd.prog Tryd.f24 s24 = some s24 := by kernel_rfl
theorem k24 : okS s24 = true := by kernel_rfl
theorem r24 : resT Tryd.prog Tryd.f24.results.toList = some [.c 2 (some 5), .t 3] := by kernel_rfl

def s25 : S :=
  (.seq (.keep [1] (.ops [⟨(some 1), (.box (.tmp 0)), none, []⟩,
    ⟨(some 2), (.move (.const (.bool false))), none, []⟩]))
  (.seq (.keep [2] (.ops [⟨(some 3), (.fieldAddr 0 (.tmp 1)), none, []⟩,
    ⟨(some 4), (.load none (.tmp 3)), none, []⟩,
    ⟨(some 5), (.bin .eql (.tmp 4) (.const (.int .i64 1))), none, []⟩,
    ⟨(some 2), (.move (.tmp 5)), none, []⟩]))
  .ret))
theorem t25 : trF Tryd.prog Tryd.f25 s25 = some s25 := by kernel_rfl
theorem k25 : okS s25 = true := by kernel_rfl
theorem r25 : resT Tryd.prog Tryd.f25.results.toList = some [.t 2] := by kernel_rfl

def s26 : S :=
  (.seq (.keep [0, 1] (.ops [⟨(some 4), (.move (.tmp 0)), none, []⟩,
    ⟨(some 5), (.nilCheck (.tmp 4)), none, []⟩,
    ⟨(some 6), (.fieldAddr 20 (.tmp 5)), none, []⟩,
    ⟨(some 7), (.load none (.tmp 6)), none, []⟩,
    ⟨(some 8), (.move (.tmp 1)), none, []⟩,
    ⟨(some 9), (.bin .add (.tmp 7) (.tmp 8)), none, []⟩,
    ⟨(some 10), (.nilCheck (.tmp 4)), none, []⟩,
    ⟨(some 11), (.fieldAddr 20 (.tmp 10)), none, []⟩,
    ⟨none, (.store 1 (.tmp 11) (.tmp 9)), none, []⟩]))
  (.seq (.keep [0, 32] (.draw [0, 1, 3, 7, 0, 16, 48, 112, 240, 0, 512, 1536, 3584, 8176, 16368, 32752, 65535, 131071, 262143, 524287, 1048575] [⟨0, 0, [], ⟨(some 12), (.move (.tmp 0)), none, []⟩⟩,
    ⟨1, 1, [], ⟨(some 13), (.nilCheck (.tmp 12)), none, []⟩⟩,
    ⟨2, 3, [], ⟨(some 14), (.fieldAddr 20 (.tmp 13)), none, []⟩⟩,
    ⟨3, 7, [], ⟨(some 15), (.load none (.tmp 14)), none, []⟩⟩,
    ⟨4, 0, [], ⟨(some 16), (.move (.tmp 0)), none, []⟩⟩,
    ⟨5, 16, [], ⟨(some 17), (.nilCheck (.tmp 16)), none, []⟩⟩,
    ⟨6, 48, [], ⟨(some 18), (.fieldAddr 0 (.tmp 17)), none, []⟩⟩,
    ⟨7, 112, [], ⟨(some 19), (.fieldAddr 17 (.tmp 18)), none, []⟩⟩,
    ⟨8, 240, [], ⟨(some 20), (.load none (.tmp 19)), none, []⟩⟩,
    ⟨9, 0, [], ⟨(some 21), (.move (.tmp 0)), none, []⟩⟩,
    ⟨10, 512, [], ⟨(some 22), (.nilCheck (.tmp 21)), none, []⟩⟩,
    ⟨11, 1536, [], ⟨(some 23), (.fieldAddr 19 (.tmp 22)), none, []⟩⟩,
    ⟨12, 3584, [], ⟨(some 24), (.load none (.tmp 23)), none, []⟩⟩,
    ⟨13, 8176, [], ⟨(some 25), (.indexAddr 5 (.tmp 20) (.tmp 24)), none, []⟩⟩,
    ⟨14, 16368, [], ⟨(some 26), (.fieldAddr 3 (.tmp 25)), none, []⟩⟩,
    ⟨15, 32752, [], ⟨(some 27), (.load none (.tmp 26)), none, []⟩⟩,
    ⟨16, 65535, [], ⟨(some 28), (.bin .geq (.tmp 15) (.tmp 27)), none, []⟩⟩,
    ⟨17, 131071, [], ⟨(some 29), (.move (.tmp 28)), none, []⟩⟩,
    ⟨18, 262143, [], ⟨(some 30), (.move (.tmp 1)), (some (29, false)), []⟩⟩,
    ⟨19, 524287, [], ⟨(some 31), (.bin .eql (.tmp 30) (.const (.int .i64 0))), (some (29, false)), []⟩⟩,
    ⟨20, 1048575, [], ⟨(some 32), (.pick (.tmp 29) (.const (.bool true)) (.tmp 31)), none, []⟩⟩]))
  (.cond (.tmp 32)
    (.ops [⟨(some 33), (.move (.tmp 0)), none, []⟩,
      ⟨(some 34), (.move (.tmp 0)), none, []⟩,
      ⟨(some 35), (.move (.tmp 0)), none, []⟩,
      ⟨(some 36), (.nilCheck (.tmp 35)), none, []⟩,
      ⟨(some 37), (.fieldAddr 19 (.tmp 36)), none, []⟩,
      ⟨(some 38), (.load none (.tmp 37)), none, []⟩,
      ⟨(some 39), (.bin .add (.tmp 38) (.const (.int .i64 1))), none, []⟩,
      ⟨(some 40), (.nilCheck (.tmp 33)), none, []⟩,
      ⟨(some 41), (.fieldAddr 19 (.tmp 40)), none, []⟩,
      ⟨none, (.store 1 (.tmp 41) (.tmp 39)), none, []⟩,
      ⟨(some 42), (.nilCheck (.tmp 34)), none, []⟩,
      ⟨(some 43), (.fieldAddr 20 (.tmp 42)), none, []⟩,
      ⟨none, (.store 1 (.tmp 43) (.const (.int .i64 0))), none, []⟩])
    .skip)))
theorem t26 : trF Tryd.prog Tryd.f26 s26 = some s26 := by kernel_rfl
theorem k26 : okS s26 = true := by kernel_rfl
theorem r26 : resT Tryd.prog Tryd.f26.results.toList = some [] := by kernel_rfl

def s27 : S :=
  (.seq (.keep [0, 1] (.ops [⟨(some 4), (.move (.const (.slice none 0 0))), none, []⟩]))
  (.seq (.keep [0, 1, 5] (.ops [⟨(some 5), (.move (.const (.slice none 0 0))), none, []⟩]))
  (.seq (.keep [5] (.seq (.keep [1, 5, 8, 9, 10] (.ops [⟨(some 8), (.move (.tmp 0)), none, []⟩,
    ⟨(some 9), (.len (.tmp 8)), none, []⟩,
    ⟨(some 10), (.move (.const (.int .i64 0))), none, []⟩]))
  (.block 0
    (.loop
      (.keep [1, 5, 8, 9, 10] (.seq (.keep [1, 5, 8, 9, 10, 11] (.ops [⟨(some 11), (.bin .lss (.tmp 10) (.tmp 9)), none, []⟩]))
      (.seq (.keep [1, 5, 8, 9, 10] (.cond (.tmp 11)
        .skip
        (.exit 0)))
      (.seq (.keep [1, 5, 8, 9, 10] (.block 1
        (.seq (.keep [1, 5, 6, 7, 8, 9, 10] (.ops [⟨(some 12), (.move (.tmp 10)), none, []⟩,
          ⟨(some 13), (.indexAddr 5 (.tmp 8) (.tmp 10)), none, []⟩,
          ⟨(some 14), (.load (some 5) (.tmp 13)), none, []⟩,
          ⟨(some 7), (.alloc (.agg #[(.int .i64 0), (.int .i64 0), (.int .i64 0), (.int .i64 0), (.string ⟨#[]⟩)])), none, []⟩,
          ⟨(some 6), (.move (.tmp 12)), none, []⟩,
          ⟨none, (.store 5 (.tmp 7) (.tmp 14)), none, []⟩]))
        (.seq (.keep [1, 5, 7, 8, 9, 10, 18] (.ops [⟨(some 15), (.move (.tmp 1)), none, []⟩,
          ⟨(some 16), (.move (.tmp 6)), none, []⟩,
          ⟨(some 17), (.load (some 5) (.tmp 7)), none, []⟩,
          ⟨(some 18), (.call (.tmp 15) [(.tmp 16), (.tmp 17)]), none, []⟩]))
        (.cond (.tmp 18)
          (.ops [⟨(some 19), (.move (.tmp 5)), none, []⟩,
            ⟨(some 20), (.load (some 5) (.tmp 7)), none, []⟩,
            ⟨(some 21), (.buildSlice 1 [(.int .i64 0), (.int .i64 0), (.int .i64 0), (.int .i64 0), (.string ⟨#[]⟩)] [(0, 5, (.tmp 20))]), none, []⟩,
            ⟨(some 22), (.append 5 48 (.tmp 19) (.tmp 21)), none, []⟩,
            ⟨(some 5), (.move (.tmp 22)), none, []⟩])
          .skip)))))
      (.ops [⟨(some 23), (.bin .add (.tmp 10) (.const (.int .i64 1))), none, []⟩,
        ⟨(some 10), (.move (.tmp 23)), none, []⟩])))))))))
  (.seq (.keep [4] (.ops [⟨(some 24), (.move (.tmp 5)), none, []⟩,
    ⟨(some 4), (.move (.tmp 24)), none, []⟩]))
  .ret))))
theorem t27 : trF Tryd.prog Tryd.f27 s27 = some s27 := by kernel_rfl
theorem k27 : okS s27 = true := by kernel_rfl
theorem r27 : resT Tryd.prog Tryd.f27.results.toList = some [.t 4] := by kernel_rfl

def s28 : S :=
  (.seq (.keep [0, 2] (.ops [⟨(some 4), (.box (.tmp 1)), none, []⟩,
    ⟨(some 5), (.move (.const (.bool false))), none, []⟩]))
  (.seq (.keep [5] (.ops [⟨(some 6), (.move (.tmp 0)), none, []⟩,
    ⟨(some 7), (.load none (.tmp 2)), none, []⟩,
    ⟨(some 8), (.bin .neq (.tmp 6) (.tmp 7)), none, []⟩,
    ⟨(some 5), (.move (.tmp 8)), none, []⟩]))
  .ret))
theorem t28 : trF Tryd.prog Tryd.f28 s28 = some s28 := by kernel_rfl
theorem k28 : okS s28 = true := by kernel_rfl
theorem r28 : resT Tryd.prog Tryd.f28.results.toList = some [.t 5] := by kernel_rfl

def s29 : S :=
  (.seq (.keep [0, 1] (.ops [⟨(some 4), (.move (.const (.slice none 0 0))), none, []⟩]))
  (.seq (.keep [0, 1, 5] (.ops [⟨(some 5), (.move (.const (.slice none 0 0))), none, []⟩]))
  (.seq (.keep [5] (.seq (.keep [1, 5, 8, 9, 10] (.ops [⟨(some 8), (.move (.tmp 0)), none, []⟩,
    ⟨(some 9), (.len (.tmp 8)), none, []⟩,
    ⟨(some 10), (.move (.const (.int .i64 0))), none, []⟩]))
  (.block 0
    (.loop
      (.keep [1, 5, 8, 9, 10] (.seq (.keep [1, 5, 8, 9, 10, 11] (.ops [⟨(some 11), (.bin .lss (.tmp 10) (.tmp 9)), none, []⟩]))
      (.seq (.keep [1, 5, 8, 9, 10] (.cond (.tmp 11)
        .skip
        (.exit 0)))
      (.seq (.keep [1, 5, 8, 9, 10] (.block 1
        (.seq (.keep [1, 5, 6, 7, 8, 9, 10] (.ops [⟨(some 12), (.move (.tmp 10)), none, []⟩,
          ⟨(some 13), (.indexAddr 33 (.tmp 8) (.tmp 10)), none, []⟩,
          ⟨(some 14), (.load (some 33) (.tmp 13)), none, []⟩,
          ⟨(some 7), (.alloc (.agg #[(.int .i64 0), (.int .u8 0), (.int .u8 0), (.int .u8 0), (.int .u8 0), (.int .u8 0), (.int .u8 0), (.int .u8 0), (.int .u8 0), (.int .u8 0), (.int .u8 0), (.int .u8 0), (.int .u8 0), (.int .u8 0), (.int .u8 0), (.int .u8 0), (.int .u8 0), (.int .u8 0), (.int .u8 0), (.int .u8 0), (.int .u8 0), (.int .u8 0), (.int .u8 0), (.int .u8 0), (.int .u8 0), (.int .u8 0), (.int .u8 0), (.int .u8 0), (.int .u8 0), (.int .u8 0), (.int .u8 0), (.int .u8 0), (.int .u8 0)])), none, []⟩,
          ⟨(some 6), (.move (.tmp 12)), none, []⟩,
          ⟨none, (.store 33 (.tmp 7) (.tmp 14)), none, []⟩]))
        (.seq (.keep [1, 5, 7, 8, 9, 10, 18] (.ops [⟨(some 15), (.move (.tmp 1)), none, []⟩,
          ⟨(some 16), (.move (.tmp 6)), none, []⟩,
          ⟨(some 17), (.load (some 33) (.tmp 7)), none, []⟩,
          ⟨(some 18), (.call (.tmp 15) [(.tmp 16), (.tmp 17)]), none, []⟩]))
        (.cond (.tmp 18)
          (.ops [⟨(some 19), (.move (.tmp 5)), none, []⟩,
            ⟨(some 20), (.load (some 33) (.tmp 7)), none, []⟩,
            ⟨(some 21), (.buildSlice 1 [(.int .i64 0), (.int .u8 0), (.int .u8 0), (.int .u8 0), (.int .u8 0), (.int .u8 0), (.int .u8 0), (.int .u8 0), (.int .u8 0), (.int .u8 0), (.int .u8 0), (.int .u8 0), (.int .u8 0), (.int .u8 0), (.int .u8 0), (.int .u8 0), (.int .u8 0), (.int .u8 0), (.int .u8 0), (.int .u8 0), (.int .u8 0), (.int .u8 0), (.int .u8 0), (.int .u8 0), (.int .u8 0), (.int .u8 0), (.int .u8 0), (.int .u8 0), (.int .u8 0), (.int .u8 0), (.int .u8 0), (.int .u8 0), (.int .u8 0)] [(0, 33, (.tmp 20))]), none, []⟩,
            ⟨(some 22), (.append 33 40 (.tmp 19) (.tmp 21)), none, []⟩,
            ⟨(some 5), (.move (.tmp 22)), none, []⟩])
          .skip)))))
      (.ops [⟨(some 23), (.bin .add (.tmp 10) (.const (.int .i64 1))), none, []⟩,
        ⟨(some 10), (.move (.tmp 23)), none, []⟩])))))))))
  (.seq (.keep [4] (.ops [⟨(some 24), (.move (.tmp 5)), none, []⟩,
    ⟨(some 4), (.move (.tmp 24)), none, []⟩]))
  .ret))))
theorem t29 : trF Tryd.prog Tryd.f29 s29 = some s29 := by kernel_rfl
theorem k29 : okS s29 = true := by kernel_rfl
theorem r29 : resT Tryd.prog Tryd.f29.results.toList = some [.t 4] := by kernel_rfl

def s30 : S :=
  (.seq (.keep [2, 4] (.ops [⟨(some 4), (.box (.tmp 1)), none, []⟩,
    ⟨(some 5), (.move (.const (.bool false))), none, []⟩]))
  (.seq (.keep [5] (.ops [⟨(some 6), (.fieldAddr 0 (.tmp 4)), none, []⟩,
    ⟨(some 7), (.load none (.tmp 6)), none, []⟩,
    ⟨(some 8), (.load none (.tmp 2)), none, []⟩,
    ⟨(some 9), (.bin .leq (.tmp 7) (.tmp 8)), none, []⟩,
    ⟨(some 5), (.move (.tmp 9)), none, []⟩]))
  .ret))
theorem t30 : trF Tryd.prog Tryd.f30 s30 = some s30 := by kernel_rfl
theorem k30 : okS s30 = true := by kernel_rfl
theorem r30 : resT Tryd.prog Tryd.f30.results.toList = some [.t 5] := by kernel_rfl

def s31 : S :=
  (.seq (.keep [2, 3, 4, 5, 8] (.ops [⟨(some 4), (.box (.tmp 0)), none, []⟩,
    ⟨(some 5), (.box (.tmp 1)), none, []⟩,
    ⟨(some 8), (.alloc (.agg #[(.int .i64 0), (.int .i64 0), (.int .i64 0), (.int .i64 0), (.int .i64 0), (.int .i64 0), (.int .i64 0), (.string ⟨#[]⟩), (.bool false), (.bool false)])), none, []⟩]))
  (.seq (.keep [2, 3, 4, 5, 8, 9] (.ops [⟨(some 10), (.move (.tmp 2)), none, []⟩,
    ⟨(some 11), (.move (.tmp 3)), none, []⟩,
    ⟨(some 12), (.fieldAddr 17 (.tmp 4)), none, []⟩,
    ⟨(some 13), (.load none (.tmp 12)), none, []⟩,
    ⟨(some 14), (.move (.tmp 2)), none, []⟩,
    ⟨(some 15), (.indexAddr 5 (.tmp 13) (.tmp 14)), none, []⟩,
    ⟨(some 16), (.load (some 5) (.tmp 15)), none, []⟩,
    ⟨(some 17), (.build [(.int .i64 0), (.int .i64 0), (.int .i64 0), (.int .i64 0), (.int .i64 0), (.int .i64 0), (.int .i64 0), (.string ⟨#[]⟩), (.bool false)] [(1, 1, (.tmp 10)), (2, 1, (.tmp 11)), (3, 5, (.tmp 16))]), none, []⟩,
    ⟨(some 9), (.alloc (.agg #[(.int .i64 0), (.int .i64 0), (.int .i64 0), (.int .i64 0), (.int .i64 0), (.int .i64 0), (.int .i64 0), (.string ⟨#[]⟩), (.bool false)])), none, []⟩,
    ⟨none, (.store 9 (.tmp 9) (.tmp 17)), none, []⟩]))
  (.seq (.keep [8, 9] (.seq (.keep [3, 5, 8, 9, 39] (.ops [⟨(some 18), (.move (.tmp 3)), none, []⟩,
    ⟨(some 19), (.fieldAddr 17 (.tmp 5)), none, []⟩,
    ⟨(some 20), (.load none (.tmp 19)), none, []⟩,
    ⟨(some 21), (.len (.tmp 20)), none, []⟩,
    ⟨(some 22), (.bin .lss (.tmp 18) (.tmp 21)), none, []⟩,
    ⟨(some 23), (.move (.tmp 22)), none, []⟩,
    ⟨(some 24), (.fieldAddr 17 (.tmp 4)), (some (23, true)), []⟩,
    ⟨(some 25), (.load none (.tmp 24)), (some (23, true)), []⟩,
    ⟨(some 26), (.move (.tmp 2)), (some (23, true)), []⟩,
    ⟨(some 27), (.indexAddr 5 (.tmp 25) (.tmp 26)), (some (23, true)), []⟩,
    ⟨(some 28), (.load (some 5) (.tmp 27)), (some (23, true)), []⟩,
    ⟨(some 29), (.call (.func 32) [(.tmp 28)]), (some (23, true)), []⟩,
    ⟨(some 30), (.pick (.tmp 23) (.tmp 29) (.const (.bool false))), none, []⟩,
    ⟨(some 31), (.move (.tmp 30)), none, []⟩,
    ⟨(some 32), (.fieldAddr 17 (.tmp 5)), (some (31, true)), []⟩,
    ⟨(some 33), (.load none (.tmp 32)), (some (31, true)), []⟩,
    ⟨(some 34), (.move (.tmp 3)), (some (31, true)), []⟩,
    ⟨(some 35), (.indexAddr 5 (.tmp 33) (.tmp 34)), (some (31, true)), []⟩,
    ⟨(some 36), (.load (some 5) (.tmp 35)), (some (31, true)), []⟩,
    ⟨(some 37), (.call (.func 32) [(.tmp 36)]), (some (31, true)), []⟩,
    ⟨(some 38), (.un .not (.tmp 37)), (some (31, true)), []⟩,
    ⟨(some 39), (.pick (.tmp 31) (.tmp 38) (.const (.bool false))), none, []⟩]))
  (.cond (.tmp 39)
    (.seq (.keep [8, 9] (.ops [⟨(some 40), (.fieldAddr 17 (.tmp 5)), none, []⟩,
      ⟨(some 41), (.load none (.tmp 40)), none, []⟩,
      ⟨(some 42), (.move (.tmp 3)), none, []⟩,
      ⟨(some 43), (.indexAddr 5 (.tmp 41) (.tmp 42)), none, []⟩,
      ⟨(some 44), (.load (some 5) (.tmp 43)), none, []⟩,
      ⟨(some 45), (.fieldAddr 3 (.tmp 9)), none, []⟩,
      ⟨none, (.store 5 (.tmp 45) (.tmp 44)), none, []⟩]))
    (.ops [⟨(some 46), (.fieldAddr 8 (.tmp 9)), none, []⟩,
      ⟨none, (.store 1 (.tmp 46) (.const (.bool true))), none, []⟩]))
    .skip)))
  (.seq (.keep [8] (.ops [⟨(some 47), (.load (some 9) (.tmp 9)), none, []⟩,
    ⟨(some 48), (.build [(.int .i64 0), (.int .i64 0), (.int .i64 0), (.int .i64 0), (.int .i64 0), (.int .i64 0), (.int .i64 0), (.string ⟨#[]⟩), (.bool false), (.bool false)] [(0, 9, (.tmp 47))]), none, []⟩,
    ⟨none, (.store 10 (.tmp 8) (.tmp 48)), none, []⟩]))
  .ret))))
theorem t31 : trF Tryd.prog Tryd.f31 s31 = some s31 := by kernel_rfl
theorem k31 : okS s31 = true := by kernel_rfl
theorem r31 : resT Tryd.prog Tryd.f31.results.toList = some [.c 8 (some 10)] := by kernel_rfl

def s32 : S :=
  (.seq (.keep [1] (.ops [⟨(some 1), (.box (.tmp 0)), none, []⟩,
    ⟨(some 2), (.move (.const (.bool false))), none, []⟩]))
  (.seq (.keep [2] (.ops [⟨(some 3), (.fieldAddr 0 (.tmp 1)), none, []⟩,
    ⟨(some 4), (.load none (.tmp 3)), none, []⟩,
    ⟨(some 5), (.bin .eql (.tmp 4) (.const (.int .i64 1))), none, []⟩,
    ⟨(some 2), (.move (.tmp 5)), none, []⟩]))
  .ret))
theorem t32 : trF Tryd.prog Tryd.f32 s32 = some s32 := by kernel_rfl
theorem k32 : okS s32 = true := by kernel_rfl
theorem r32 : resT Tryd.prog Tryd.f32.results.toList = some [.t 2] := by kernel_rfl

def s33 : S :=
  (.seq (.keep [1, 2] (.ops [⟨(some 2), (.box (.tmp 0)), none, []⟩,
    ⟨(some 4), (.move (.const (.bool false))), none, []⟩]))
  (.seq (.keep [2] (.seq (.keep [2, 23] (.ops [⟨(some 5), (.fieldAddr 1 (.tmp 2)), none, []⟩,
    ⟨(some 6), (.load none (.tmp 5)), none, []⟩,
    ⟨(some 7), (.bin .lss (.tmp 6) (.const (.int .i64 0))), none, []⟩,
    ⟨(some 8), (.move (.tmp 7)), none, []⟩,
    ⟨(some 9), (.fieldAddr 1 (.tmp 2)), (some (8, false)), []⟩,
    ⟨(some 10), (.load none (.tmp 9)), (some (8, false)), []⟩,
    ⟨(some 11), (.move (.tmp 1)), (some (8, false)), []⟩,
    ⟨(some 12), (.bin .geq (.tmp 10) (.tmp 11)), (some (8, false)), []⟩,
    ⟨(some 13), (.pick (.tmp 8) (.const (.bool true)) (.tmp 12)), none, []⟩,
    ⟨(some 14), (.move (.tmp 13)), none, []⟩,
    ⟨(some 15), (.fieldAddr 2 (.tmp 2)), (some (14, false)), []⟩,
    ⟨(some 16), (.load none (.tmp 15)), (some (14, false)), []⟩,
    ⟨(some 17), (.bin .lss (.tmp 16) (.const (.int .i64 0))), (some (14, false)), []⟩,
    ⟨(some 18), (.pick (.tmp 14) (.const (.bool true)) (.tmp 17)), none, []⟩,
    ⟨(some 19), (.move (.tmp 18)), none, []⟩,
    ⟨(some 20), (.fieldAddr 2 (.tmp 2)), (some (19, false)), []⟩,
    ⟨(some 21), (.load none (.tmp 20)), (some (19, false)), []⟩,
    ⟨(some 22), (.bin .gtr (.tmp 21) (.const (.int .i64 1099511627776))), (some (19, false)), []⟩,
    ⟨(some 23), (.pick (.tmp 19) (.const (.bool true)) (.tmp 22)), none, []⟩]))
  (.cond (.tmp 23)
    (.seq (.keep [4] (.ops [⟨(some 4), (.move (.const (.bool false))), none, []⟩]))
    .ret)
    .skip)))
  (.seq (.keep [] (.seq (.keep [2, 25] (.ops [⟨(some 24), (.fieldAddr 0 (.tmp 2)), none, []⟩,
    ⟨(some 25), (.load none (.tmp 24)), none, []⟩]))
  (.block 0
    (.seq (.keep [2, 25, 26] (.ops [⟨(some 27), (.bin .eql (.tmp 25) (.const (.int .i64 1))), none, []⟩,
      ⟨(some 26), (.move (.tmp 27)), none, []⟩]))
    (.cond (.tmp 26)
      (.seq (.keep [4] (.ops [⟨(some 28), (.fieldAddr 3 (.tmp 2)), none, []⟩,
        ⟨(some 29), (.load none (.tmp 28)), none, []⟩,
        ⟨(some 30), (.bin .geq (.tmp 29) (.const (.int .i64 1))), none, []⟩,
        ⟨(some 31), (.move (.tmp 30)), none, []⟩,
        ⟨(some 32), (.fieldAddr 3 (.tmp 2)), (some (31, true)), []⟩,
        ⟨(some 33), (.load none (.tmp 32)), (some (31, true)), []⟩,
        ⟨(some 34), (.fieldAddr 2 (.tmp 2)), (some (31, true)), []⟩,
        ⟨(some 35), (.load none (.tmp 34)), (some (31, true)), []⟩,
        ⟨(some 36), (.bin .sub (.const (.int .i64 1099511627776)) (.tmp 35)), (some (31, true)), []⟩,
        ⟨(some 37), (.bin .leq (.tmp 33) (.tmp 36)), (some (31, true)), []⟩,
        ⟨(some 38), (.pick (.tmp 31) (.tmp 37) (.const (.bool false))), none, []⟩,
        ⟨(some 39), (.move (.tmp 38)), none, []⟩,
        ⟨(some 40), (.fieldAddr 4 (.tmp 2)), (some (39, true)), []⟩,
        ⟨(some 41), (.load none (.tmp 40)), (some (39, true)), []⟩,
        ⟨(some 42), (.lenStr (.tmp 41)), (some (39, true)), []⟩,
        ⟨(some 43), (.bin .eql (.tmp 42) (.const (.int .i64 0))), (some (39, true)), []⟩,
        ⟨(some 44), (.pick (.tmp 39) (.tmp 43) (.const (.bool false))), none, []⟩,
        ⟨(some 4), (.move (.tmp 44)), none, []⟩]))
      .ret)
      (.seq (.keep [2, 25, 45] (.ops [⟨(some 46), (.bin .eql (.tmp 25) (.const (.int .i64 2))), none, []⟩,
        ⟨(some 45), (.move (.tmp 46)), none, []⟩]))
      (.cond (.tmp 45)
        (.seq (.keep [4] (.ops [⟨(some 47), (.fieldAddr 3 (.tmp 2)), none, []⟩,
          ⟨(some 48), (.load none (.tmp 47)), none, []⟩,
          ⟨(some 49), (.bin .geq (.tmp 48) (.const (.int .i64 0))), none, []⟩,
          ⟨(some 50), (.move (.tmp 49)), none, []⟩,
          ⟨(some 51), (.fieldAddr 3 (.tmp 2)), (some (50, true)), []⟩,
          ⟨(some 52), (.load none (.tmp 51)), (some (50, true)), []⟩,
          ⟨(some 53), (.bin .leq (.tmp 52) (.const (.int .i64 2147483647))), (some (50, true)), []⟩,
          ⟨(some 54), (.pick (.tmp 50) (.tmp 53) (.const (.bool false))), none, []⟩,
          ⟨(some 55), (.move (.tmp 54)), none, []⟩,
          ⟨(some 56), (.fieldAddr 4 (.tmp 2)), (some (55, true)), []⟩,
          ⟨(some 57), (.load none (.tmp 56)), (some (55, true)), []⟩,
          ⟨(some 58), (.lenStr (.tmp 57)), (some (55, true)), []⟩,
          ⟨(some 59), (.bin .eql (.tmp 58) (.const (.int .i64 0))), (some (55, true)), []⟩,
          ⟨(some 60), (.pick (.tmp 55) (.tmp 59) (.const (.bool false))), none, []⟩,
          ⟨(some 4), (.move (.tmp 60)), none, []⟩]))
        .ret)
        (.seq (.keep [2, 25, 61] (.ops [⟨(some 62), (.bin .eql (.tmp 25) (.const (.int .i64 3))), none, []⟩,
          ⟨(some 61), (.move (.tmp 62)), none, []⟩]))
        (.cond (.tmp 61)
          (.seq (.keep [4] (.ops [⟨(some 63), (.fieldAddr 3 (.tmp 2)), none, []⟩,
            ⟨(some 64), (.load none (.tmp 63)), none, []⟩,
            ⟨(some 65), (.bin .eql (.tmp 64) (.const (.int .i64 0))), none, []⟩,
            ⟨(some 66), (.move (.tmp 65)), none, []⟩,
            ⟨(some 67), (.fieldAddr 4 (.tmp 2)), (some (66, true)), []⟩,
            ⟨(some 68), (.load none (.tmp 67)), (some (66, true)), []⟩,
            ⟨(some 69), (.lenStr (.tmp 68)), (some (66, true)), []⟩,
            ⟨(some 70), (.bin .eql (.tmp 69) (.const (.int .i64 1))), (some (66, true)), []⟩,
            ⟨(some 71), (.pick (.tmp 66) (.tmp 70) (.const (.bool false))), none, []⟩,
            ⟨(some 4), (.move (.tmp 71)), none, []⟩]))
          .ret)
          (.seq (.keep [2, 25, 72] (.ops [⟨(some 73), (.bin .eql (.tmp 25) (.const (.int .i64 4))), none, []⟩,
            ⟨(some 72), (.move (.tmp 73)), none, []⟩]))
          (.cond (.tmp 72)
            (.seq (.keep [4] (.ops [⟨(some 74), (.fieldAddr 3 (.tmp 2)), none, []⟩,
              ⟨(some 75), (.load none (.tmp 74)), none, []⟩,
              ⟨(some 76), (.bin .eql (.tmp 75) (.const (.int .i64 0))), none, []⟩,
              ⟨(some 77), (.move (.tmp 76)), none, []⟩,
              ⟨(some 78), (.fieldAddr 4 (.tmp 2)), (some (77, true)), []⟩,
              ⟨(some 79), (.load none (.tmp 78)), (some (77, true)), []⟩,
              ⟨(some 80), (.lenStr (.tmp 79)), (some (77, true)), []⟩,
              ⟨(some 81), (.bin .geq (.tmp 80) (.const (.int .i64 1))), (some (77, true)), []⟩,
              ⟨(some 82), (.pick (.tmp 77) (.tmp 81) (.const (.bool false))), none, []⟩,
              ⟨(some 83), (.move (.tmp 82)), none, []⟩,
              ⟨(some 84), (.fieldAddr 4 (.tmp 2)), (some (83, true)), []⟩,
              ⟨(some 85), (.load none (.tmp 84)), (some (83, true)), []⟩,
              ⟨(some 86), (.lenStr (.tmp 85)), (some (83, true)), []⟩,
              ⟨(some 87), (.bin .leq (.tmp 86) (.const (.int .i64 512))), (some (83, true)), []⟩,
              ⟨(some 88), (.pick (.tmp 83) (.tmp 87) (.const (.bool false))), none, []⟩,
              ⟨(some 4), (.move (.tmp 88)), none, []⟩]))
            .ret)
            (.seq (.keep [2, 89] (.ops [⟨(some 90), (.bin .eql (.tmp 25) (.const (.int .i64 5))), none, []⟩,
              ⟨(some 89), (.move (.tmp 90)), none, []⟩]))
            (.cond (.tmp 89)
              (.seq (.keep [4] (.ops [⟨(some 91), (.fieldAddr 3 (.tmp 2)), none, []⟩,
                ⟨(some 92), (.load none (.tmp 91)), none, []⟩,
                ⟨(some 93), (.bin .geq (.tmp 92) (.const (.int .i64 0))), none, []⟩,
                ⟨(some 94), (.move (.tmp 93)), none, []⟩,
                ⟨(some 95), (.fieldAddr 3 (.tmp 2)), (some (94, true)), []⟩,
                ⟨(some 96), (.load none (.tmp 95)), (some (94, true)), []⟩,
                ⟨(some 97), (.bin .leq (.tmp 96) (.const (.int .i64 7))), (some (94, true)), []⟩,
                ⟨(some 98), (.pick (.tmp 94) (.tmp 97) (.const (.bool false))), none, []⟩,
                ⟨(some 99), (.move (.tmp 98)), none, []⟩,
                ⟨(some 100), (.fieldAddr 4 (.tmp 2)), (some (99, true)), []⟩,
                ⟨(some 101), (.load none (.tmp 100)), (some (99, true)), []⟩,
                ⟨(some 102), (.lenStr (.tmp 101)), (some (99, true)), []⟩,
                ⟨(some 103), (.bin .eql (.tmp 102) (.const (.int .i64 0))), (some (99, true)), []⟩,
                ⟨(some 104), (.pick (.tmp 99) (.tmp 103) (.const (.bool false))), none, []⟩,
                ⟨(some 4), (.move (.tmp 104)), none, []⟩]))
              .ret)
              .skip)))))))))))))
  (.seq (.keep [4] (.ops [⟨(some 4), (.move (.const (.bool false))), none, []⟩]))
  .ret))))
theorem t33 : trF Tryd.prog Tryd.f33 s33 = some s33 := by kernel_rfl
theorem k33 : okS s33 = true := by kernel_rfl
theorem r33 : resT Tryd.prog Tryd.f33.results.toList = some [.t 4] := by kernel_rfl

def s34 : S :=
  (.seq (.keep [0, 1] (.ops [⟨(some 4), (.move (.const (.int .i64 0))), none, []⟩]))
  (.seq (.keep [0, 1, 5] (.ops [⟨(some 5), (.move (.const (.int .i64 0))), none, []⟩]))
  (.seq (.keep [5] (.seq (.keep [0, 1, 5, 6] (.ops [⟨(some 6), (.move (.const (.int .i64 0))), none, []⟩]))
  (.block 0
    (.loop
      (.keep [0, 1, 5, 6] (.seq (.keep [0, 1, 5, 6] (.seq (.keep [0, 1, 5, 6, 10] (.ops [⟨(some 7), (.move (.tmp 6)), none, []⟩,
        ⟨(some 8), (.move (.tmp 0)), none, []⟩,
        ⟨(some 9), (.len (.tmp 8)), none, []⟩,
        ⟨(some 10), (.bin .lss (.tmp 7) (.tmp 9)), none, []⟩]))
      (.cond (.tmp 10)
        .skip
        (.exit 0))))
      (.seq (.keep [0, 1, 5, 6] (.block 1
        (.seq (.keep [0, 1, 5, 6, 27] (.ops [⟨(some 13), (.move (.tmp 0)), none, []⟩,
          ⟨(some 14), (.move (.tmp 6)), none, []⟩,
          ⟨(some 15), (.indexAddr 5 (.tmp 13) (.tmp 14)), none, []⟩,
          ⟨(some 16), (.fieldAddr 0 (.tmp 15)), none, []⟩,
          ⟨(some 17), (.load none (.tmp 16)), none, []⟩,
          ⟨(some 18), (.bin .eql (.tmp 17) (.const (.int .i64 1))), none, []⟩,
          ⟨(some 19), (.move (.tmp 18)), none, []⟩,
          ⟨(some 20), (.move (.tmp 0)), (some (19, true)), []⟩,
          ⟨(some 21), (.move (.tmp 6)), (some (19, true)), []⟩,
          ⟨(some 22), (.indexAddr 5 (.tmp 20) (.tmp 21)), (some (19, true)), []⟩,
          ⟨(some 23), (.fieldAddr 1 (.tmp 22)), (some (19, true)), []⟩,
          ⟨(some 24), (.load none (.tmp 23)), (some (19, true)), []⟩,
          ⟨(some 25), (.move (.tmp 1)), (some (19, true)), []⟩,
          ⟨(some 26), (.bin .eql (.tmp 24) (.tmp 25)), (some (19, true)), []⟩,
          ⟨(some 27), (.pick (.tmp 19) (.tmp 26) (.const (.bool false))), none, []⟩]))
        (.cond (.tmp 27)
          (.ops [⟨(some 28), (.move (.tmp 5)), none, []⟩,
            ⟨(some 29), (.move (.tmp 0)), none, []⟩,
            ⟨(some 30), (.move (.tmp 6)), none, []⟩,
            ⟨(some 31), (.indexAddr 5 (.tmp 29) (.tmp 30)), none, []⟩,
            ⟨(some 32), (.fieldAddr 3 (.tmp 31)), none, []⟩,
            ⟨(some 33), (.load none (.tmp 32)), none, []⟩,
            ⟨(some 34), (.bin .add (.tmp 28) (.tmp 33)), none, []⟩,
            ⟨(some 5), (.move (.tmp 34)), none, []⟩])
          .skip))))
      (.ops [⟨(some 11), (.move (.tmp 6)), none, []⟩,
        ⟨(some 12), (.bin .add (.tmp 11) (.const (.int .i64 1))), none, []⟩,
        ⟨(some 6), (.move (.tmp 12)), none, []⟩]))))))))
  (.seq (.keep [4] (.ops [⟨(some 35), (.move (.tmp 5)), none, []⟩,
    ⟨(some 4), (.move (.tmp 35)), none, []⟩]))
  .ret))))
theorem t34 : trF Tryd.prog Tryd.f34 s34 = some s34 := by kernel_rfl
theorem k34 : okS s34 = true := by kernel_rfl
theorem r34 : resT Tryd.prog Tryd.f34.results.toList = some [.t 4] := by kernel_rfl

def s35 : S :=
  (.seq (.keep [1, 2, 4] (.ops [⟨(some 2), (.box (.tmp 0)), none, []⟩,
    ⟨(some 4), (.alloc (.agg (List.replicate 16 (.int .u8 0)).toArray)), none, []⟩]))
  (.seq (.keep [1, 2, 4, 5] (.ops [⟨(some 7), (.fieldAddr 0 (.tmp 2)), none, []⟩,
    ⟨(some 8), (.load (some 16) (.tmp 7)), none, []⟩,
    ⟨(some 9), (.fieldAddr 16 (.tmp 2)), none, []⟩,
    ⟨(some 10), (.load none (.tmp 9)), none, []⟩,
    ⟨(some 11), (.call (.func 36) [(.tmp 8), (.tmp 10)]), none, []⟩,
    ⟨(some 5), (.alloc (.agg (List.replicate 16 (.int .u8 0)).toArray)), none, []⟩,
    ⟨none, (.store 16 (.tmp 5) (.tmp 11)), none, []⟩]))
  (.seq (.keep [4, 5] (.seq (.keep [1, 2, 4, 5, 6] (.ops [⟨(some 6), (.move (.const (.int .i64 0))), none, []⟩]))
  (.block 0
    (.loop
      (.keep [1, 2, 4, 5, 6] (.seq (.keep [1, 2, 4, 5, 6] (.seq (.keep [1, 2, 4, 5, 6, 14] (.ops [⟨(some 12), (.move (.tmp 6)), none, []⟩,
        ⟨(some 13), (.move (.tmp 1)), none, []⟩,
        ⟨(some 14), (.bin .lss (.tmp 12) (.tmp 13)), none, []⟩]))
      (.cond (.tmp 14)
        .skip
        (.exit 0))))
      (.seq (.keep [1, 2, 4, 5, 6] (.block 1
        (.draw [0, 0, 2, 0, 14, 30, 63, 127] [⟨0, 0, [], ⟨(some 17), (.load (some 16) (.tmp 5)), none, []⟩⟩,
          ⟨1, 0, [], ⟨(some 18), (.fieldAddr 17 (.tmp 2)), none, []⟩⟩,
          ⟨2, 2, [], ⟨(some 19), (.load none (.tmp 18)), none, []⟩⟩,
          ⟨3, 0, [], ⟨(some 20), (.move (.tmp 6)), none, []⟩⟩,
          ⟨4, 14, [], ⟨(some 21), (.indexAddr 5 (.tmp 19) (.tmp 20)), none, []⟩⟩,
          ⟨5, 30, [], ⟨(some 22), (.load (some 5) (.tmp 21)), none, []⟩⟩,
          ⟨6, 63, [], ⟨(some 23), (.call (.func 37) [(.tmp 17), (.tmp 22)]), none, []⟩⟩,
          ⟨7, 127, [], ⟨none, (.store 16 (.tmp 5) (.tmp 23)), none, []⟩⟩])))
      (.ops [⟨(some 15), (.move (.tmp 6)), none, []⟩,
        ⟨(some 16), (.bin .add (.tmp 15) (.const (.int .i64 1))), none, []⟩,
        ⟨(some 6), (.move (.tmp 16)), none, []⟩]))))))))
  (.seq (.keep [4] (.ops [⟨(some 24), (.load (some 16) (.tmp 5)), none, []⟩,
    ⟨none, (.store 16 (.tmp 4) (.tmp 24)), none, []⟩]))
  .ret))))
theorem t35 : trF Tryd.prog Tryd.f35 s35 = some s35 := by kernel_rfl
theorem k35 : okS s35 = true := by kernel_rfl
theorem r35 : resT Tryd.prog Tryd.f35.results.toList = some [.c 4 (some 16)] := by kernel_rfl

def s36 : S :=
  (.seq (.keep [1, 2, 4] (.ops [⟨(some 2), (.box (.tmp 0)), none, []⟩,
    ⟨(some 4), (.alloc (.agg (List.replicate 16 (.int .u8 0)).toArray)), none, []⟩]))
  (.seq (.keep [4] (.ops [⟨(some 5), (.load (some 16) (.tmp 2)), none, []⟩,
    ⟨(some 6), (.call (.func 39) [(.tmp 5)]), none, []⟩,
    ⟨(some 7), (.move (.tmp 1)), none, []⟩,
    ⟨(some 8), (.call (.func 40) [(.tmp 7)]), none, []⟩,
    ⟨(some 9), (.bytesStr (.tmp 8)), none, []⟩,
    ⟨(some 10), (.buildSlice 2 [(.string ⟨#[]⟩), (.string ⟨#[]⟩)] [(0, 1, (.tmp 6)), (1, 1, (.tmp 9))]), none, []⟩,
    ⟨(some 11), (.call (.func 38) [(.const (.int .i64 293)), (.tmp 10)]), none, []⟩,
    ⟨none, (.store 16 (.tmp 4) (.tmp 11)), none, []⟩]))
  .ret))
theorem t36 : trF Tryd.prog Tryd.f36 s36 = some s36 := by kernel_rfl
theorem k36 : okS s36 = true := by kernel_rfl
theorem r36 : resT Tryd.prog Tryd.f36.results.toList = some [.c 4 (some 16)] := by kernel_rfl

def s37 : S :=
  (.seq (.keep [2, 3, 4] (.ops [⟨(some 2), (.box (.tmp 0)), none, []⟩,
    ⟨(some 3), (.box (.tmp 1)), none, []⟩,
    ⟨(some 4), (.alloc (.agg (List.replicate 16 (.int .u8 0)).toArray)), none, []⟩]))
  (.seq (.keep [4] (.draw [0, 1, 0, 4, 0, 16, 0, 64, 0, 256, 1020, 2047, 4095, 0, 8192, 32767, 65535, 131071] [⟨0, 0, [], ⟨(some 5), (.load (some 16) (.tmp 2)), none, []⟩⟩,
    ⟨2, 0, [], ⟨(some 7), (.fieldAddr 0 (.tmp 3)), none, []⟩⟩,
    ⟨3, 4, [], ⟨(some 8), (.load none (.tmp 7)), none, []⟩⟩,
    ⟨4, 0, [], ⟨(some 9), (.fieldAddr 1 (.tmp 3)), none, []⟩⟩,
    ⟨5, 16, [], ⟨(some 10), (.load none (.tmp 9)), none, []⟩⟩,
    ⟨6, 0, [], ⟨(some 11), (.fieldAddr 2 (.tmp 3)), none, []⟩⟩,
    ⟨7, 64, [], ⟨(some 12), (.load none (.tmp 11)), none, []⟩⟩,
    ⟨8, 0, [], ⟨(some 13), (.fieldAddr 3 (.tmp 3)), none, []⟩⟩,
    ⟨9, 256, [], ⟨(some 14), (.load none (.tmp 13)), none, []⟩⟩,
    ⟨10, 1020, [], ⟨(some 15), (.buildSlice 4 (List.replicate 4 (.int .i64 0)) [(0, 1, (.tmp 8)), (1, 1, (.tmp 10)), (2, 1, (.tmp 12)), (3, 1, (.tmp 14))]), none, []⟩⟩,
    ⟨13, 0, [], ⟨(some 18), (.fieldAddr 4 (.tmp 3)), none, []⟩⟩,
    ⟨14, 8192, [], ⟨(some 19), (.load none (.tmp 18)), none, []⟩⟩,
    ⟨1, 1, [3, 5, 7, 9, 14], ⟨(some 6), (.call (.func 39) [(.tmp 5)]), none, [((.load none (.tmp 7)), none, (some 8)), ((.load none (.tmp 9)), none, (some 10)), ((.load none (.tmp 11)), none, (some 12)), ((.load none (.tmp 13)), none, (some 14)), ((.load none (.tmp 18)), none, (some 19))]⟩⟩,
    ⟨11, 2047, [14], ⟨(some 16), (.call (.func 41) [(.tmp 15)]), none, [((.load none (.tmp 18)), none, (some 19))]⟩⟩,
    ⟨12, 4095, [], ⟨(some 17), (.bytesStr (.tmp 16)), none, []⟩⟩,
    ⟨15, 32767, [], ⟨(some 20), (.buildSlice 3 [(.string ⟨#[]⟩), (.string ⟨#[]⟩), (.string ⟨#[]⟩)] [(0, 1, (.tmp 6)), (1, 1, (.tmp 17)), (2, 1, (.tmp 19))]), none, []⟩⟩,
    ⟨16, 65535, [], ⟨(some 21), (.call (.func 38) [(.const (.int .i64 290)), (.tmp 20)]), none, []⟩⟩,
    ⟨17, 131071, [], ⟨none, (.store 16 (.tmp 4) (.tmp 21)), none, []⟩⟩]))
  .ret))
theorem t37 : trF Tryd.prog Tryd.f37 s37 = some s37 := by kernel_rfl
theorem k37 : okS s37 = true := by kernel_rfl
theorem r37 : resT Tryd.prog Tryd.f37.results.toList = some [.c 4 (some 16)] := by kernel_rfl

def s38 : S :=
  (.seq (.keep [0, 1, 4] (.ops [⟨(some 4), (.alloc (.agg (List.replicate 16 (.int .u8 0)).toArray)), none, []⟩]))
  (.seq (.keep [4] (.ops [⟨(some 5), (.move (.tmp 0)), none, []⟩,
    ⟨(some 6), (.move (.tmp 1)), none, []⟩,
    ⟨(some 7), (.call (.func 43) [(.tmp 5), (.tmp 6)]), none, []⟩,
    ⟨(some 8), (.call (.func 42) [(.tmp 7)]), none, []⟩,
    ⟨none, (.store 16 (.tmp 4) (.tmp 8)), none, []⟩]))
  .ret))
theorem t38 : trF Tryd.prog Tryd.f38 s38 = some s38 := by kernel_rfl
theorem k38 : okS s38 = true := by kernel_rfl
theorem r38 : resT Tryd.prog Tryd.f38.results.toList = some [.c 4 (some 16)] := by kernel_rfl

def s39 : S :=
  (.seq (.keep [1] (.ops [⟨(some 1), (.box (.tmp 0)), none, []⟩,
    ⟨(some 2), (.move (.const (.string ⟨#[]⟩))), none, []⟩]))
  (.seq (.keep [1, 3] (.ops [⟨(some 3), (.move (.const (.slice none 0 0))), none, []⟩]))
  (.seq (.keep [3] (.seq (.keep [1, 3, 4] (.ops [⟨(some 4), (.move (.const (.int .i64 0))), none, []⟩]))
  (.block 0
    (.loop
      (.keep [1, 3, 4] (.seq (.keep [1, 3, 4] (.seq (.keep [1, 3, 4, 6] (.ops [⟨(some 5), (.move (.tmp 4)), none, []⟩,
        ⟨(some 6), (.bin .lss (.tmp 5) (.const (.int .i64 16))), none, []⟩]))
      (.cond (.tmp 6)
        .skip
        (.exit 0))))
      (.seq (.keep [1, 3, 4] (.block 1
        (.ops [⟨(some 9), (.move (.tmp 3)), none, []⟩,
          ⟨(some 10), (.move (.tmp 4)), none, []⟩,
          ⟨(some 11), (.indexArr 16 1 (.tmp 1) (.tmp 10)), none, []⟩,
          ⟨(some 12), (.load none (.tmp 11)), none, []⟩,
          ⟨(some 13), (.buildSlice 1 [(.int .u8 0)] [(0, 1, (.tmp 12))]), none, []⟩,
          ⟨(some 14), (.append 1 1 (.tmp 9) (.tmp 13)), none, []⟩,
          ⟨(some 3), (.move (.tmp 14)), none, []⟩])))
      (.ops [⟨(some 7), (.move (.tmp 4)), none, []⟩,
        ⟨(some 8), (.bin .add (.tmp 7) (.const (.int .i64 1))), none, []⟩,
        ⟨(some 4), (.move (.tmp 8)), none, []⟩]))))))))
  (.seq (.keep [2] (.ops [⟨(some 15), (.move (.tmp 3)), none, []⟩,
    ⟨(some 16), (.bytesStr (.tmp 15)), none, []⟩,
    ⟨(some 2), (.move (.tmp 16)), none, []⟩]))
  .ret))))
theorem t39 : trF Tryd.prog Tryd.f39 s39 = some s39 := by kernel_rfl
theorem k39 : okS s39 = true := by kernel_rfl
theorem r39 : resT Tryd.prog Tryd.f39.results.toList = some [.t 2] := by kernel_rfl

def s40 : S :=
  (.seq (.keep [0] (.ops [⟨(some 2), (.move (.const (.slice none 0 0))), none, []⟩]))
  (.seq (.keep [0, 3] (.ops [⟨(some 5), (.move (.tmp 0)), none, []⟩,
    ⟨(some 6), (.convInt .u64 (.tmp 5)), none, []⟩,
    ⟨(some 7), (.bin .mul (.tmp 6) (.const (.int .u64 2))), none, []⟩,
    ⟨(some 3), (.move (.tmp 7)), none, []⟩]))
  (.seq (.keep [3] (.seq (.keep [0, 3, 9] (.ops [⟨(some 8), (.move (.tmp 0)), none, []⟩,
    ⟨(some 9), (.bin .lss (.tmp 8) (.const (.int .i64 0))), none, []⟩]))
  (.cond (.tmp 9)
    (.ops [⟨(some 10), (.move (.tmp 0)), none, []⟩,
      ⟨(some 11), (.bin .sub (.const (.int .i64 (-1))) (.tmp 10)), none, []⟩,
      ⟨(some 12), (.convInt .u64 (.tmp 11)), none, []⟩,
      ⟨(some 13), (.bin .mul (.tmp 12) (.const (.int .u64 2))), none, []⟩,
      ⟨(some 14), (.bin .add (.tmp 13) (.const (.int .u64 1))), none, []⟩,
      ⟨(some 3), (.move (.tmp 14)), none, []⟩])
    .skip)))
  (.seq (.keep [3, 4] (.ops [⟨(some 4), (.move (.const (.slice none 0 0))), none, []⟩]))
  (.seq (.keep [3, 4] (.block 0
    (.loop
      (.keep [3, 4] (.seq (.keep [3, 4] (.seq (.keep [3, 4, 16] (.ops [⟨(some 15), (.move (.tmp 3)), none, []⟩,
        ⟨(some 16), (.bin .geq (.tmp 15) (.const (.int .u64 128))), none, []⟩]))
      (.cond (.tmp 16)
        .skip
        (.exit 0))))
      (.block 1
        (.seq (.keep [3, 4] (.ops [⟨(some 17), (.move (.tmp 4)), none, []⟩,
          ⟨(some 18), (.move (.tmp 3)), none, []⟩,
          ⟨(some 19), (.bin .rem (.tmp 18) (.const (.int .u64 128))), none, []⟩,
          ⟨(some 20), (.convInt .u8 (.tmp 19)), none, []⟩,
          ⟨(some 21), (.bin .add (.tmp 20) (.const (.int .u8 128))), none, []⟩,
          ⟨(some 22), (.buildSlice 1 [(.int .u8 0)] [(0, 1, (.tmp 21))]), none, []⟩,
          ⟨(some 23), (.append 1 1 (.tmp 17) (.tmp 22)), none, []⟩,
          ⟨(some 4), (.move (.tmp 23)), none, []⟩]))
        (.ops [⟨(some 24), (.move (.tmp 3)), none, []⟩,
          ⟨(some 25), (.bin .quo (.tmp 24) (.const (.int .u64 128))), none, []⟩,
          ⟨(some 3), (.move (.tmp 25)), none, []⟩]))))))))
  (.seq (.keep [2] (.ops [⟨(some 26), (.move (.tmp 4)), none, []⟩,
    ⟨(some 27), (.move (.tmp 3)), none, []⟩,
    ⟨(some 28), (.convInt .u8 (.tmp 27)), none, []⟩,
    ⟨(some 29), (.buildSlice 1 [(.int .u8 0)] [(0, 1, (.tmp 28))]), none, []⟩,
    ⟨(some 30), (.append 1 1 (.tmp 26) (.tmp 29)), none, []⟩,
    ⟨(some 2), (.move (.tmp 30)), none, []⟩]))
  .ret))))))
theorem t40 : trF Tryd.prog Tryd.f40 s40 = some s40 := by kernel_rfl
theorem k40 : okS s40 = true := by kernel_rfl
theorem r40 : resT Tryd.prog Tryd.f40.results.toList = some [.t 2] := by kernel_rfl

def s41 : S :=
  (.seq (.keep [0] (.ops [⟨(some 2), (.move (.const (.slice none 0 0))), none, []⟩]))
  (.seq (.keep [0, 3] (.ops [⟨(some 5), (.move (.tmp 0)), none, []⟩,
    ⟨(some 6), (.len (.tmp 5)), none, []⟩,
    ⟨(some 7), (.call (.func 40) [(.tmp 6)]), none, []⟩,
    ⟨(some 3), (.move (.tmp 7)), none, []⟩]))
  (.seq (.keep [3] (.seq (.keep [0, 3, 4] (.ops [⟨(some 4), (.move (.const (.int .i64 0))), none, []⟩]))
  (.block 0
    (.loop
      (.keep [0, 3, 4] (.seq (.keep [0, 3, 4] (.seq (.keep [0, 3, 4, 11] (.ops [⟨(some 8), (.move (.tmp 4)), none, []⟩,
        ⟨(some 9), (.move (.tmp 0)), none, []⟩,
        ⟨(some 10), (.len (.tmp 9)), none, []⟩,
        ⟨(some 11), (.bin .lss (.tmp 8) (.tmp 10)), none, []⟩]))
      (.cond (.tmp 11)
        .skip
        (.exit 0))))
      (.seq (.keep [0, 3, 4] (.block 1
        (.ops [⟨(some 14), (.move (.tmp 3)), none, []⟩,
          ⟨(some 15), (.move (.tmp 0)), none, []⟩,
          ⟨(some 16), (.move (.tmp 4)), none, []⟩,
          ⟨(some 17), (.indexAddr 1 (.tmp 15) (.tmp 16)), none, []⟩,
          ⟨(some 18), (.load none (.tmp 17)), none, []⟩,
          ⟨(some 19), (.call (.func 40) [(.tmp 18)]), none, []⟩,
          ⟨(some 20), (.append 1 1 (.tmp 14) (.tmp 19)), none, []⟩,
          ⟨(some 3), (.move (.tmp 20)), none, []⟩])))
      (.ops [⟨(some 12), (.move (.tmp 4)), none, []⟩,
        ⟨(some 13), (.bin .add (.tmp 12) (.const (.int .i64 1))), none, []⟩,
        ⟨(some 4), (.move (.tmp 13)), none, []⟩]))))))))
  (.seq (.keep [2] (.ops [⟨(some 21), (.move (.tmp 3)), none, []⟩,
    ⟨(some 2), (.move (.tmp 21)), none, []⟩]))
  .ret))))
theorem t41 : trF Tryd.prog Tryd.f41 s41 = some s41 := by kernel_rfl
theorem k41 : okS s41 = true := by kernel_rfl
theorem r41 : resT Tryd.prog Tryd.f41.results.toList = some [.t 2] := by kernel_rfl

def s42 : S :=
  (.seq (.keep [0, 2] (.ops [⟨(some 2), (.alloc (.agg (List.replicate 16 (.int .u8 0)).toArray)), none, []⟩]))
  (.seq (.keep [2, 3] (.ops [⟨(some 6), (.move (.tmp 0)), none, []⟩,
    ⟨(some 7), (.call (.func 44) [(.tmp 6)]), none, []⟩,
    ⟨(some 3), (.alloc (.agg (List.replicate 32 (.int .u8 0)).toArray)), none, []⟩,
    ⟨none, (.store 32 (.tmp 3) (.tmp 7)), none, []⟩]))
  (.seq (.keep [2, 3, 4] (.ops [⟨(some 8), (.build (List.replicate 16 (.int .u8 0)) []), none, []⟩,
    ⟨(some 4), (.alloc (.agg (List.replicate 16 (.int .u8 0)).toArray)), none, []⟩,
    ⟨none, (.store 16 (.tmp 4) (.tmp 8)), none, []⟩]))
  (.seq (.keep [2, 4] (.seq (.keep [2, 3, 4, 5] (.ops [⟨(some 5), (.move (.const (.int .i64 0))), none, []⟩]))
  (.block 0
    (.loop
      (.keep [2, 3, 4, 5] (.seq (.keep [2, 3, 4, 5] (.seq (.keep [2, 3, 4, 5, 10] (.ops [⟨(some 9), (.move (.tmp 5)), none, []⟩,
        ⟨(some 10), (.bin .lss (.tmp 9) (.const (.int .i64 16))), none, []⟩]))
      (.cond (.tmp 10)
        .skip
        (.exit 0))))
      (.seq (.keep [2, 3, 4, 5] (.block 1
        (.ops [⟨(some 13), (.move (.tmp 5)), none, []⟩,
          ⟨(some 14), (.move (.tmp 5)), none, []⟩,
          ⟨(some 15), (.indexArr 32 1 (.tmp 3) (.tmp 14)), none, []⟩,
          ⟨(some 16), (.load none (.tmp 15)), none, []⟩,
          ⟨(some 17), (.indexArr 16 1 (.tmp 4) (.tmp 13)), none, []⟩,
          ⟨none, (.store 1 (.tmp 17) (.tmp 16)), none, []⟩])))
      (.ops [⟨(some 11), (.move (.tmp 5)), none, []⟩,
        ⟨(some 12), (.bin .add (.tmp 11) (.const (.int .i64 1))), none, []⟩,
        ⟨(some 5), (.move (.tmp 12)), none, []⟩]))))))))
  (.seq (.keep [2] (.ops [⟨(some 18), (.load (some 16) (.tmp 4)), none, []⟩,
    ⟨none, (.store 16 (.tmp 2) (.tmp 18)), none, []⟩]))
  .ret)))))
theorem t42 : trF Tryd.prog Tryd.f42 s42 = some s42 := by kernel_rfl
theorem k42 : okS s42 = true := by kernel_rfl
theorem r42 : resT Tryd.prog Tryd.f42.results.toList = some [.c 2 (some 16)] := by kernel_rfl

def s43 : S :=
  (.seq (.keep [0, 1] (.ops [⟨(some 4), (.move (.const (.slice none 0 0))), none, []⟩]))
  (.seq (.keep [1, 5] (.ops [⟨(some 7), (.move (.tmp 0)), none, []⟩,
    ⟨(some 8), (.convInt .u8 (.tmp 7)), none, []⟩,
    ⟨(some 9), (.buildSlice 1 [(.int .u8 0)] [(0, 1, (.tmp 8))]), none, []⟩,
    ⟨(some 5), (.move (.tmp 9)), none, []⟩]))
  (.seq (.keep [5] (.seq (.keep [1, 5, 6] (.ops [⟨(some 6), (.move (.const (.int .i64 0))), none, []⟩]))
  (.block 0
    (.loop
      (.keep [1, 5, 6] (.seq (.keep [1, 5, 6] (.seq (.keep [1, 5, 6, 13] (.ops [⟨(some 10), (.move (.tmp 6)), none, []⟩,
        ⟨(some 11), (.move (.tmp 1)), none, []⟩,
        ⟨(some 12), (.len (.tmp 11)), none, []⟩,
        ⟨(some 13), (.bin .lss (.tmp 10) (.tmp 12)), none, []⟩]))
      (.cond (.tmp 13)
        .skip
        (.exit 0))))
      (.seq (.keep [1, 5, 6] (.block 1
        (.ops [⟨(some 16), (.move (.tmp 5)), none, []⟩,
          ⟨(some 17), (.move (.tmp 1)), none, []⟩,
          ⟨(some 18), (.move (.tmp 6)), none, []⟩,
          ⟨(some 19), (.indexAddr 1 (.tmp 17) (.tmp 18)), none, []⟩,
          ⟨(some 20), (.load none (.tmp 19)), none, []⟩,
          ⟨(some 21), (.call (.func 45) [(.tmp 20)]), none, []⟩,
          ⟨(some 22), (.append 1 1 (.tmp 16) (.tmp 21)), none, []⟩,
          ⟨(some 5), (.move (.tmp 22)), none, []⟩])))
      (.ops [⟨(some 14), (.move (.tmp 6)), none, []⟩,
        ⟨(some 15), (.bin .add (.tmp 14) (.const (.int .i64 1))), none, []⟩,
        ⟨(some 6), (.move (.tmp 15)), none, []⟩]))))))))
  (.seq (.keep [4] (.ops [⟨(some 23), (.move (.tmp 5)), none, []⟩,
    ⟨(some 4), (.move (.tmp 23)), none, []⟩]))
  .ret))))
theorem t43 : trF Tryd.prog Tryd.f43 s43 = some s43 := by kernel_rfl
theorem k43 : okS s43 = true := by kernel_rfl
theorem r43 : resT Tryd.prog Tryd.f43.results.toList = some [.t 4] := by kernel_rfl

def s44 : S :=
  (.seq (.keep [0, 2] (.ops [⟨(some 2), (.alloc (.agg (List.replicate 32 (.int .u8 0)).toArray)), none, []⟩]))
  (.seq (.keep [0, 2, 3] (.ops [⟨(some 14), (.build (List.replicate 8 (.int .u32 0)) [(0, 1, (.const (.int .u32 1779033703))), (1, 1, (.const (.int .u32 3144134277))), (2, 1, (.const (.int .u32 1013904242))), (3, 1, (.const (.int .u32 2773480762))), (4, 1, (.const (.int .u32 1359893119))), (5, 1, (.const (.int .u32 2600822924))), (6, 1, (.const (.int .u32 528734635))), (7, 1, (.const (.int .u32 1541459225)))]), none, []⟩,
    ⟨(some 3), (.alloc (.agg (List.replicate 8 (.int .u32 0)).toArray)), none, []⟩,
    ⟨none, (.store 8 (.tmp 3) (.tmp 14)), none, []⟩]))
  (.seq (.keep [2, 3, 4] (.ops [⟨(some 15), (.move (.tmp 0)), none, []⟩,
    ⟨(some 16), (.call (.func 46) [(.tmp 15)]), none, []⟩,
    ⟨(some 4), (.move (.tmp 16)), none, []⟩]))
  (.seq (.keep [2, 3] (.seq (.keep [2, 3, 4, 5] (.ops [⟨(some 5), (.move (.const (.int .i64 0))), none, []⟩]))
  (.block 0
    (.loop
      (.keep [2, 3, 4, 5] (.seq (.keep [2, 3, 4, 5] (.seq (.keep [2, 3, 4, 5, 20] (.ops [⟨(some 17), (.move (.tmp 5)), none, []⟩,
        ⟨(some 18), (.move (.tmp 4)), none, []⟩,
        ⟨(some 19), (.len (.tmp 18)), none, []⟩,
        ⟨(some 20), (.bin .lss (.tmp 17) (.tmp 19)), none, []⟩]))
      (.cond (.tmp 20)
        .skip
        (.exit 0))))
      (.seq (.keep [2, 3, 4, 5] (.block 1
        (.seq (.keep [2, 3, 4, 5, 6] (.ops [⟨(some 23), (.move (.tmp 4)), none, []⟩,
          ⟨(some 24), (.move (.tmp 5)), none, []⟩,
          ⟨(some 25), (.move (.tmp 5)), none, []⟩,
          ⟨(some 26), (.bin .add (.tmp 25) (.const (.int .i64 64))), none, []⟩,
          ⟨(some 27), (.slice 1 (.tmp 23) (some (.tmp 24)) (some (.tmp 26)) none), none, []⟩,
          ⟨(some 28), (.call (.func 47) [(.tmp 27)]), none, []⟩,
          ⟨(some 6), (.alloc (.agg (List.replicate 64 (.int .u32 0)).toArray)), none, []⟩,
          ⟨none, (.store 64 (.tmp 6) (.tmp 28)), none, []⟩]))
        (.seq (.keep [2, 3, 4, 5, 6, 7] (.ops [⟨(some 29), (.load (some 8) (.tmp 3)), none, []⟩,
          ⟨(some 7), (.alloc (.agg (List.replicate 8 (.int .u32 0)).toArray)), none, []⟩,
          ⟨none, (.store 8 (.tmp 7) (.tmp 29)), none, []⟩]))
        (.seq (.keep [2, 3, 4, 5, 7] (.seq (.keep [2, 3, 4, 5, 6, 7, 8] (.ops [⟨(some 8), (.move (.const (.int .i64 0))), none, []⟩]))
        (.block 2
          (.loop
            (.keep [2, 3, 4, 5, 6, 7, 8] (.seq (.keep [2, 3, 4, 5, 6, 7, 8] (.seq (.keep [2, 3, 4, 5, 6, 7, 8, 31] (.ops [⟨(some 30), (.move (.tmp 8)), none, []⟩,
              ⟨(some 31), (.bin .lss (.tmp 30) (.const (.int .i64 64))), none, []⟩]))
            (.cond (.tmp 31)
              .skip
              (.exit 2))))
            (.seq (.keep [2, 3, 4, 5, 6, 7, 8] (.block 3
              (.seq (.keep [2, 3, 4, 5, 6, 7, 8, 9] (.draw [0, 1, 0, 4, 12, 0, 32, 124, 252, 0, 512, 1788, 4092, 8191, 0, 16384, 0, 65536, 245760, 0, 524288, 1572864, 0, 4194304, 16252928, 33538048, 67108863, 0, 134217728, 402653184, 1073741823, 0, 2147483648, 6442450944, 17179869183, 34359738367] [⟨0, 0, [], ⟨(some 34), (.indexArr 8 1 (.tmp 7) (.const (.int .i64 7))), none, []⟩⟩,
                ⟨1, 1, [], ⟨(some 35), (.load none (.tmp 34)), none, []⟩⟩,
                ⟨2, 0, [], ⟨(some 36), (.indexArr 8 1 (.tmp 7) (.const (.int .i64 4))), none, []⟩⟩,
                ⟨3, 4, [], ⟨(some 37), (.load none (.tmp 36)), none, []⟩⟩,
                ⟨5, 0, [], ⟨(some 39), (.indexArr 8 1 (.tmp 7) (.const (.int .i64 4))), none, []⟩⟩,
                ⟨6, 32, [], ⟨(some 40), (.load none (.tmp 39)), none, []⟩⟩,
                ⟨9, 0, [], ⟨(some 43), (.indexArr 8 1 (.tmp 7) (.const (.int .i64 4))), none, []⟩⟩,
                ⟨10, 512, [], ⟨(some 44), (.load none (.tmp 43)), none, []⟩⟩,
                ⟨14, 0, [], ⟨(some 48), (.indexArr 8 1 (.tmp 7) (.const (.int .i64 4))), none, []⟩⟩,
                ⟨15, 16384, [], ⟨(some 49), (.load none (.tmp 48)), none, []⟩⟩,
                ⟨16, 0, [], ⟨(some 50), (.indexArr 8 1 (.tmp 7) (.const (.int .i64 5))), none, []⟩⟩,
                ⟨17, 65536, [], ⟨(some 51), (.load none (.tmp 50)), none, []⟩⟩,
                ⟨18, 245760, [], ⟨(some 52), (.bin .and (.tmp 49) (.tmp 51)), none, []⟩⟩,
                ⟨19, 0, [], ⟨(some 53), (.indexArr 8 1 (.tmp 7) (.const (.int .i64 4))), none, []⟩⟩,
                ⟨20, 524288, [], ⟨(some 54), (.load none (.tmp 53)), none, []⟩⟩,
                ⟨21, 1572864, [], ⟨(some 55), (.bin .xor (.tmp 54) (.const (.int .u32 4294967295))), none, []⟩⟩,
                ⟨22, 0, [], ⟨(some 56), (.indexArr 8 1 (.tmp 7) (.const (.int .i64 6))), none, []⟩⟩,
                ⟨23, 4194304, [], ⟨(some 57), (.load none (.tmp 56)), none, []⟩⟩,
                ⟨24, 16252928, [], ⟨(some 58), (.bin .and (.tmp 55) (.tmp 57)), none, []⟩⟩,
                ⟨25, 33538048, [], ⟨(some 59), (.bin .xor (.tmp 52) (.tmp 58)), none, []⟩⟩,
                ⟨27, 0, [], ⟨(some 61), (.move (.tmp 8)), none, []⟩⟩,
                ⟨28, 134217728, [], ⟨(some 62), (.indexArr 64 1 (.global 0) (.tmp 61)), none, []⟩⟩,
                ⟨29, 402653184, [], ⟨(some 63), (.load none (.tmp 62)), none, []⟩⟩,
                ⟨31, 0, [], ⟨(some 65), (.move (.tmp 8)), none, []⟩⟩,
                ⟨32, 2147483648, [], ⟨(some 66), (.indexArr 64 1 (.tmp 6) (.tmp 65)), none, []⟩⟩,
                ⟨33, 6442450944, [], ⟨(some 67), (.load none (.tmp 66)), none, []⟩⟩,
                ⟨4, 12, [1, 6, 10, 15, 17, 20, 23, 29, 33], ⟨(some 38), (.call (.func 48) [(.tmp 37), (.const (.int .i64 6))]), none, [((.load none (.tmp 34)), none, (some 35)), ((.load none (.tmp 39)), none, (some 40)), ((.load none (.tmp 43)), none, (some 44)), ((.load none (.tmp 48)), none, (some 49)), ((.load none (.tmp 50)), none, (some 51)), ((.load none (.tmp 53)), none, (some 54)), ((.load none (.tmp 56)), none, (some 57)), ((.load none (.tmp 62)), none, (some 63)), ((.load none (.tmp 66)), none, (some 67))]⟩⟩,
                ⟨7, 124, [1, 10, 15, 17, 20, 23, 29, 33], ⟨(some 41), (.call (.func 48) [(.tmp 40), (.const (.int .i64 11))]), none, [((.load none (.tmp 34)), none, (some 35)), ((.load none (.tmp 43)), none, (some 44)), ((.load none (.tmp 48)), none, (some 49)), ((.load none (.tmp 50)), none, (some 51)), ((.load none (.tmp 53)), none, (some 54)), ((.load none (.tmp 56)), none, (some 57)), ((.load none (.tmp 62)), none, (some 63)), ((.load none (.tmp 66)), none, (some 67))]⟩⟩,
                ⟨8, 252, [], ⟨(some 42), (.bin .xor (.tmp 38) (.tmp 41)), none, []⟩⟩,
                ⟨11, 1788, [1, 15, 17, 20, 23, 29, 33], ⟨(some 45), (.call (.func 48) [(.tmp 44), (.const (.int .i64 25))]), none, [((.load none (.tmp 34)), none, (some 35)), ((.load none (.tmp 48)), none, (some 49)), ((.load none (.tmp 50)), none, (some 51)), ((.load none (.tmp 53)), none, (some 54)), ((.load none (.tmp 56)), none, (some 57)), ((.load none (.tmp 62)), none, (some 63)), ((.load none (.tmp 66)), none, (some 67))]⟩⟩,
                ⟨12, 4092, [], ⟨(some 46), (.bin .xor (.tmp 42) (.tmp 45)), none, []⟩⟩,
                ⟨13, 8191, [], ⟨(some 47), (.bin .add (.tmp 35) (.tmp 46)), none, []⟩⟩,
                ⟨26, 67108863, [], ⟨(some 60), (.bin .add (.tmp 47) (.tmp 59)), none, []⟩⟩,
                ⟨30, 1073741823, [], ⟨(some 64), (.bin .add (.tmp 60) (.tmp 63)), none, []⟩⟩,
                ⟨34, 17179869183, [], ⟨(some 68), (.bin .add (.tmp 64) (.tmp 67)), none, []⟩⟩,
                ⟨35, 34359738367, [], ⟨(some 9), (.move (.tmp 68)), none, []⟩⟩]))
              (.seq (.keep [2, 3, 4, 5, 6, 7, 8, 9, 10] (.draw [0, 1, 3, 0, 8, 31, 63, 0, 128, 447, 1023, 0, 2048, 0, 8192, 30720, 0, 65536, 0, 262144, 983040, 2095104, 0, 4194304, 0, 16777216, 62914560, 134215680, 268435455, 536870911] [⟨0, 0, [], ⟨(some 69), (.indexArr 8 1 (.tmp 7) (.const (.int .i64 0))), none, []⟩⟩,
                ⟨1, 1, [], ⟨(some 70), (.load none (.tmp 69)), none, []⟩⟩,
                ⟨3, 0, [], ⟨(some 72), (.indexArr 8 1 (.tmp 7) (.const (.int .i64 0))), none, []⟩⟩,
                ⟨4, 8, [], ⟨(some 73), (.load none (.tmp 72)), none, []⟩⟩,
                ⟨7, 0, [], ⟨(some 76), (.indexArr 8 1 (.tmp 7) (.const (.int .i64 0))), none, []⟩⟩,
                ⟨8, 128, [], ⟨(some 77), (.load none (.tmp 76)), none, []⟩⟩,
                ⟨11, 0, [], ⟨(some 80), (.indexArr 8 1 (.tmp 7) (.const (.int .i64 0))), none, []⟩⟩,
                ⟨12, 2048, [], ⟨(some 81), (.load none (.tmp 80)), none, []⟩⟩,
                ⟨13, 0, [], ⟨(some 82), (.indexArr 8 1 (.tmp 7) (.const (.int .i64 1))), none, []⟩⟩,
                ⟨14, 8192, [], ⟨(some 83), (.load none (.tmp 82)), none, []⟩⟩,
                ⟨15, 30720, [], ⟨(some 84), (.bin .and (.tmp 81) (.tmp 83)), none, []⟩⟩,
                ⟨16, 0, [], ⟨(some 85), (.indexArr 8 1 (.tmp 7) (.const (.int .i64 0))), none, []⟩⟩,
                ⟨17, 65536, [], ⟨(some 86), (.load none (.tmp 85)), none, []⟩⟩,
                ⟨18, 0, [], ⟨(some 87), (.indexArr 8 1 (.tmp 7) (.const (.int .i64 2))), none, []⟩⟩,
                ⟨19, 262144, [], ⟨(some 88), (.load none (.tmp 87)), none, []⟩⟩,
                ⟨20, 983040, [], ⟨(some 89), (.bin .and (.tmp 86) (.tmp 88)), none, []⟩⟩,
                ⟨21, 2095104, [], ⟨(some 90), (.bin .xor (.tmp 84) (.tmp 89)), none, []⟩⟩,
                ⟨22, 0, [], ⟨(some 91), (.indexArr 8 1 (.tmp 7) (.const (.int .i64 1))), none, []⟩⟩,
                ⟨23, 4194304, [], ⟨(some 92), (.load none (.tmp 91)), none, []⟩⟩,
                ⟨24, 0, [], ⟨(some 93), (.indexArr 8 1 (.tmp 7) (.const (.int .i64 2))), none, []⟩⟩,
                ⟨25, 16777216, [], ⟨(some 94), (.load none (.tmp 93)), none, []⟩⟩,
                ⟨26, 62914560, [], ⟨(some 95), (.bin .and (.tmp 92) (.tmp 94)), none, []⟩⟩,
                ⟨27, 134215680, [], ⟨(some 96), (.bin .xor (.tmp 90) (.tmp 95)), none, []⟩⟩,
                ⟨2, 3, [4, 8, 12, 14, 17, 19, 23, 25], ⟨(some 71), (.call (.func 48) [(.tmp 70), (.const (.int .i64 2))]), none, [((.load none (.tmp 72)), none, (some 73)), ((.load none (.tmp 76)), none, (some 77)), ((.load none (.tmp 80)), none, (some 81)), ((.load none (.tmp 82)), none, (some 83)), ((.load none (.tmp 85)), none, (some 86)), ((.load none (.tmp 87)), none, (some 88)), ((.load none (.tmp 91)), none, (some 92)), ((.load none (.tmp 93)), none, (some 94))]⟩⟩,
                ⟨5, 31, [8, 12, 14, 17, 19, 23, 25], ⟨(some 74), (.call (.func 48) [(.tmp 73), (.const (.int .i64 13))]), none, [((.load none (.tmp 76)), none, (some 77)), ((.load none (.tmp 80)), none, (some 81)), ((.load none (.tmp 82)), none, (some 83)), ((.load none (.tmp 85)), none, (some 86)), ((.load none (.tmp 87)), none, (some 88)), ((.load none (.tmp 91)), none, (some 92)), ((.load none (.tmp 93)), none, (some 94))]⟩⟩,
                ⟨6, 63, [], ⟨(some 75), (.bin .xor (.tmp 71) (.tmp 74)), none, []⟩⟩,
                ⟨9, 447, [12, 14, 17, 19, 23, 25], ⟨(some 78), (.call (.func 48) [(.tmp 77), (.const (.int .i64 22))]), none, [((.load none (.tmp 80)), none, (some 81)), ((.load none (.tmp 82)), none, (some 83)), ((.load none (.tmp 85)), none, (some 86)), ((.load none (.tmp 87)), none, (some 88)), ((.load none (.tmp 91)), none, (some 92)), ((.load none (.tmp 93)), none, (some 94))]⟩⟩,
                ⟨10, 1023, [], ⟨(some 79), (.bin .xor (.tmp 75) (.tmp 78)), none, []⟩⟩,
                ⟨28, 268435455, [], ⟨(some 97), (.bin .add (.tmp 79) (.tmp 96)), none, []⟩⟩,
                ⟨29, 536870911, [], ⟨(some 10), (.move (.tmp 97)), none, []⟩⟩]))
              (.ops [⟨(some 98), (.move (.tmp 9)), none, []⟩,
                ⟨(some 99), (.move (.tmp 10)), none, []⟩,
                ⟨(some 100), (.bin .add (.tmp 98) (.tmp 99)), none, []⟩,
                ⟨(some 101), (.indexArr 8 1 (.tmp 7) (.const (.int .i64 0))), none, []⟩,
                ⟨(some 102), (.load none (.tmp 101)), none, []⟩,
                ⟨(some 103), (.indexArr 8 1 (.tmp 7) (.const (.int .i64 1))), none, []⟩,
                ⟨(some 104), (.load none (.tmp 103)), none, []⟩,
                ⟨(some 105), (.indexArr 8 1 (.tmp 7) (.const (.int .i64 2))), none, []⟩,
                ⟨(some 106), (.load none (.tmp 105)), none, []⟩,
                ⟨(some 107), (.indexArr 8 1 (.tmp 7) (.const (.int .i64 3))), none, []⟩,
                ⟨(some 108), (.load none (.tmp 107)), none, []⟩,
                ⟨(some 109), (.move (.tmp 9)), none, []⟩,
                ⟨(some 110), (.bin .add (.tmp 108) (.tmp 109)), none, []⟩,
                ⟨(some 111), (.indexArr 8 1 (.tmp 7) (.const (.int .i64 4))), none, []⟩,
                ⟨(some 112), (.load none (.tmp 111)), none, []⟩,
                ⟨(some 113), (.indexArr 8 1 (.tmp 7) (.const (.int .i64 5))), none, []⟩,
                ⟨(some 114), (.load none (.tmp 113)), none, []⟩,
                ⟨(some 115), (.indexArr 8 1 (.tmp 7) (.const (.int .i64 6))), none, []⟩,
                ⟨(some 116), (.load none (.tmp 115)), none, []⟩,
                ⟨(some 117), (.build (List.replicate 8 (.int .u32 0)) [(0, 1, (.tmp 100)), (1, 1, (.tmp 102)), (2, 1, (.tmp 104)), (3, 1, (.tmp 106)), (4, 1, (.tmp 110)), (5, 1, (.tmp 112)), (6, 1, (.tmp 114)), (7, 1, (.tmp 116))]), none, []⟩,
                ⟨none, (.store 8 (.tmp 7) (.tmp 117)), none, []⟩])))))
            (.ops [⟨(some 32), (.move (.tmp 8)), none, []⟩,
              ⟨(some 33), (.bin .add (.tmp 32) (.const (.int .i64 1))), none, []⟩,
              ⟨(some 8), (.move (.tmp 33)), none, []⟩]))))))))
        (.seq (.keep [2, 3, 4, 5, 7, 11] (.ops [⟨(some 11), (.move (.const (.int .i64 0))), none, []⟩]))
        (.block 4
          (.loop
            (.keep [2, 3, 4, 5, 7, 11] (.seq (.keep [2, 3, 4, 5, 7, 11] (.seq (.keep [2, 3, 4, 5, 7, 11, 119] (.ops [⟨(some 118), (.move (.tmp 11)), none, []⟩,
              ⟨(some 119), (.bin .lss (.tmp 118) (.const (.int .i64 8))), none, []⟩]))
            (.cond (.tmp 119)
              .skip
              (.exit 4))))
            (.seq (.keep [2, 3, 4, 5, 7, 11] (.block 5
              (.draw [0, 0, 2, 6, 0, 16, 48, 126, 255, 511] [⟨0, 0, [], ⟨(some 122), (.move (.tmp 11)), none, []⟩⟩,
                ⟨1, 0, [], ⟨(some 123), (.move (.tmp 11)), none, []⟩⟩,
                ⟨2, 2, [], ⟨(some 124), (.indexArr 8 1 (.tmp 3) (.tmp 123)), none, []⟩⟩,
                ⟨3, 6, [], ⟨(some 125), (.load none (.tmp 124)), none, []⟩⟩,
                ⟨4, 0, [], ⟨(some 126), (.move (.tmp 11)), none, []⟩⟩,
                ⟨5, 16, [], ⟨(some 127), (.indexArr 8 1 (.tmp 7) (.tmp 126)), none, []⟩⟩,
                ⟨6, 48, [], ⟨(some 128), (.load none (.tmp 127)), none, []⟩⟩,
                ⟨7, 126, [], ⟨(some 129), (.bin .add (.tmp 125) (.tmp 128)), none, []⟩⟩,
                ⟨8, 255, [], ⟨(some 130), (.indexArr 8 1 (.tmp 3) (.tmp 122)), none, []⟩⟩,
                ⟨9, 511, [], ⟨none, (.store 1 (.tmp 130) (.tmp 129)), none, []⟩⟩])))
            (.ops [⟨(some 120), (.move (.tmp 11)), none, []⟩,
              ⟨(some 121), (.bin .add (.tmp 120) (.const (.int .i64 1))), none, []⟩,
              ⟨(some 11), (.move (.tmp 121)), none, []⟩]))))))))))))
      (.ops [⟨(some 21), (.move (.tmp 5)), none, []⟩,
        ⟨(some 22), (.bin .add (.tmp 21) (.const (.int .i64 64))), none, []⟩,
        ⟨(some 5), (.move (.tmp 22)), none, []⟩]))))))))
  (.seq (.keep [2, 3, 12] (.ops [⟨(some 12), (.alloc (.agg (List.replicate 32 (.int .u8 0)).toArray)), none, []⟩]))
  (.seq (.keep [2, 12] (.seq (.keep [2, 3, 12, 13] (.ops [⟨(some 13), (.move (.const (.int .i64 0))), none, []⟩]))
  (.block 6
    (.loop
      (.keep [2, 3, 12, 13] (.seq (.keep [2, 3, 12, 13] (.seq (.keep [2, 3, 12, 13, 132] (.ops [⟨(some 131), (.move (.tmp 13)), none, []⟩,
        ⟨(some 132), (.bin .lss (.tmp 131) (.const (.int .i64 32))), none, []⟩]))
      (.cond (.tmp 132)
        .skip
        (.exit 6))))
      (.seq (.keep [2, 3, 12, 13] (.block 7
        (.ops [⟨(some 135), (.move (.tmp 13)), none, []⟩,
          ⟨(some 136), (.move (.tmp 13)), none, []⟩,
          ⟨(some 137), (.bin .quo (.tmp 136) (.const (.int .i64 4))), none, []⟩,
          ⟨(some 138), (.indexArr 8 1 (.tmp 3) (.tmp 137)), none, []⟩,
          ⟨(some 139), (.load none (.tmp 138)), none, []⟩,
          ⟨(some 140), (.move (.tmp 13)), none, []⟩,
          ⟨(some 141), (.bin .rem (.tmp 140) (.const (.int .i64 4))), none, []⟩,
          ⟨(some 142), (.bin .mul (.const (.int .i64 8)) (.tmp 141)), none, []⟩,
          ⟨(some 143), (.bin .sub (.const (.int .i64 24)) (.tmp 142)), none, []⟩,
          ⟨(some 144), (.bin .shr (.tmp 139) (.tmp 143)), none, []⟩,
          ⟨(some 145), (.convInt .u8 (.tmp 144)), none, []⟩,
          ⟨(some 146), (.indexArr 32 1 (.tmp 12) (.tmp 135)), none, []⟩,
          ⟨none, (.store 1 (.tmp 146) (.tmp 145)), none, []⟩])))
      (.ops [⟨(some 133), (.move (.tmp 13)), none, []⟩,
        ⟨(some 134), (.bin .add (.tmp 133) (.const (.int .i64 1))), none, []⟩,
        ⟨(some 13), (.move (.tmp 134)), none, []⟩]))))))))
  (.seq (.keep [2] (.ops [⟨(some 147), (.load (some 32) (.tmp 12)), none, []⟩,
    ⟨none, (.store 32 (.tmp 2) (.tmp 147)), none, []⟩]))
  .ret)))))))
theorem t44 : trF Tryd.prog Tryd.f44 s44 = some s44 := by kernel_rfl
theorem k44 : okS s44 = true := by kernel_rfl
theorem r44 : resT Tryd.prog Tryd.f44.results.toList = some [.c 2 (some 32)] := by kernel_rfl

def s45 : S :=
  (.seq (.keep [0] (.ops [⟨(some 2), (.move (.const (.slice none 0 0))), none, []⟩]))
  (.seq (.keep [2] (.ops [⟨(some 3), (.move (.tmp 0)), none, []⟩,
    ⟨(some 4), (.lenStr (.tmp 3)), none, []⟩,
    ⟨(some 5), (.call (.func 40) [(.tmp 4)]), none, []⟩,
    ⟨(some 6), (.move (.tmp 0)), none, []⟩,
    ⟨(some 7), (.append 1 1 (.tmp 5) (.tmp 6)), none, []⟩,
    ⟨(some 2), (.move (.tmp 7)), none, []⟩]))
  .ret))
theorem t45 : trF Tryd.prog Tryd.f45 s45 = some s45 := by kernel_rfl
theorem k45 : okS s45 = true := by kernel_rfl
theorem r45 : resT Tryd.prog Tryd.f45.results.toList = some [.t 2] := by kernel_rfl

def s46 : S :=
  (.seq (.keep [0] (.ops [⟨(some 2), (.move (.const (.slice none 0 0))), none, []⟩]))
  (.seq (.keep [0, 3] (.ops [⟨(some 6), (.buildSlice 0 [] []), none, []⟩,
    ⟨(some 7), (.move (.tmp 0)), none, []⟩,
    ⟨(some 8), (.append 1 1 (.tmp 6) (.tmp 7)), none, []⟩,
    ⟨(some 3), (.move (.tmp 8)), none, []⟩]))
  (.seq (.keep [0, 3] (.ops [⟨(some 9), (.move (.tmp 3)), none, []⟩,
    ⟨(some 10), (.buildSlice 1 [(.int .u8 0)] [(0, 1, (.const (.int .u8 128)))]), none, []⟩,
    ⟨(some 11), (.append 1 1 (.tmp 9) (.tmp 10)), none, []⟩,
    ⟨(some 3), (.move (.tmp 11)), none, []⟩]))
  (.seq (.keep [0, 3] (.block 0
    (.loop
      (.keep [0, 3] (.seq (.keep [0, 3] (.seq (.keep [0, 3, 15] (.ops [⟨(some 12), (.move (.tmp 3)), none, []⟩,
        ⟨(some 13), (.len (.tmp 12)), none, []⟩,
        ⟨(some 14), (.bin .rem (.tmp 13) (.const (.int .i64 64))), none, []⟩,
        ⟨(some 15), (.bin .neq (.tmp 14) (.const (.int .i64 56))), none, []⟩]))
      (.cond (.tmp 15)
        .skip
        (.exit 0))))
      (.block 1
        (.ops [⟨(some 16), (.move (.tmp 3)), none, []⟩,
          ⟨(some 17), (.buildSlice 1 [(.int .u8 0)] [(0, 1, (.const (.int .u8 0)))]), none, []⟩,
          ⟨(some 18), (.append 1 1 (.tmp 16) (.tmp 17)), none, []⟩,
          ⟨(some 3), (.move (.tmp 18)), none, []⟩])))))))
  (.seq (.keep [3, 4] (.ops [⟨(some 19), (.move (.tmp 0)), none, []⟩,
    ⟨(some 20), (.len (.tmp 19)), none, []⟩,
    ⟨(some 21), (.convInt .u64 (.tmp 20)), none, []⟩,
    ⟨(some 22), (.bin .mul (.const (.int .u64 8)) (.tmp 21)), none, []⟩,
    ⟨(some 4), (.move (.tmp 22)), none, []⟩]))
  (.seq (.keep [3] (.seq (.keep [3, 4, 5] (.ops [⟨(some 5), (.move (.const (.int .i64 0))), none, []⟩]))
  (.block 2
    (.loop
      (.keep [3, 4, 5] (.seq (.keep [3, 4, 5] (.seq (.keep [3, 4, 5, 24] (.ops [⟨(some 23), (.move (.tmp 5)), none, []⟩,
        ⟨(some 24), (.bin .lss (.tmp 23) (.const (.int .i64 8))), none, []⟩]))
      (.cond (.tmp 24)
        .skip
        (.exit 2))))
      (.seq (.keep [3, 4, 5] (.block 3
        (.ops [⟨(some 27), (.move (.tmp 3)), none, []⟩,
          ⟨(some 28), (.move (.tmp 4)), none, []⟩,
          ⟨(some 29), (.move (.tmp 5)), none, []⟩,
          ⟨(some 30), (.bin .mul (.const (.int .i64 8)) (.tmp 29)), none, []⟩,
          ⟨(some 31), (.bin .sub (.const (.int .i64 56)) (.tmp 30)), none, []⟩,
          ⟨(some 32), (.bin .shr (.tmp 28) (.tmp 31)), none, []⟩,
          ⟨(some 33), (.convInt .u8 (.tmp 32)), none, []⟩,
          ⟨(some 34), (.buildSlice 1 [(.int .u8 0)] [(0, 1, (.tmp 33))]), none, []⟩,
          ⟨(some 35), (.append 1 1 (.tmp 27) (.tmp 34)), none, []⟩,
          ⟨(some 3), (.move (.tmp 35)), none, []⟩])))
      (.ops [⟨(some 25), (.move (.tmp 5)), none, []⟩,
        ⟨(some 26), (.bin .add (.tmp 25) (.const (.int .i64 1))), none, []⟩,
        ⟨(some 5), (.move (.tmp 26)), none, []⟩]))))))))
  (.seq (.keep [2] (.ops [⟨(some 36), (.move (.tmp 3)), none, []⟩,
    ⟨(some 2), (.move (.tmp 36)), none, []⟩]))
  .ret)))))))
theorem t46 : trF Tryd.prog Tryd.f46 s46 = some s46 := by kernel_rfl
theorem k46 : okS s46 = true := by kernel_rfl
theorem r46 : resT Tryd.prog Tryd.f46.results.toList = some [.t 2] := by kernel_rfl

def s47 : S :=
  (.seq (.keep [0, 2] (.ops [⟨(some 2), (.alloc (.agg (List.replicate 64 (.int .u32 0)).toArray)), none, []⟩]))
  (.seq (.keep [0, 2, 3] (.ops [⟨(some 3), (.alloc (.agg (List.replicate 64 (.int .u32 0)).toArray)), none, []⟩]))
  (.seq (.keep [2, 3] (.seq (.keep [0, 2, 3, 4] (.ops [⟨(some 4), (.move (.const (.int .i64 0))), none, []⟩]))
  (.block 0
    (.loop
      (.keep [0, 2, 3, 4] (.seq (.keep [0, 2, 3, 4] (.seq (.keep [0, 2, 3, 4, 9] (.ops [⟨(some 8), (.move (.tmp 4)), none, []⟩,
        ⟨(some 9), (.bin .lss (.tmp 8) (.const (.int .i64 16))), none, []⟩]))
      (.cond (.tmp 9)
        .skip
        (.exit 0))))
      (.seq (.keep [0, 2, 3, 4] (.block 1
        (.draw [0, 0, 0, 4, 14, 30, 62, 126, 0, 0, 512, 1536, 3840, 7936, 16128, 32512, 65534, 0, 0, 262144, 786432, 1966080, 4063232, 8257536, 16646144, 33554430, 0, 0, 134217728, 402653184, 1006632960, 2080374784, 4227858432, 8589934590, 17179869183, 34359738367] [⟨0, 0, [], ⟨(some 12), (.move (.tmp 4)), none, []⟩⟩,
          ⟨1, 0, [], ⟨(some 13), (.move (.tmp 0)), none, []⟩⟩,
          ⟨2, 0, [], ⟨(some 14), (.move (.tmp 4)), none, []⟩⟩,
          ⟨3, 4, [], ⟨(some 15), (.bin .mul (.const (.int .i64 4)) (.tmp 14)), none, []⟩⟩,
          ⟨4, 14, [], ⟨(some 16), (.indexAddr 1 (.tmp 13) (.tmp 15)), none, []⟩⟩,
          ⟨5, 30, [], ⟨(some 17), (.load none (.tmp 16)), none, []⟩⟩,
          ⟨6, 62, [], ⟨(some 18), (.convInt .u32 (.tmp 17)), none, []⟩⟩,
          ⟨7, 126, [], ⟨(some 19), (.bin .shl (.tmp 18) (.const (.int .u64 24))), none, []⟩⟩,
          ⟨8, 0, [], ⟨(some 20), (.move (.tmp 0)), none, []⟩⟩,
          ⟨9, 0, [], ⟨(some 21), (.move (.tmp 4)), none, []⟩⟩,
          ⟨10, 512, [], ⟨(some 22), (.bin .mul (.const (.int .i64 4)) (.tmp 21)), none, []⟩⟩,
          ⟨11, 1536, [], ⟨(some 23), (.bin .add (.tmp 22) (.const (.int .i64 1))), none, []⟩⟩,
          ⟨12, 3840, [], ⟨(some 24), (.indexAddr 1 (.tmp 20) (.tmp 23)), none, []⟩⟩,
          ⟨13, 7936, [], ⟨(some 25), (.load none (.tmp 24)), none, []⟩⟩,
          ⟨14, 16128, [], ⟨(some 26), (.convInt .u32 (.tmp 25)), none, []⟩⟩,
          ⟨15, 32512, [], ⟨(some 27), (.bin .shl (.tmp 26) (.const (.int .u64 16))), none, []⟩⟩,
          ⟨16, 65534, [], ⟨(some 28), (.bin .or (.tmp 19) (.tmp 27)), none, []⟩⟩,
          ⟨17, 0, [], ⟨(some 29), (.move (.tmp 0)), none, []⟩⟩,
          ⟨18, 0, [], ⟨(some 30), (.move (.tmp 4)), none, []⟩⟩,
          ⟨19, 262144, [], ⟨(some 31), (.bin .mul (.const (.int .i64 4)) (.tmp 30)), none, []⟩⟩,
          ⟨20, 786432, [], ⟨(some 32), (.bin .add (.tmp 31) (.const (.int .i64 2))), none, []⟩⟩,
          ⟨21, 1966080, [], ⟨(some 33), (.indexAddr 1 (.tmp 29) (.tmp 32)), none, []⟩⟩,
          ⟨22, 4063232, [], ⟨(some 34), (.load none (.tmp 33)), none, []⟩⟩,
          ⟨23, 8257536, [], ⟨(some 35), (.convInt .u32 (.tmp 34)), none, []⟩⟩,
          ⟨24, 16646144, [], ⟨(some 36), (.bin .shl (.tmp 35) (.const (.int .u64 8))), none, []⟩⟩,
          ⟨25, 33554430, [], ⟨(some 37), (.bin .or (.tmp 28) (.tmp 36)), none, []⟩⟩,
          ⟨26, 0, [], ⟨(some 38), (.move (.tmp 0)), none, []⟩⟩,
          ⟨27, 0, [], ⟨(some 39), (.move (.tmp 4)), none, []⟩⟩,
          ⟨28, 134217728, [], ⟨(some 40), (.bin .mul (.const (.int .i64 4)) (.tmp 39)), none, []⟩⟩,
          ⟨29, 402653184, [], ⟨(some 41), (.bin .add (.tmp 40) (.const (.int .i64 3))), none, []⟩⟩,
          ⟨30, 1006632960, [], ⟨(some 42), (.indexAddr 1 (.tmp 38) (.tmp 41)), none, []⟩⟩,
          ⟨31, 2080374784, [], ⟨(some 43), (.load none (.tmp 42)), none, []⟩⟩,
          ⟨32, 4227858432, [], ⟨(some 44), (.convInt .u32 (.tmp 43)), none, []⟩⟩,
          ⟨33, 8589934590, [], ⟨(some 45), (.bin .or (.tmp 37) (.tmp 44)), none, []⟩⟩,
          ⟨34, 17179869183, [], ⟨(some 46), (.indexArr 64 1 (.tmp 3) (.tmp 12)), none, []⟩⟩,
          ⟨35, 34359738367, [], ⟨none, (.store 1 (.tmp 46) (.tmp 45)), none, []⟩⟩])))
      (.ops [⟨(some 10), (.move (.tmp 4)), none, []⟩,
        ⟨(some 11), (.bin .add (.tmp 10) (.const (.int .i64 1))), none, []⟩,
        ⟨(some 4), (.move (.tmp 11)), none, []⟩]))))))))
  (.seq (.keep [2, 3] (.seq (.keep [2, 3, 5] (.ops [⟨(some 5), (.move (.const (.int .i64 16))), none, []⟩]))
  (.block 2
    (.loop
      (.keep [2, 3, 5] (.seq (.keep [2, 3, 5] (.seq (.keep [2, 3, 5, 48] (.ops [⟨(some 47), (.move (.tmp 5)), none, []⟩,
        ⟨(some 48), (.bin .lss (.tmp 47) (.const (.int .i64 64))), none, []⟩]))
      (.cond (.tmp 48)
        .skip
        (.exit 2))))
      (.seq (.keep [2, 3, 5] (.block 3
        (.seq (.keep [2, 3, 5, 6] (.draw [0, 1, 3, 7, 15, 0, 32, 96, 224, 511, 1023, 0, 2048, 6144, 14336, 30720, 65535, 131071] [⟨0, 0, [], ⟨(some 51), (.move (.tmp 5)), none, []⟩⟩,
          ⟨1, 1, [], ⟨(some 52), (.bin .sub (.tmp 51) (.const (.int .i64 15))), none, []⟩⟩,
          ⟨2, 3, [], ⟨(some 53), (.indexArr 64 1 (.tmp 3) (.tmp 52)), none, []⟩⟩,
          ⟨3, 7, [], ⟨(some 54), (.load none (.tmp 53)), none, []⟩⟩,
          ⟨5, 0, [], ⟨(some 56), (.move (.tmp 5)), none, []⟩⟩,
          ⟨6, 32, [], ⟨(some 57), (.bin .sub (.tmp 56) (.const (.int .i64 15))), none, []⟩⟩,
          ⟨7, 96, [], ⟨(some 58), (.indexArr 64 1 (.tmp 3) (.tmp 57)), none, []⟩⟩,
          ⟨8, 224, [], ⟨(some 59), (.load none (.tmp 58)), none, []⟩⟩,
          ⟨11, 0, [], ⟨(some 62), (.move (.tmp 5)), none, []⟩⟩,
          ⟨12, 2048, [], ⟨(some 63), (.bin .sub (.tmp 62) (.const (.int .i64 15))), none, []⟩⟩,
          ⟨13, 6144, [], ⟨(some 64), (.indexArr 64 1 (.tmp 3) (.tmp 63)), none, []⟩⟩,
          ⟨14, 14336, [], ⟨(some 65), (.load none (.tmp 64)), none, []⟩⟩,
          ⟨15, 30720, [], ⟨(some 66), (.bin .shr (.tmp 65) (.const (.int .u64 3))), none, []⟩⟩,
          ⟨4, 15, [8, 14], ⟨(some 55), (.call (.func 48) [(.tmp 54), (.const (.int .i64 7))]), none, [((.load none (.tmp 58)), none, (some 59)), ((.load none (.tmp 64)), none, (some 65))]⟩⟩,
          ⟨9, 511, [14], ⟨(some 60), (.call (.func 48) [(.tmp 59), (.const (.int .i64 18))]), none, [((.load none (.tmp 64)), none, (some 65))]⟩⟩,
          ⟨10, 1023, [], ⟨(some 61), (.bin .xor (.tmp 55) (.tmp 60)), none, []⟩⟩,
          ⟨16, 65535, [], ⟨(some 67), (.bin .xor (.tmp 61) (.tmp 66)), none, []⟩⟩,
          ⟨17, 131071, [], ⟨(some 6), (.move (.tmp 67)), none, []⟩⟩]))
        (.seq (.keep [2, 3, 5, 6, 7] (.draw [0, 1, 3, 7, 15, 0, 32, 96, 224, 511, 1023, 0, 2048, 6144, 14336, 30720, 65535, 131071] [⟨0, 0, [], ⟨(some 68), (.move (.tmp 5)), none, []⟩⟩,
          ⟨1, 1, [], ⟨(some 69), (.bin .sub (.tmp 68) (.const (.int .i64 2))), none, []⟩⟩,
          ⟨2, 3, [], ⟨(some 70), (.indexArr 64 1 (.tmp 3) (.tmp 69)), none, []⟩⟩,
          ⟨3, 7, [], ⟨(some 71), (.load none (.tmp 70)), none, []⟩⟩,
          ⟨5, 0, [], ⟨(some 73), (.move (.tmp 5)), none, []⟩⟩,
          ⟨6, 32, [], ⟨(some 74), (.bin .sub (.tmp 73) (.const (.int .i64 2))), none, []⟩⟩,
          ⟨7, 96, [], ⟨(some 75), (.indexArr 64 1 (.tmp 3) (.tmp 74)), none, []⟩⟩,
          ⟨8, 224, [], ⟨(some 76), (.load none (.tmp 75)), none, []⟩⟩,
          ⟨11, 0, [], ⟨(some 79), (.move (.tmp 5)), none, []⟩⟩,
          ⟨12, 2048, [], ⟨(some 80), (.bin .sub (.tmp 79) (.const (.int .i64 2))), none, []⟩⟩,
          ⟨13, 6144, [], ⟨(some 81), (.indexArr 64 1 (.tmp 3) (.tmp 80)), none, []⟩⟩,
          ⟨14, 14336, [], ⟨(some 82), (.load none (.tmp 81)), none, []⟩⟩,
          ⟨15, 30720, [], ⟨(some 83), (.bin .shr (.tmp 82) (.const (.int .u64 10))), none, []⟩⟩,
          ⟨4, 15, [8, 14], ⟨(some 72), (.call (.func 48) [(.tmp 71), (.const (.int .i64 17))]), none, [((.load none (.tmp 75)), none, (some 76)), ((.load none (.tmp 81)), none, (some 82))]⟩⟩,
          ⟨9, 511, [14], ⟨(some 77), (.call (.func 48) [(.tmp 76), (.const (.int .i64 19))]), none, [((.load none (.tmp 81)), none, (some 82))]⟩⟩,
          ⟨10, 1023, [], ⟨(some 78), (.bin .xor (.tmp 72) (.tmp 77)), none, []⟩⟩,
          ⟨16, 65535, [], ⟨(some 84), (.bin .xor (.tmp 78) (.tmp 83)), none, []⟩⟩,
          ⟨17, 131071, [], ⟨(some 7), (.move (.tmp 84)), none, []⟩⟩]))
        (.draw [0, 0, 2, 6, 14, 0, 62, 0, 128, 384, 896, 2046, 0, 8190, 16383, 32767] [⟨0, 0, [], ⟨(some 85), (.move (.tmp 5)), none, []⟩⟩,
          ⟨1, 0, [], ⟨(some 86), (.move (.tmp 5)), none, []⟩⟩,
          ⟨2, 2, [], ⟨(some 87), (.bin .sub (.tmp 86) (.const (.int .i64 16))), none, []⟩⟩,
          ⟨3, 6, [], ⟨(some 88), (.indexArr 64 1 (.tmp 3) (.tmp 87)), none, []⟩⟩,
          ⟨4, 14, [], ⟨(some 89), (.load none (.tmp 88)), none, []⟩⟩,
          ⟨5, 0, [], ⟨(some 90), (.move (.tmp 6)), none, []⟩⟩,
          ⟨6, 62, [], ⟨(some 91), (.bin .add (.tmp 89) (.tmp 90)), none, []⟩⟩,
          ⟨7, 0, [], ⟨(some 92), (.move (.tmp 5)), none, []⟩⟩,
          ⟨8, 128, [], ⟨(some 93), (.bin .sub (.tmp 92) (.const (.int .i64 7))), none, []⟩⟩,
          ⟨9, 384, [], ⟨(some 94), (.indexArr 64 1 (.tmp 3) (.tmp 93)), none, []⟩⟩,
          ⟨10, 896, [], ⟨(some 95), (.load none (.tmp 94)), none, []⟩⟩,
          ⟨11, 2046, [], ⟨(some 96), (.bin .add (.tmp 91) (.tmp 95)), none, []⟩⟩,
          ⟨12, 0, [], ⟨(some 97), (.move (.tmp 7)), none, []⟩⟩,
          ⟨13, 8190, [], ⟨(some 98), (.bin .add (.tmp 96) (.tmp 97)), none, []⟩⟩,
          ⟨14, 16383, [], ⟨(some 99), (.indexArr 64 1 (.tmp 3) (.tmp 85)), none, []⟩⟩,
          ⟨15, 32767, [], ⟨none, (.store 1 (.tmp 99) (.tmp 98)), none, []⟩⟩])))))
      (.ops [⟨(some 49), (.move (.tmp 5)), none, []⟩,
        ⟨(some 50), (.bin .add (.tmp 49) (.const (.int .i64 1))), none, []⟩,
        ⟨(some 5), (.move (.tmp 50)), none, []⟩]))))))))
  (.seq (.keep [2] (.ops [⟨(some 100), (.load (some 64) (.tmp 3)), none, []⟩,
    ⟨none, (.store 64 (.tmp 2) (.tmp 100)), none, []⟩]))
  .ret)))))
theorem t47 : trF Tryd.prog Tryd.f47 s47 = some s47 := by kernel_rfl
theorem k47 : okS s47 = true := by kernel_rfl
theorem r47 : resT Tryd.prog Tryd.f47.results.toList = some [.c 2 (some 64)] := by kernel_rfl

def s48 : S :=
  (.seq (.keep [0, 1] (.ops [⟨(some 4), (.move (.const (.int .u32 0))), none, []⟩]))
  (.seq (.keep [4] (.draw [0, 0, 3, 0, 0, 16, 56, 127, 255] [⟨0, 0, [], ⟨(some 5), (.move (.tmp 0)), none, []⟩⟩,
    ⟨1, 0, [], ⟨(some 6), (.move (.tmp 1)), none, []⟩⟩,
    ⟨2, 3, [], ⟨(some 7), (.bin .shr (.tmp 5) (.tmp 6)), none, []⟩⟩,
    ⟨3, 0, [], ⟨(some 8), (.move (.tmp 0)), none, []⟩⟩,
    ⟨4, 0, [], ⟨(some 9), (.move (.tmp 1)), none, []⟩⟩,
    ⟨5, 16, [], ⟨(some 10), (.bin .sub (.const (.int .i64 32)) (.tmp 9)), none, []⟩⟩,
    ⟨6, 56, [], ⟨(some 11), (.bin .shl (.tmp 8) (.tmp 10)), none, []⟩⟩,
    ⟨7, 127, [], ⟨(some 12), (.bin .or (.tmp 7) (.tmp 11)), none, []⟩⟩,
    ⟨8, 255, [], ⟨(some 4), (.move (.tmp 12)), none, []⟩⟩]))
  .ret))
theorem t48 : trF Tryd.prog Tryd.f48 s48 = some s48 := by kernel_rfl
theorem k48 : okS s48 = true := by kernel_rfl
theorem r48 : resT Tryd.prog Tryd.f48.results.toList = some [.t 4] := by kernel_rfl

end Go.Proofs.YtljmjkpmkpchoaaDoor
