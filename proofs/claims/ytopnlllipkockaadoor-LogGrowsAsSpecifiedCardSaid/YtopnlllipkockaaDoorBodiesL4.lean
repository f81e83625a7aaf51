/- The bodies of the law's function, resolved, checked by the kernel. Conditions: none. -/
import Derived.Test.YtopnlllipkockaaDoorHr
set_option linter.all false
namespace Go.Proofs.YtopnlllipkockaaDoor
open Go Go.Cn
def s4 : S :=
  (.seq (.keep [2, 3, 4, 5] (.ops [⟨(some 4), (.box (.tmp 0)), none, []⟩,
    ⟨(some 5), (.box (.tmp 1)), none, []⟩,
    ⟨(some 8), (.move (.const (.bool false))), none, []⟩]))
  (.seq (.keep [2, 3, 4, 5, 9] (.ops [⟨(some 24), (.load (some 19) (.tmp 4)), none, []⟩,
    ⟨(some 25), (.call (.func 21) [(.tmp 24)]), none, []⟩,
    ⟨(some 9), (.move (.tmp 25)), none, []⟩]))
  (.seq (.keep [2, 3, 4, 5] (.seq (.keep [2, 3, 4, 5, 38] (.ops [⟨(some 26), (.move (.tmp 9)), none, []⟩,
    ⟨(some 27), (.un .not (.tmp 26)), none, []⟩,
    ⟨(some 28), (.move (.tmp 27)), none, []⟩,
    ⟨(some 29), (.fieldAddr 4 (.tmp 5)), (some (28, false)), []⟩,
    ⟨(some 30), (.load none (.tmp 29)), (some (28, false)), []⟩,
    ⟨(some 31), (.lenStr (.tmp 30)), (some (28, false)), []⟩,
    ⟨(some 32), (.bin .gtr (.tmp 31) (.const (.int .i64 600))), (some (28, false)), []⟩,
    ⟨(some 33), (.pick (.tmp 28) (.const (.bool true)) (.tmp 32)), none, []⟩,
    ⟨(some 34), (.move (.tmp 33)), none, []⟩,
    ⟨(some 35), (.move (.tmp 2)), (some (34, false)), []⟩,
    ⟨(some 36), (.lenStr (.tmp 35)), (some (34, false)), []⟩,
    ⟨(some 37), (.bin .gtr (.tmp 36) (.const (.int .i64 200))), (some (34, false)), []⟩,
    ⟨(some 38), (.pick (.tmp 34) (.const (.bool true)) (.tmp 37)), none, []⟩]))
  (.cond (.tmp 38)
    (.seq (.keep [8] (.ops [⟨(some 39), (.call (.func 10) []), none, []⟩,
      ⟨(some 8), (.move (.tmp 39)), none, []⟩]))
    .ret)
    .skip)))
  (.seq (.keep [2, 3, 4, 5, 10, 11] (.ops [⟨(some 41), (.load (some 19) (.tmp 4)), none, []⟩,
    ⟨(some 42), (.load (some 5) (.tmp 5)), none, []⟩,
    ⟨(some 43), (.call (.func 22) [(.tmp 41), (.tmp 42)]), none, []⟩,
    ⟨(some 40), (.move (.tmp 43)), none, []⟩,
    ⟨(some 44), (.extract (.tmp 40) 0), none, []⟩,
    ⟨(some 45), (.extract (.tmp 40) 1), none, []⟩,
    ⟨(some 10), (.alloc (.agg #[(.int .u8 0), (.int .u8 0), (.int .u8 0), (.int .u8 0), (.int .u8 0), (.int .u8 0), (.int .u8 0), (.int .u8 0), (.int .u8 0), (.int .u8 0), (.int .u8 0), (.int .u8 0), (.int .u8 0), (.int .u8 0), (.int .u8 0), (.int .u8 0), (.int .i64 0), (.slice none 0 0), (.slice none 0 0)])), none, []⟩,
    ⟨none, (.store 19 (.tmp 10) (.tmp 44)), none, []⟩,
    ⟨(some 11), (.move (.tmp 45)), none, []⟩]))
  (.seq (.keep [2, 3, 4, 5, 10, 11, 12, 13] (.ops [⟨(some 47), (.load (some 19) (.tmp 4)), none, []⟩,
    ⟨(some 48), (.move (.tmp 2)), none, []⟩,
    ⟨(some 49), (.call (.func 23) [(.tmp 47), (.tmp 48)]), none, []⟩,
    ⟨(some 46), (.move (.tmp 49)), none, []⟩,
    ⟨(some 50), (.extract (.tmp 46) 0), none, []⟩,
    ⟨(some 51), (.extract (.tmp 46) 1), none, []⟩,
    ⟨(some 12), (.alloc (.agg #[(.int .u8 0), (.int .u8 0), (.int .u8 0), (.int .u8 0), (.int .u8 0), (.int .u8 0), (.int .u8 0), (.int .u8 0), (.int .u8 0), (.int .u8 0), (.int .u8 0), (.int .u8 0), (.int .u8 0), (.int .u8 0), (.int .u8 0), (.int .u8 0), (.int .i64 0), (.slice none 0 0), (.slice none 0 0)])), none, []⟩,
    ⟨none, (.store 19 (.tmp 12) (.tmp 50)), none, []⟩,
    ⟨(some 13), (.move (.tmp 51)), none, []⟩]))
  (.seq (.keep [2, 3, 4, 5, 10, 11, 12, 13, 14, 15] (.ops [⟨(some 53), (.load (some 19) (.tmp 4)), none, []⟩,
    ⟨(some 54), (.move (.tmp 2)), none, []⟩,
    ⟨(some 55), (.call (.func 24) [(.tmp 53), (.tmp 54)]), none, []⟩,
    ⟨(some 52), (.move (.tmp 55)), none, []⟩,
    ⟨(some 56), (.extract (.tmp 52) 0), none, []⟩,
    ⟨(some 57), (.extract (.tmp 52) 1), none, []⟩,
    ⟨(some 14), (.move (.tmp 56)), none, []⟩,
    ⟨(some 15), (.move (.tmp 57)), none, []⟩]))
  (.seq (.keep [2, 3, 4, 5, 10, 11, 12, 13, 14, 15, 16, 17] (.ops [⟨(some 59), (.load (some 19) (.tmp 4)), none, []⟩,
    ⟨(some 60), (.move (.tmp 3)), none, []⟩,
    ⟨(some 61), (.call (.func 25) [(.tmp 59), (.tmp 60)]), none, []⟩,
    ⟨(some 58), (.move (.tmp 61)), none, []⟩,
    ⟨(some 62), (.extract (.tmp 58) 0), none, []⟩,
    ⟨(some 63), (.extract (.tmp 58) 1), none, []⟩,
    ⟨(some 16), (.alloc (.agg #[(.int .u8 0), (.int .u8 0), (.int .u8 0), (.int .u8 0), (.int .u8 0), (.int .u8 0), (.int .u8 0), (.int .u8 0), (.int .u8 0), (.int .u8 0), (.int .u8 0), (.int .u8 0), (.int .u8 0), (.int .u8 0), (.int .u8 0), (.int .u8 0), (.int .i64 0), (.slice none 0 0), (.slice none 0 0)])), none, []⟩,
    ⟨none, (.store 19 (.tmp 16) (.tmp 62)), none, []⟩,
    ⟨(some 17), (.move (.tmp 63)), none, []⟩]))
  (.seq (.keep [2, 3, 4, 5, 10, 11, 12, 13, 14, 15, 16, 17, 18, 19] (.ops [⟨(some 65), (.load (some 19) (.tmp 4)), none, []⟩,
    ⟨(some 66), (.move (.tmp 3)), none, []⟩,
    ⟨(some 67), (.call (.func 26) [(.tmp 65), (.tmp 66)]), none, []⟩,
    ⟨(some 64), (.move (.tmp 67)), none, []⟩,
    ⟨(some 68), (.extract (.tmp 64) 0), none, []⟩,
    ⟨(some 69), (.extract (.tmp 64) 1), none, []⟩,
    ⟨(some 18), (.alloc (.agg (List.replicate 16 (.int .u8 0)).toArray)), none, []⟩,
    ⟨none, (.store 16 (.tmp 18) (.tmp 68)), none, []⟩,
    ⟨(some 19), (.move (.tmp 69)), none, []⟩]))
  (.seq (.keep [2, 3, 4, 10, 11, 12, 13, 14, 15, 16, 17, 18, 19, 20] (.ops [⟨(some 70), (.load (some 19) (.tmp 4)), none, []⟩,
    ⟨(some 71), (.load (some 5) (.tmp 5)), none, []⟩,
    ⟨(some 72), (.call (.func 27) [(.tmp 70), (.tmp 71)]), none, []⟩,
    ⟨(some 20), (.alloc (.agg #[(.int .u8 0), (.int .u8 0), (.int .u8 0), (.int .u8 0), (.int .u8 0), (.int .u8 0), (.int .u8 0), (.int .u8 0), (.int .u8 0), (.int .u8 0), (.int .u8 0), (.int .u8 0), (.int .u8 0), (.int .u8 0), (.int .u8 0), (.int .u8 0), (.int .i64 0), (.slice none 0 0), (.slice none 0 0), (.int .i64 0), (.int .i64 0)])), none, []⟩,
    ⟨none, (.store 21 (.tmp 20) (.tmp 72)), none, []⟩]))
  (.seq (.keep [2, 3, 4, 10, 11, 12, 13, 14, 15, 16, 17, 18, 19, 20, 21] (.ops [⟨(some 73), (.load (some 19) (.tmp 4)), none, []⟩,
    ⟨(some 74), (.move (.tmp 2)), none, []⟩,
    ⟨(some 75), (.call (.func 28) [(.tmp 73), (.tmp 74)]), none, []⟩,
    ⟨(some 21), (.alloc (.agg #[(.int .u8 0), (.int .u8 0), (.int .u8 0), (.int .u8 0), (.int .u8 0), (.int .u8 0), (.int .u8 0), (.int .u8 0), (.int .u8 0), (.int .u8 0), (.int .u8 0), (.int .u8 0), (.int .u8 0), (.int .u8 0), (.int .u8 0), (.int .u8 0), (.int .i64 0), (.slice none 0 0), (.slice none 0 0), (.int .i64 0), (.int .i64 0)])), none, []⟩,
    ⟨none, (.store 21 (.tmp 21) (.tmp 75)), none, []⟩]))
  (.seq (.keep [3, 4, 10, 11, 12, 13, 14, 15, 16, 17, 18, 19, 20, 21, 22] (.ops [⟨(some 76), (.load (some 19) (.tmp 4)), none, []⟩,
    ⟨(some 77), (.move (.tmp 2)), none, []⟩,
    ⟨(some 78), (.call (.func 29) [(.tmp 76), (.tmp 77)]), none, []⟩,
    ⟨(some 22), (.alloc (.agg #[(.int .u8 0), (.int .u8 0), (.int .u8 0), (.int .u8 0), (.int .u8 0), (.int .u8 0), (.int .u8 0), (.int .u8 0), (.int .u8 0), (.int .u8 0), (.int .u8 0), (.int .u8 0), (.int .u8 0), (.int .u8 0), (.int .u8 0), (.int .u8 0), (.int .i64 0), (.slice none 0 0), (.slice none 0 0), (.int .i64 0), (.int .i64 0)])), none, []⟩,
    ⟨none, (.store 21 (.tmp 22) (.tmp 78)), none, []⟩]))
  (.seq (.keep [3, 4, 10, 11, 12, 13, 14, 15, 16, 17, 18, 19, 20, 21, 22, 23] (.ops [⟨(some 79), (.load (some 19) (.tmp 4)), none, []⟩,
    ⟨(some 80), (.move (.tmp 3)), none, []⟩,
    ⟨(some 81), (.call (.func 30) [(.tmp 79), (.tmp 80)]), none, []⟩,
    ⟨(some 23), (.alloc (.agg #[(.int .u8 0), (.int .u8 0), (.int .u8 0), (.int .u8 0), (.int .u8 0), (.int .u8 0), (.int .u8 0), (.int .u8 0), (.int .u8 0), (.int .u8 0), (.int .u8 0), (.int .u8 0), (.int .u8 0), (.int .u8 0), (.int .u8 0), (.int .u8 0), (.int .i64 0), (.slice none 0 0), (.slice none 0 0), (.int .i64 0), (.int .i64 0)])), none, []⟩,
    ⟨none, (.store 21 (.tmp 23) (.tmp 81)), none, []⟩]))
  (.seq (.keep [3, 4, 18, 19] (.seq (.keep [3, 4, 18, 19, 130] (.ops [⟨(some 82), (.load (some 19) (.tmp 10)), none, []⟩,
    ⟨(some 83), (.fieldAddr 0 (.tmp 20)), none, []⟩,
    ⟨(some 84), (.load (some 19) (.tmp 83)), none, []⟩,
    ⟨(some 85), (.call (.func 12) [(.tmp 82), (.tmp 84)]), none, []⟩,
    ⟨(some 86), (.un .not (.tmp 85)), none, []⟩,
    ⟨(some 87), (.move (.tmp 86)), none, []⟩,
    ⟨(some 88), (.move (.tmp 11)), (some (87, false)), []⟩,
    ⟨(some 89), (.fieldAddr 20 (.tmp 20)), (some (87, false)), []⟩,
    ⟨(some 90), (.load none (.tmp 89)), (some (87, false)), []⟩,
    ⟨(some 91), (.bin .neq (.tmp 88) (.tmp 90)), (some (87, false)), []⟩,
    ⟨(some 92), (.pick (.tmp 87) (.const (.bool true)) (.tmp 91)), none, []⟩,
    ⟨(some 93), (.move (.tmp 92)), none, []⟩,
    ⟨(some 94), (.load (some 19) (.tmp 12)), (some (93, false)), []⟩,
    ⟨(some 95), (.fieldAddr 0 (.tmp 21)), (some (93, false)), []⟩,
    ⟨(some 96), (.load (some 19) (.tmp 95)), (some (93, false)), []⟩,
    ⟨(some 97), (.call (.func 12) [(.tmp 94), (.tmp 96)]), (some (93, false)), []⟩,
    ⟨(some 98), (.un .not (.tmp 97)), (some (93, false)), []⟩,
    ⟨(some 99), (.pick (.tmp 93) (.const (.bool true)) (.tmp 98)), none, []⟩,
    ⟨(some 100), (.move (.tmp 99)), none, []⟩,
    ⟨(some 101), (.move (.tmp 13)), (some (100, false)), []⟩,
    ⟨(some 102), (.fieldAddr 20 (.tmp 21)), (some (100, false)), []⟩,
    ⟨(some 103), (.load none (.tmp 102)), (some (100, false)), []⟩,
    ⟨(some 104), (.bin .neq (.tmp 101) (.tmp 103)), (some (100, false)), []⟩,
    ⟨(some 105), (.pick (.tmp 100) (.const (.bool true)) (.tmp 104)), none, []⟩,
    ⟨(some 106), (.move (.tmp 105)), none, []⟩,
    ⟨(some 107), (.move (.tmp 14)), (some (106, false)), []⟩,
    ⟨(some 108), (.fieldAddr 19 (.tmp 22)), (some (106, false)), []⟩,
    ⟨(some 109), (.load none (.tmp 108)), (some (106, false)), []⟩,
    ⟨(some 110), (.bin .neq (.tmp 107) (.tmp 109)), (some (106, false)), []⟩,
    ⟨(some 111), (.pick (.tmp 106) (.const (.bool true)) (.tmp 110)), none, []⟩,
    ⟨(some 112), (.move (.tmp 111)), none, []⟩,
    ⟨(some 113), (.move (.tmp 15)), (some (112, false)), []⟩,
    ⟨(some 114), (.fieldAddr 20 (.tmp 22)), (some (112, false)), []⟩,
    ⟨(some 115), (.load none (.tmp 114)), (some (112, false)), []⟩,
    ⟨(some 116), (.bin .neq (.tmp 113) (.tmp 115)), (some (112, false)), []⟩,
    ⟨(some 117), (.pick (.tmp 112) (.const (.bool true)) (.tmp 116)), none, []⟩,
    ⟨(some 118), (.move (.tmp 117)), none, []⟩,
    ⟨(some 119), (.load (some 19) (.tmp 16)), (some (118, false)), []⟩,
    ⟨(some 120), (.fieldAddr 0 (.tmp 23)), (some (118, false)), []⟩,
    ⟨(some 121), (.load (some 19) (.tmp 120)), (some (118, false)), []⟩,
    ⟨(some 122), (.call (.func 12) [(.tmp 119), (.tmp 121)]), (some (118, false)), []⟩,
    ⟨(some 123), (.un .not (.tmp 122)), (some (118, false)), []⟩,
    ⟨(some 124), (.pick (.tmp 118) (.const (.bool true)) (.tmp 123)), none, []⟩,
    ⟨(some 125), (.move (.tmp 124)), none, []⟩,
    ⟨(some 126), (.move (.tmp 17)), (some (125, false)), []⟩,
    ⟨(some 127), (.fieldAddr 20 (.tmp 23)), (some (125, false)), []⟩,
    ⟨(some 128), (.load none (.tmp 127)), (some (125, false)), []⟩,
    ⟨(some 129), (.bin .neq (.tmp 126) (.tmp 128)), (some (125, false)), []⟩,
    ⟨(some 130), (.pick (.tmp 125) (.const (.bool true)) (.tmp 129)), none, []⟩]))
  (.cond (.tmp 130)
    (.seq (.keep [8] (.ops [⟨(some 8), (.move (.const (.bool false))), none, []⟩]))
    .ret)
    .skip)))
  (.seq (.keep [3, 4, 18, 19] (.seq (.keep [3, 4, 18, 19, 139] (.ops [⟨(some 131), (.move (.tmp 3)), none, []⟩,
    ⟨(some 132), (.bin .lss (.tmp 131) (.const (.int .i64 0))), none, []⟩,
    ⟨(some 133), (.move (.tmp 132)), none, []⟩,
    ⟨(some 134), (.move (.tmp 3)), (some (133, false)), []⟩,
    ⟨(some 135), (.fieldAddr 17 (.tmp 4)), (some (133, false)), []⟩,
    ⟨(some 136), (.load none (.tmp 135)), (some (133, false)), []⟩,
    ⟨(some 137), (.len (.tmp 136)), (some (133, false)), []⟩,
    ⟨(some 138), (.bin .gtr (.tmp 134) (.tmp 137)), (some (133, false)), []⟩,
    ⟨(some 139), (.pick (.tmp 133) (.const (.bool true)) (.tmp 138)), none, []⟩]))
  (.cond (.tmp 139)
    (.seq (.keep [8] (.ops [⟨(some 140), (.call (.func 10) []), none, []⟩,
      ⟨(some 141), (.move (.tmp 140)), none, []⟩,
      ⟨(some 142), (.move (.tmp 19)), (some (141, true)), []⟩,
      ⟨(some 143), (.bin .eql (.tmp 142) (.const (.int .i64 1))), (some (141, true)), []⟩,
      ⟨(some 144), (.pick (.tmp 141) (.tmp 143) (.const (.bool false))), none, []⟩,
      ⟨(some 145), (.move (.tmp 144)), none, []⟩,
      ⟨(some 146), (.load (some 16) (.tmp 18)), (some (145, true)), []⟩,
      ⟨(some 147), (.build (List.replicate 16 (.int .u8 0)) []), (some (145, true)), []⟩,
      ⟨(some 148), (.eqAgg false (List.replicate 16 (.int .u8)) (.tmp 146) (.tmp 147)), (some (145, true)), []⟩,
      ⟨(some 149), (.pick (.tmp 145) (.tmp 148) (.const (.bool false))), none, []⟩,
      ⟨(some 8), (.move (.tmp 149)), none, []⟩]))
    .ret)
    .skip)))
  (.seq (.keep [8] (.draw [0, 1, 3, 7, 15, 31, 63, 63, 63, 447, 1023, 2047, 4095] [⟨0, 0, [], ⟨(some 150), (.call (.func 10) []), none, []⟩⟩,
    ⟨1, 1, [], ⟨(some 151), (.move (.tmp 150)), none, []⟩⟩,
    ⟨2, 3, [], ⟨(some 152), (.move (.tmp 19)), (some (151, true)), []⟩⟩,
    ⟨3, 7, [], ⟨(some 153), (.bin .eql (.tmp 152) (.const (.int .i64 0))), (some (151, true)), []⟩⟩,
    ⟨4, 15, [], ⟨(some 154), (.pick (.tmp 151) (.tmp 153) (.const (.bool false))), none, []⟩⟩,
    ⟨5, 31, [], ⟨(some 155), (.move (.tmp 154)), none, []⟩⟩,
    ⟨6, 63, [], ⟨(some 156), (.load (some 16) (.tmp 18)), (some (155, true)), []⟩⟩,
    ⟨7, 63, [], ⟨(some 157), (.load (some 19) (.tmp 4)), (some (155, true)), []⟩⟩,
    ⟨8, 63, [], ⟨(some 158), (.move (.tmp 3)), (some (155, true)), []⟩⟩,
    ⟨9, 447, [6], ⟨(some 159), (.call (.func 31) [(.tmp 157), (.tmp 158)]), (some (155, true)), [((.load (some 16) (.tmp 18)), (some (155, true)), (some 156))]⟩⟩,
    ⟨10, 1023, [], ⟨(some 160), (.eqAgg false (List.replicate 16 (.int .u8)) (.tmp 156) (.tmp 159)), (some (155, true)), []⟩⟩,
    ⟨11, 2047, [], ⟨(some 161), (.pick (.tmp 155) (.tmp 160) (.const (.bool false))), none, []⟩⟩,
    ⟨12, 4095, [], ⟨(some 8), (.move (.tmp 161)), none, []⟩⟩]))
  .ret)))))))))))))))
theorem t4 : trF Tryd.prog Tryd.f4 s4 = some s4 := by kernel_rfl
theorem k4 : okS s4 = true := by kernel_rfl
theorem r4 : resT Tryd.prog Tryd.f4.results.toList = some [.t 8] := by kernel_rfl

end Go.Proofs.YtopnlllipkockaaDoor
