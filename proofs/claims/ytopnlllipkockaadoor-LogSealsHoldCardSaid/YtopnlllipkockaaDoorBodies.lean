/- The bodies of the functions, resolved, checked by the kernel. Conditions: none. -/
import Derived.Test.YtopnlllipkockaaDoorProg
import Derived.KernelRfl
import Derived.Test.YtopnlllipkockaaDoorCn28
set_option linter.all false
namespace Go.Proofs.YtopnlllipkockaaDoor
open Go Go.Cn

def s9 : S :=
  (.seq (.keep [1] (.ops [⟨(some 1), (.box (.tmp 0)), none, []⟩,
    ⟨(some 2), (.move (.const (.bool false))), none, []⟩]))
  (.seq (.keep [1] (.seq (.keep [1, 3] (.ops [⟨(some 3), (.move (.const (.int .i64 0))), none, []⟩]))
  (.block 0
    (.loop
      (.keep [1, 3] (.seq (.keep [1, 3] (.seq (.keep [1, 3, 12] (.ops [⟨(some 4), (.move (.tmp 3)), none, []⟩,
        ⟨(some 5), (.fieldAddr 17 (.tmp 1)), none, []⟩,
        ⟨(some 6), (.load none (.tmp 5)), none, []⟩,
        ⟨(some 7), (.len (.tmp 6)), none, []⟩,
        ⟨(some 8), (.bin .lss (.tmp 4) (.tmp 7)), none, []⟩,
        ⟨(some 9), (.move (.tmp 8)), none, []⟩,
        ⟨(some 10), (.move (.tmp 3)), (some (9, true)), []⟩,
        ⟨(some 11), (.bin .lss (.tmp 10) (.const (.int .i64 61))), (some (9, true)), []⟩,
        ⟨(some 12), (.pick (.tmp 9) (.tmp 11) (.const (.bool false))), none, []⟩]))
      (.cond (.tmp 12)
        .skip
        (.exit 0))))
      (.seq (.keep [1, 3] (.block 1
        (.seq (.keep [1, 3, 22] (.ops [⟨(some 15), (.fieldAddr 17 (.tmp 1)), none, []⟩,
          ⟨(some 16), (.load none (.tmp 15)), none, []⟩,
          ⟨(some 17), (.move (.tmp 3)), none, []⟩,
          ⟨(some 18), (.indexAddr 5 (.tmp 16) (.tmp 17)), none, []⟩,
          ⟨(some 19), (.fieldAddr 4 (.tmp 18)), none, []⟩,
          ⟨(some 20), (.load none (.tmp 19)), none, []⟩,
          ⟨(some 21), (.lenStr (.tmp 20)), none, []⟩,
          ⟨(some 22), (.bin .gtr (.tmp 21) (.const (.int .i64 600))), none, []⟩]))
        (.cond (.tmp 22)
          (.seq (.keep [2] (.ops [⟨(some 2), (.move (.const (.bool false))), none, []⟩]))
          .ret)
          .skip))))
      (.ops [⟨(some 13), (.move (.tmp 3)), none, []⟩,
        ⟨(some 14), (.bin .add (.tmp 13) (.const (.int .i64 1))), none, []⟩,
        ⟨(some 3), (.move (.tmp 14)), none, []⟩]))))))))
  (.seq (.keep [2] (.ops [⟨(some 23), (.fieldAddr 17 (.tmp 1)), none, []⟩,
    ⟨(some 24), (.load none (.tmp 23)), none, []⟩,
    ⟨(some 25), (.len (.tmp 24)), none, []⟩,
    ⟨(some 26), (.bin .leq (.tmp 25) (.const (.int .i64 60))), none, []⟩,
    ⟨(some 27), (.move (.tmp 26)), none, []⟩,
    ⟨(some 28), (.fieldAddr 18 (.tmp 1)), (some (27, true)), []⟩,
    ⟨(some 29), (.load none (.tmp 28)), (some (27, true)), []⟩,
    ⟨(some 30), (.len (.tmp 29)), (some (27, true)), []⟩,
    ⟨(some 31), (.bin .leq (.tmp 30) (.const (.int .i64 20))), (some (27, true)), []⟩,
    ⟨(some 32), (.pick (.tmp 27) (.tmp 31) (.const (.bool false))), none, []⟩,
    ⟨(some 2), (.move (.tmp 32)), none, []⟩]))
  .ret)))
theorem t9 : trF Tryd.prog Tryd.f9 s9 = some s9 := by kernel_rfl
theorem k9 : okS s9 = true := by kernel_rfl
theorem r9 : resT Tryd.prog Tryd.f9.results.toList = some [.t 2] := by kernel_rfl

def s10 : S :=
  (.seq (.keep [] (.ops [⟨(some 0), (.move (.const (.bool false))), none, []⟩]))
  (.seq (.keep [1, 2] (.ops [⟨(some 24), (.build (List.replicate 16 (.int .u8 0)) [(0, 1, (.const (.int .u8 5)))]), none, []⟩,
    ⟨(some 25), (.call (.func 11) [(.tmp 24), (.const (.int .i64 2))]), none, []⟩,
    ⟨(some 23), (.move (.tmp 25)), none, []⟩,
    ⟨(some 26), (.extract (.tmp 23) 0), none, []⟩,
    ⟨(some 27), (.extract (.tmp 23) 1), none, []⟩,
    ⟨(some 1), (.alloc (.agg #[(.int .u8 0), (.int .u8 0), (.int .u8 0), (.int .u8 0), (.int .u8 0), (.int .u8 0), (.int .u8 0), (.int .u8 0), (.int .u8 0), (.int .u8 0), (.int .u8 0), (.int .u8 0), (.int .u8 0), (.int .u8 0), (.int .u8 0), (.int .u8 0), (.int .i64 0), (.slice none 0 0), (.slice none 0 0)])), none, []⟩,
    ⟨none, (.store 19 (.tmp 1) (.tmp 26)), none, []⟩,
    ⟨(some 2), (.move (.tmp 27)), none, []⟩]))
  (.seq (.keep [1, 2, 3] (.ops [⟨(some 29), (.load (some 19) (.tmp 1)), none, []⟩,
    ⟨(some 30), (.build [(.int .i64 0), (.int .i64 0), (.int .i64 0), (.int .i64 0), (.string ⟨#[]⟩)] [(0, 1, (.const (.int .i64 1))), (3, 1, (.const (.int .i64 10)))]), none, []⟩,
    ⟨(some 31), (.call (.func 22) [(.tmp 29), (.tmp 30)]), none, []⟩,
    ⟨(some 28), (.move (.tmp 31)), none, []⟩,
    ⟨(some 32), (.extract (.tmp 28) 0), none, []⟩,
    ⟨(some 33), (.extract (.tmp 28) 1), none, []⟩,
    ⟨none, (.store 19 (.tmp 1) (.tmp 32)), none, []⟩,
    ⟨(some 3), (.move (.tmp 33)), none, []⟩]))
  (.seq (.keep [1, 2, 3, 4] (.ops [⟨(some 35), (.load (some 19) (.tmp 1)), none, []⟩,
    ⟨(some 36), (.build [(.int .i64 0), (.int .i64 0), (.int .i64 0), (.int .i64 0), (.string ⟨#[]⟩)] [(0, 1, (.const (.int .i64 3))), (2, 1, (.const (.int .i64 10))), (4, 1, (.const (.string ⟨#[97]⟩)))]), none, []⟩,
    ⟨(some 37), (.call (.func 22) [(.tmp 35), (.tmp 36)]), none, []⟩,
    ⟨(some 34), (.move (.tmp 37)), none, []⟩,
    ⟨(some 38), (.extract (.tmp 34) 0), none, []⟩,
    ⟨(some 39), (.extract (.tmp 34) 1), none, []⟩,
    ⟨none, (.store 19 (.tmp 1) (.tmp 38)), none, []⟩,
    ⟨(some 4), (.move (.tmp 39)), none, []⟩]))
  (.seq (.keep [1, 2, 3, 4, 5] (.ops [⟨(some 41), (.load (some 19) (.tmp 1)), none, []⟩,
    ⟨(some 42), (.build [(.int .i64 0), (.int .i64 0), (.int .i64 0), (.int .i64 0), (.string ⟨#[]⟩)] [(0, 1, (.const (.int .i64 2))), (1, 1, (.const (.int .i64 1))), (3, 1, (.const (.int .i64 7)))]), none, []⟩,
    ⟨(some 43), (.call (.func 22) [(.tmp 41), (.tmp 42)]), none, []⟩,
    ⟨(some 40), (.move (.tmp 43)), none, []⟩,
    ⟨(some 44), (.extract (.tmp 40) 0), none, []⟩,
    ⟨(some 45), (.extract (.tmp 40) 1), none, []⟩,
    ⟨none, (.store 19 (.tmp 1) (.tmp 44)), none, []⟩,
    ⟨(some 5), (.move (.tmp 45)), none, []⟩]))
  (.seq (.keep [1, 2, 3, 4, 5, 7] (.ops [⟨(some 47), (.load (some 19) (.tmp 1)), none, []⟩,
    ⟨(some 48), (.build [(.int .i64 0), (.int .i64 0), (.int .i64 0), (.int .i64 0), (.string ⟨#[]⟩)] [(0, 1, (.const (.int .i64 3))), (2, 1, (.const (.int .i64 9))), (4, 1, (.const (.string ⟨#[98]⟩)))]), none, []⟩,
    ⟨(some 49), (.call (.func 22) [(.tmp 47), (.tmp 48)]), none, []⟩,
    ⟨(some 46), (.move (.tmp 49)), none, []⟩,
    ⟨(some 50), (.extract (.tmp 46) 0), none, []⟩,
    ⟨(some 51), (.extract (.tmp 46) 1), none, []⟩,
    ⟨(some 6), (.alloc (.agg #[(.int .u8 0), (.int .u8 0), (.int .u8 0), (.int .u8 0), (.int .u8 0), (.int .u8 0), (.int .u8 0), (.int .u8 0), (.int .u8 0), (.int .u8 0), (.int .u8 0), (.int .u8 0), (.int .u8 0), (.int .u8 0), (.int .u8 0), (.int .u8 0), (.int .i64 0), (.slice none 0 0), (.slice none 0 0)])), none, []⟩,
    ⟨none, (.store 19 (.tmp 6) (.tmp 50)), none, []⟩,
    ⟨(some 7), (.move (.tmp 51)), none, []⟩]))
  (.seq (.keep [1, 2, 3, 4, 5, 7, 9] (.ops [⟨(some 53), (.load (some 19) (.tmp 1)), none, []⟩,
    ⟨(some 54), (.build [(.int .i64 0), (.int .i64 0), (.int .i64 0), (.int .i64 0), (.string ⟨#[]⟩)] [(0, 1, (.const (.int .i64 3))), (2, 1, (.const (.int .i64 10)))]), none, []⟩,
    ⟨(some 55), (.call (.func 22) [(.tmp 53), (.tmp 54)]), none, []⟩,
    ⟨(some 52), (.move (.tmp 55)), none, []⟩,
    ⟨(some 56), (.extract (.tmp 52) 0), none, []⟩,
    ⟨(some 57), (.extract (.tmp 52) 1), none, []⟩,
    ⟨(some 8), (.alloc (.agg #[(.int .u8 0), (.int .u8 0), (.int .u8 0), (.int .u8 0), (.int .u8 0), (.int .u8 0), (.int .u8 0), (.int .u8 0), (.int .u8 0), (.int .u8 0), (.int .u8 0), (.int .u8 0), (.int .u8 0), (.int .u8 0), (.int .u8 0), (.int .u8 0), (.int .i64 0), (.slice none 0 0), (.slice none 0 0)])), none, []⟩,
    ⟨none, (.store 19 (.tmp 8) (.tmp 56)), none, []⟩,
    ⟨(some 9), (.move (.tmp 57)), none, []⟩]))
  (.seq (.keep [1, 2, 3, 4, 5, 7, 9, 11] (.ops [⟨(some 59), (.load (some 19) (.tmp 1)), none, []⟩,
    ⟨(some 60), (.build [(.int .i64 0), (.int .i64 0), (.int .i64 0), (.int .i64 0), (.string ⟨#[]⟩)] [(0, 1, (.const (.int .i64 1))), (1, 1, (.const (.int .i64 1)))]), none, []⟩,
    ⟨(some 61), (.call (.func 22) [(.tmp 59), (.tmp 60)]), none, []⟩,
    ⟨(some 58), (.move (.tmp 61)), none, []⟩,
    ⟨(some 62), (.extract (.tmp 58) 0), none, []⟩,
    ⟨(some 63), (.extract (.tmp 58) 1), none, []⟩,
    ⟨(some 10), (.alloc (.agg #[(.int .u8 0), (.int .u8 0), (.int .u8 0), (.int .u8 0), (.int .u8 0), (.int .u8 0), (.int .u8 0), (.int .u8 0), (.int .u8 0), (.int .u8 0), (.int .u8 0), (.int .u8 0), (.int .u8 0), (.int .u8 0), (.int .u8 0), (.int .u8 0), (.int .i64 0), (.slice none 0 0), (.slice none 0 0)])), none, []⟩,
    ⟨none, (.store 19 (.tmp 10) (.tmp 62)), none, []⟩,
    ⟨(some 11), (.move (.tmp 63)), none, []⟩]))
  (.seq (.keep [1] (.seq (.keep [1, 95] (.ops [⟨(some 64), (.move (.tmp 2)), none, []⟩,
    ⟨(some 65), (.bin .neq (.tmp 64) (.const (.int .i64 0))), none, []⟩,
    ⟨(some 66), (.move (.tmp 65)), none, []⟩,
    ⟨(some 67), (.move (.tmp 3)), (some (66, false)), []⟩,
    ⟨(some 68), (.bin .neq (.tmp 67) (.const (.int .i64 0))), (some (66, false)), []⟩,
    ⟨(some 69), (.pick (.tmp 66) (.const (.bool true)) (.tmp 68)), none, []⟩,
    ⟨(some 70), (.move (.tmp 69)), none, []⟩,
    ⟨(some 71), (.move (.tmp 4)), (some (70, false)), []⟩,
    ⟨(some 72), (.bin .neq (.tmp 71) (.const (.int .i64 0))), (some (70, false)), []⟩,
    ⟨(some 73), (.pick (.tmp 70) (.const (.bool true)) (.tmp 72)), none, []⟩,
    ⟨(some 74), (.move (.tmp 73)), none, []⟩,
    ⟨(some 75), (.move (.tmp 5)), (some (74, false)), []⟩,
    ⟨(some 76), (.bin .neq (.tmp 75) (.const (.int .i64 0))), (some (74, false)), []⟩,
    ⟨(some 77), (.pick (.tmp 74) (.const (.bool true)) (.tmp 76)), none, []⟩,
    ⟨(some 78), (.move (.tmp 77)), none, []⟩,
    ⟨(some 79), (.move (.tmp 7)), (some (78, false)), []⟩,
    ⟨(some 80), (.bin .neq (.tmp 79) (.const (.int .i64 3))), (some (78, false)), []⟩,
    ⟨(some 81), (.pick (.tmp 78) (.const (.bool true)) (.tmp 80)), none, []⟩,
    ⟨(some 82), (.move (.tmp 81)), none, []⟩,
    ⟨(some 83), (.move (.tmp 9)), (some (82, false)), []⟩,
    ⟨(some 84), (.bin .neq (.tmp 83) (.const (.int .i64 3))), (some (82, false)), []⟩,
    ⟨(some 85), (.pick (.tmp 82) (.const (.bool true)) (.tmp 84)), none, []⟩,
    ⟨(some 86), (.move (.tmp 85)), none, []⟩,
    ⟨(some 87), (.move (.tmp 11)), (some (86, false)), []⟩,
    ⟨(some 88), (.bin .neq (.tmp 87) (.const (.int .i64 3))), (some (86, false)), []⟩,
    ⟨(some 89), (.pick (.tmp 86) (.const (.bool true)) (.tmp 88)), none, []⟩,
    ⟨(some 90), (.move (.tmp 89)), none, []⟩,
    ⟨(some 91), (.fieldAddr 17 (.tmp 1)), (some (90, false)), []⟩,
    ⟨(some 92), (.load none (.tmp 91)), (some (90, false)), []⟩,
    ⟨(some 93), (.len (.tmp 92)), (some (90, false)), []⟩,
    ⟨(some 94), (.bin .neq (.tmp 93) (.const (.int .i64 3))), (some (90, false)), []⟩,
    ⟨(some 95), (.pick (.tmp 90) (.const (.bool true)) (.tmp 94)), none, []⟩]))
  (.cond (.tmp 95)
    (.seq (.keep [0] (.ops [⟨(some 0), (.move (.const (.bool false))), none, []⟩]))
    .ret)
    .skip)))
  (.seq (.keep [12, 13] (.ops [⟨(some 97), (.load (some 19) (.tmp 1)), none, []⟩,
    ⟨(some 98), (.call (.func 23) [(.tmp 97), (.const (.string ⟨#[107, 101, 121]⟩))]), none, []⟩,
    ⟨(some 96), (.move (.tmp 98)), none, []⟩,
    ⟨(some 99), (.extract (.tmp 96) 0), none, []⟩,
    ⟨(some 100), (.extract (.tmp 96) 1), none, []⟩,
    ⟨(some 12), (.alloc (.agg #[(.int .u8 0), (.int .u8 0), (.int .u8 0), (.int .u8 0), (.int .u8 0), (.int .u8 0), (.int .u8 0), (.int .u8 0), (.int .u8 0), (.int .u8 0), (.int .u8 0), (.int .u8 0), (.int .u8 0), (.int .u8 0), (.int .u8 0), (.int .u8 0), (.int .i64 0), (.slice none 0 0), (.slice none 0 0)])), none, []⟩,
    ⟨none, (.store 19 (.tmp 12) (.tmp 99)), none, []⟩,
    ⟨(some 13), (.move (.tmp 100)), none, []⟩]))
  (.seq (.keep [12, 13, 15] (.ops [⟨(some 102), (.load (some 19) (.tmp 12)), none, []⟩,
    ⟨(some 103), (.call (.func 23) [(.tmp 102), (.const (.string ⟨#[107, 101, 121]⟩))]), none, []⟩,
    ⟨(some 101), (.move (.tmp 103)), none, []⟩,
    ⟨(some 104), (.extract (.tmp 101) 0), none, []⟩,
    ⟨(some 105), (.extract (.tmp 101) 1), none, []⟩,
    ⟨(some 14), (.alloc (.agg #[(.int .u8 0), (.int .u8 0), (.int .u8 0), (.int .u8 0), (.int .u8 0), (.int .u8 0), (.int .u8 0), (.int .u8 0), (.int .u8 0), (.int .u8 0), (.int .u8 0), (.int .u8 0), (.int .u8 0), (.int .u8 0), (.int .u8 0), (.int .u8 0), (.int .i64 0), (.slice none 0 0), (.slice none 0 0)])), none, []⟩,
    ⟨none, (.store 19 (.tmp 14) (.tmp 104)), none, []⟩,
    ⟨(some 15), (.move (.tmp 105)), none, []⟩]))
  (.seq (.keep [12, 13, 15, 16, 17] (.ops [⟨(some 107), (.load (some 19) (.tmp 12)), none, []⟩,
    ⟨(some 108), (.call (.func 24) [(.tmp 107), (.const (.string ⟨#[107, 101, 121]⟩))]), none, []⟩,
    ⟨(some 106), (.move (.tmp 108)), none, []⟩,
    ⟨(some 109), (.extract (.tmp 106) 0), none, []⟩,
    ⟨(some 110), (.extract (.tmp 106) 1), none, []⟩,
    ⟨(some 16), (.move (.tmp 109)), none, []⟩,
    ⟨(some 17), (.move (.tmp 110)), none, []⟩]))
  (.seq (.keep [12, 13, 15, 16, 17, 19] (.ops [⟨(some 112), (.load (some 19) (.tmp 12)), none, []⟩,
    ⟨(some 113), (.call (.func 24) [(.tmp 112), (.const (.string ⟨#[111, 116, 104, 101, 114]⟩))]), none, []⟩,
    ⟨(some 111), (.move (.tmp 113)), none, []⟩,
    ⟨(some 114), (.extract (.tmp 111) 0), none, []⟩,
    ⟨(some 115), (.extract (.tmp 111) 1), none, []⟩,
    ⟨(some 18), (.move (.tmp 114)), none, []⟩,
    ⟨(some 19), (.move (.tmp 115)), none, []⟩]))
  (.seq (.keep [12, 13, 15, 16, 17, 19, 20, 21] (.ops [⟨(some 117), (.load (some 19) (.tmp 12)), none, []⟩,
    ⟨(some 118), (.call (.func 25) [(.tmp 117), (.const (.int .i64 2))]), none, []⟩,
    ⟨(some 116), (.move (.tmp 118)), none, []⟩,
    ⟨(some 119), (.extract (.tmp 116) 0), none, []⟩,
    ⟨(some 120), (.extract (.tmp 116) 1), none, []⟩,
    ⟨(some 20), (.alloc (.agg #[(.int .u8 0), (.int .u8 0), (.int .u8 0), (.int .u8 0), (.int .u8 0), (.int .u8 0), (.int .u8 0), (.int .u8 0), (.int .u8 0), (.int .u8 0), (.int .u8 0), (.int .u8 0), (.int .u8 0), (.int .u8 0), (.int .u8 0), (.int .u8 0), (.int .i64 0), (.slice none 0 0), (.slice none 0 0)])), none, []⟩,
    ⟨none, (.store 19 (.tmp 20) (.tmp 119)), none, []⟩,
    ⟨(some 21), (.move (.tmp 120)), none, []⟩]))
  (.seq (.keep [12] (.seq (.keep [12, 165] (.ops [⟨(some 121), (.move (.tmp 13)), none, []⟩,
    ⟨(some 122), (.bin .neq (.tmp 121) (.const (.int .i64 0))), none, []⟩,
    ⟨(some 123), (.move (.tmp 122)), none, []⟩,
    ⟨(some 124), (.move (.tmp 15)), (some (123, false)), []⟩,
    ⟨(some 125), (.bin .neq (.tmp 124) (.const (.int .i64 4))), (some (123, false)), []⟩,
    ⟨(some 126), (.pick (.tmp 123) (.const (.bool true)) (.tmp 125)), none, []⟩,
    ⟨(some 127), (.move (.tmp 126)), none, []⟩,
    ⟨(some 128), (.move (.tmp 16)), (some (127, false)), []⟩,
    ⟨(some 129), (.bin .neq (.tmp 128) (.const (.int .i64 3))), (some (127, false)), []⟩,
    ⟨(some 130), (.pick (.tmp 127) (.const (.bool true)) (.tmp 129)), none, []⟩,
    ⟨(some 131), (.move (.tmp 130)), none, []⟩,
    ⟨(some 132), (.move (.tmp 17)), (some (131, false)), []⟩,
    ⟨(some 133), (.bin .neq (.tmp 132) (.const (.int .i64 0))), (some (131, false)), []⟩,
    ⟨(some 134), (.pick (.tmp 131) (.const (.bool true)) (.tmp 133)), none, []⟩,
    ⟨(some 135), (.move (.tmp 134)), none, []⟩,
    ⟨(some 136), (.move (.tmp 19)), (some (135, false)), []⟩,
    ⟨(some 137), (.bin .neq (.tmp 136) (.const (.int .i64 8))), (some (135, false)), []⟩,
    ⟨(some 138), (.pick (.tmp 135) (.const (.bool true)) (.tmp 137)), none, []⟩,
    ⟨(some 139), (.move (.tmp 138)), none, []⟩,
    ⟨(some 140), (.move (.tmp 21)), (some (139, false)), []⟩,
    ⟨(some 141), (.bin .neq (.tmp 140) (.const (.int .i64 0))), (some (139, false)), []⟩,
    ⟨(some 142), (.pick (.tmp 139) (.const (.bool true)) (.tmp 141)), none, []⟩,
    ⟨(some 143), (.move (.tmp 142)), none, []⟩,
    ⟨(some 144), (.fieldAddr 17 (.tmp 20)), (some (143, false)), []⟩,
    ⟨(some 145), (.load none (.tmp 144)), (some (143, false)), []⟩,
    ⟨(some 146), (.len (.tmp 145)), (some (143, false)), []⟩,
    ⟨(some 147), (.bin .neq (.tmp 146) (.const (.int .i64 2))), (some (143, false)), []⟩,
    ⟨(some 148), (.pick (.tmp 143) (.const (.bool true)) (.tmp 147)), none, []⟩,
    ⟨(some 149), (.move (.tmp 148)), none, []⟩,
    ⟨(some 150), (.fieldAddr 18 (.tmp 20)), (some (149, false)), []⟩,
    ⟨(some 151), (.load none (.tmp 150)), (some (149, false)), []⟩,
    ⟨(some 152), (.len (.tmp 151)), (some (149, false)), []⟩,
    ⟨(some 153), (.bin .neq (.tmp 152) (.const (.int .i64 0))), (some (149, false)), []⟩,
    ⟨(some 154), (.pick (.tmp 149) (.const (.bool true)) (.tmp 153)), none, []⟩,
    ⟨(some 155), (.move (.tmp 154)), none, []⟩,
    ⟨(some 156), (.load (some 19) (.tmp 20)), (some (155, false)), []⟩,
    ⟨(some 157), (.load (some 19) (.tmp 12)), (some (155, false)), []⟩,
    ⟨(some 158), (.call (.func 32) [(.tmp 156), (.tmp 157)]), (some (155, false)), []⟩,
    ⟨(some 159), (.un .not (.tmp 158)), (some (155, false)), []⟩,
    ⟨(some 160), (.pick (.tmp 155) (.const (.bool true)) (.tmp 159)), none, []⟩,
    ⟨(some 161), (.move (.tmp 160)), none, []⟩,
    ⟨(some 162), (.load (some 19) (.tmp 12)), (some (161, false)), []⟩,
    ⟨(some 163), (.load (some 19) (.tmp 20)), (some (161, false)), []⟩,
    ⟨(some 164), (.call (.func 32) [(.tmp 162), (.tmp 163)]), (some (161, false)), []⟩,
    ⟨(some 165), (.pick (.tmp 161) (.const (.bool true)) (.tmp 164)), none, []⟩]))
  (.cond (.tmp 165)
    (.seq (.keep [0] (.ops [⟨(some 0), (.move (.const (.bool false))), none, []⟩]))
    .ret)
    .skip)))
  (.seq (.keep [12, 22] (.ops [⟨(some 166), (.load (some 19) (.tmp 12)), none, []⟩,
    ⟨(some 22), (.alloc (.agg #[(.int .u8 0), (.int .u8 0), (.int .u8 0), (.int .u8 0), (.int .u8 0), (.int .u8 0), (.int .u8 0), (.int .u8 0), (.int .u8 0), (.int .u8 0), (.int .u8 0), (.int .u8 0), (.int .u8 0), (.int .u8 0), (.int .u8 0), (.int .u8 0), (.int .i64 0), (.slice none 0 0), (.slice none 0 0)])), none, []⟩,
    ⟨none, (.store 19 (.tmp 22) (.tmp 166)), none, []⟩]))
  (.seq (.keep [12, 22] (.ops [⟨(some 167), (.buildSlice 0 [] []), none, []⟩,
    ⟨(some 168), (.fieldAddr 17 (.tmp 12)), none, []⟩,
    ⟨(some 169), (.load none (.tmp 168)), none, []⟩,
    ⟨(some 170), (.append 5 48 (.tmp 167) (.tmp 169)), none, []⟩,
    ⟨(some 171), (.fieldAddr 17 (.tmp 22)), none, []⟩,
    ⟨none, (.store 1 (.tmp 171) (.tmp 170)), none, []⟩]))
  (.seq (.keep [12, 22] (.seq (.keep [12, 22, 175] (.ops [⟨(some 172), (.fieldAddr 17 (.tmp 22)), none, []⟩,
    ⟨(some 173), (.load none (.tmp 172)), none, []⟩,
    ⟨(some 174), (.len (.tmp 173)), none, []⟩,
    ⟨(some 175), (.bin .neq (.tmp 174) (.const (.int .i64 3))), none, []⟩]))
  (.cond (.tmp 175)
    (.seq (.keep [0] (.ops [⟨(some 0), (.move (.const (.bool false))), none, []⟩]))
    .ret)
    .skip)))
  (.seq (.keep [12, 22] (.ops [⟨(some 176), (.fieldAddr 17 (.tmp 22)), none, []⟩,
    ⟨(some 177), (.load none (.tmp 176)), none, []⟩,
    ⟨(some 178), (.indexAddr 5 (.tmp 177) (.const (.int .i64 1))), none, []⟩,
    ⟨(some 179), (.fieldAddr 4 (.tmp 178)), none, []⟩,
    ⟨none, (.store 1 (.tmp 179) (.const (.string ⟨#[99]⟩))), none, []⟩]))
  (.seq (.keep [0] (.ops [⟨(some 180), (.load (some 19) (.tmp 22)), none, []⟩,
    ⟨(some 181), (.call (.func 15) [(.tmp 180)]), none, []⟩,
    ⟨(some 182), (.bin .eql (.tmp 181) (.const (.int .i64 290))), none, []⟩,
    ⟨(some 183), (.move (.tmp 182)), none, []⟩,
    ⟨(some 184), (.load (some 19) (.tmp 12)), (some (183, true)), []⟩,
    ⟨(some 185), (.call (.func 15) [(.tmp 184)]), (some (183, true)), []⟩,
    ⟨(some 186), (.bin .eql (.tmp 185) (.const (.int .i64 0))), (some (183, true)), []⟩,
    ⟨(some 187), (.pick (.tmp 183) (.tmp 186) (.const (.bool false))), none, []⟩,
    ⟨(some 0), (.move (.tmp 187)), none, []⟩]))
  .ret))))))))))))))))))))
theorem t10 : trF Tryd.prog Tryd.f10 s10 = some s10 := by kernel_rfl
theorem k10 : okS s10 = true := by kernel_rfl
theorem r10 : resT Tryd.prog Tryd.f10.results.toList = some [.t 0] := by kernel_rfl

def s11 : S :=
  (.seq (.keep [1, 2, 4] (.ops [⟨(some 2), (.box (.tmp 0)), none, []⟩,
    ⟨(some 4), (.alloc (.agg #[(.int .u8 0), (.int .u8 0), (.int .u8 0), (.int .u8 0), (.int .u8 0), (.int .u8 0), (.int .u8 0), (.int .u8 0), (.int .u8 0), (.int .u8 0), (.int .u8 0), (.int .u8 0), (.int .u8 0), (.int .u8 0), (.int .u8 0), (.int .u8 0), (.int .i64 0), (.slice none 0 0), (.slice none 0 0)])), none, []⟩,
    ⟨(some 5), (.move (.const (.int .i64 0))), none, []⟩]))
  (.seq (.keep [1, 2, 4] (.seq (.keep [1, 2, 4, 11] (.ops [⟨(some 6), (.move (.tmp 1)), none, []⟩,
    ⟨(some 7), (.bin .lss (.tmp 6) (.const (.int .i64 1))), none, []⟩,
    ⟨(some 8), (.move (.tmp 7)), none, []⟩,
    ⟨(some 9), (.move (.tmp 1)), (some (8, false)), []⟩,
    ⟨(some 10), (.bin .gtr (.tmp 9) (.const (.int .i64 4))), (some (8, false)), []⟩,
    ⟨(some 11), (.pick (.tmp 8) (.const (.bool true)) (.tmp 10)), none, []⟩]))
  (.cond (.tmp 11)
    (.seq (.keep [4, 5] (.ops [⟨(some 12), (.build [(.int .u8 0), (.int .u8 0), (.int .u8 0), (.int .u8 0), (.int .u8 0), (.int .u8 0), (.int .u8 0), (.int .u8 0), (.int .u8 0), (.int .u8 0), (.int .u8 0), (.int .u8 0), (.int .u8 0), (.int .u8 0), (.int .u8 0), (.int .u8 0), (.int .i64 0), (.slice none 0 0), (.slice none 0 0)] []), none, []⟩,
      ⟨none, (.store 19 (.tmp 4) (.tmp 12)), none, []⟩,
      ⟨(some 5), (.move (.const (.int .i64 1))), none, []⟩]))
    .ret)
    .skip)))
  (.seq (.keep [4, 5] (.ops [⟨(some 13), (.load (some 16) (.tmp 2)), none, []⟩,
    ⟨(some 14), (.move (.tmp 1)), none, []⟩,
    ⟨(some 15), (.build [(.int .u8 0), (.int .u8 0), (.int .u8 0), (.int .u8 0), (.int .u8 0), (.int .u8 0), (.int .u8 0), (.int .u8 0), (.int .u8 0), (.int .u8 0), (.int .u8 0), (.int .u8 0), (.int .u8 0), (.int .u8 0), (.int .u8 0), (.int .u8 0), (.int .i64 0), (.slice none 0 0), (.slice none 0 0)] [(0, 16, (.tmp 13)), (16, 1, (.tmp 14))]), none, []⟩,
    ⟨none, (.store 19 (.tmp 4) (.tmp 15)), none, []⟩,
    ⟨(some 5), (.move (.const (.int .i64 0))), none, []⟩]))
  .ret)))
theorem t11 : trF Tryd.prog Tryd.f11 s11 = some s11 := by kernel_rfl
theorem k11 : okS s11 = true := by kernel_rfl
theorem r11 : resT Tryd.prog Tryd.f11.results.toList = some [.c 4 (some 19), .t 5] := by kernel_rfl

def s12 : S :=
  (.seq (.keep [2, 3] (.ops [⟨(some 2), (.box (.tmp 0)), none, []⟩,
    ⟨(some 3), (.box (.tmp 1)), none, []⟩,
    ⟨(some 4), (.move (.const (.bool false))), none, []⟩]))
  (.seq (.keep [2, 3] (.seq (.keep [2, 3, 27] (.ops [⟨(some 6), (.fieldAddr 18 (.tmp 2)), none, []⟩,
    ⟨(some 7), (.load none (.tmp 6)), none, []⟩,
    ⟨(some 8), (.len (.tmp 7)), none, []⟩,
    ⟨(some 9), (.fieldAddr 18 (.tmp 3)), none, []⟩,
    ⟨(some 10), (.load none (.tmp 9)), none, []⟩,
    ⟨(some 11), (.len (.tmp 10)), none, []⟩,
    ⟨(some 12), (.bin .neq (.tmp 8) (.tmp 11)), none, []⟩,
    ⟨(some 13), (.move (.tmp 12)), none, []⟩,
    ⟨(some 14), (.fieldAddr 17 (.tmp 2)), (some (13, false)), []⟩,
    ⟨(some 15), (.load none (.tmp 14)), (some (13, false)), []⟩,
    ⟨(some 16), (.len (.tmp 15)), (some (13, false)), []⟩,
    ⟨(some 17), (.fieldAddr 17 (.tmp 3)), (some (13, false)), []⟩,
    ⟨(some 18), (.load none (.tmp 17)), (some (13, false)), []⟩,
    ⟨(some 19), (.len (.tmp 18)), (some (13, false)), []⟩,
    ⟨(some 20), (.bin .neq (.tmp 16) (.tmp 19)), (some (13, false)), []⟩,
    ⟨(some 21), (.pick (.tmp 13) (.const (.bool true)) (.tmp 20)), none, []⟩,
    ⟨(some 22), (.move (.tmp 21)), none, []⟩,
    ⟨(some 23), (.load (some 19) (.tmp 2)), (some (22, false)), []⟩,
    ⟨(some 24), (.load (some 19) (.tmp 3)), (some (22, false)), []⟩,
    ⟨(some 25), (.call (.func 38) [(.tmp 23), (.tmp 24)]), (some (22, false)), []⟩,
    ⟨(some 26), (.un .not (.tmp 25)), (some (22, false)), []⟩,
    ⟨(some 27), (.pick (.tmp 22) (.const (.bool true)) (.tmp 26)), none, []⟩]))
  (.cond (.tmp 27)
    (.seq (.keep [4] (.ops [⟨(some 4), (.move (.const (.bool false))), none, []⟩]))
    .ret)
    .skip)))
  (.seq (.keep [] (.seq (.keep [2, 3, 5] (.ops [⟨(some 5), (.move (.const (.int .i64 0))), none, []⟩]))
  (.block 0
    (.loop
      (.keep [2, 3, 5] (.seq (.keep [2, 3, 5] (.seq (.keep [2, 3, 5, 32] (.ops [⟨(some 28), (.move (.tmp 5)), none, []⟩,
        ⟨(some 29), (.fieldAddr 18 (.tmp 2)), none, []⟩,
        ⟨(some 30), (.load none (.tmp 29)), none, []⟩,
        ⟨(some 31), (.len (.tmp 30)), none, []⟩,
        ⟨(some 32), (.bin .lss (.tmp 28) (.tmp 31)), none, []⟩]))
      (.cond (.tmp 32)
        .skip
        (.exit 0))))
      (.seq (.keep [2, 3, 5] (.block 1
        (.seq (.keep [2, 3, 5, 45] (.draw [0, 1, 0, 7, 15, 0, 32, 0, 224, 480, 1023] [⟨0, 0, [], ⟨(some 35), (.fieldAddr 18 (.tmp 2)), none, []⟩⟩,
          ⟨1, 1, [], ⟨(some 36), (.load none (.tmp 35)), none, []⟩⟩,
          ⟨2, 0, [], ⟨(some 37), (.move (.tmp 5)), none, []⟩⟩,
          ⟨3, 7, [], ⟨(some 38), (.indexAddr 33 (.tmp 36) (.tmp 37)), none, []⟩⟩,
          ⟨4, 15, [], ⟨(some 39), (.load (some 33) (.tmp 38)), none, []⟩⟩,
          ⟨5, 0, [], ⟨(some 40), (.fieldAddr 18 (.tmp 3)), none, []⟩⟩,
          ⟨6, 32, [], ⟨(some 41), (.load none (.tmp 40)), none, []⟩⟩,
          ⟨7, 0, [], ⟨(some 42), (.move (.tmp 5)), none, []⟩⟩,
          ⟨8, 224, [], ⟨(some 43), (.indexAddr 33 (.tmp 41) (.tmp 42)), none, []⟩⟩,
          ⟨9, 480, [], ⟨(some 44), (.load (some 33) (.tmp 43)), none, []⟩⟩,
          ⟨10, 1023, [], ⟨(some 45), (.eqAgg true [(.int .i64), (.int .u8), (.int .u8), (.int .u8), (.int .u8), (.int .u8), (.int .u8), (.int .u8), (.int .u8), (.int .u8), (.int .u8), (.int .u8), (.int .u8), (.int .u8), (.int .u8), (.int .u8), (.int .u8), (.int .u8), (.int .u8), (.int .u8), (.int .u8), (.int .u8), (.int .u8), (.int .u8), (.int .u8), (.int .u8), (.int .u8), (.int .u8), (.int .u8), (.int .u8), (.int .u8), (.int .u8), (.int .u8)] (.tmp 39) (.tmp 44)), none, []⟩⟩]))
        (.cond (.tmp 45)
          (.seq (.keep [4] (.ops [⟨(some 4), (.move (.const (.bool false))), none, []⟩]))
          .ret)
          .skip))))
      (.ops [⟨(some 33), (.move (.tmp 5)), none, []⟩,
        ⟨(some 34), (.bin .add (.tmp 33) (.const (.int .i64 1))), none, []⟩,
        ⟨(some 5), (.move (.tmp 34)), none, []⟩]))))))))
  (.seq (.keep [4] (.ops [⟨(some 4), (.move (.const (.bool true))), none, []⟩]))
  .ret))))
theorem t12 : trF Tryd.prog Tryd.f12 s12 = some s12 := by kernel_rfl
theorem k12 : okS s12 = true := by kernel_rfl
theorem r12 : resT Tryd.prog Tryd.f12.results.toList = some [.t 4] := by kernel_rfl

def s13 : S :=
  (.seq (.keep [1, 2] (.ops [⟨(some 2), (.box (.tmp 0)), none, []⟩,
    ⟨(some 4), (.move (.const (.bool false))), none, []⟩]))
  (.seq (.keep [2] (.seq (.keep [2, 22] (.ops [⟨(some 8), (.fieldAddr 1 (.tmp 2)), none, []⟩,
    ⟨(some 9), (.load none (.tmp 8)), none, []⟩,
    ⟨(some 10), (.bin .lss (.tmp 9) (.const (.int .i64 0))), none, []⟩,
    ⟨(some 11), (.move (.tmp 10)), none, []⟩,
    ⟨(some 12), (.fieldAddr 1 (.tmp 2)), (some (11, false)), []⟩,
    ⟨(some 13), (.load none (.tmp 12)), (some (11, false)), []⟩,
    ⟨(some 14), (.move (.tmp 1)), (some (11, false)), []⟩,
    ⟨(some 15), (.bin .geq (.tmp 13) (.tmp 14)), (some (11, false)), []⟩,
    ⟨(some 16), (.pick (.tmp 11) (.const (.bool true)) (.tmp 15)), none, []⟩,
    ⟨(some 17), (.move (.tmp 16)), none, []⟩,
    ⟨(some 18), (.fieldAddr 2 (.tmp 2)), (some (17, false)), []⟩,
    ⟨(some 19), (.load none (.tmp 18)), (some (17, false)), []⟩,
    ⟨(some 20), (.call (.func 39) [(.tmp 19), (.const (.int .i64 0)), (.const (.int .i64 1099511627776))]), (some (17, false)), []⟩,
    ⟨(some 21), (.un .not (.tmp 20)), (some (17, false)), []⟩,
    ⟨(some 22), (.pick (.tmp 17) (.const (.bool true)) (.tmp 21)), none, []⟩]))
  (.cond (.tmp 22)
    (.seq (.keep [4] (.ops [⟨(some 4), (.move (.const (.bool false))), none, []⟩]))
    .ret)
    .skip)))
  (.seq (.keep [2, 5] (.ops [⟨(some 23), .makeMap, none, []⟩,
    ⟨(some 24), (.makeFunc (.func 40) [] [(.tmp 2)]), none, []⟩,
    ⟨none, (.mapPut (.int .i64) (.tmp 23) (.const (.int .i64 1)) (.tmp 24)), none, []⟩,
    ⟨(some 25), (.makeFunc (.func 41) [] [(.tmp 2)]), none, []⟩,
    ⟨none, (.mapPut (.int .i64) (.tmp 23) (.const (.int .i64 2)) (.tmp 25)), none, []⟩,
    ⟨(some 26), (.makeFunc (.func 42) [] [(.tmp 2)]), none, []⟩,
    ⟨none, (.mapPut (.int .i64) (.tmp 23) (.const (.int .i64 3)) (.tmp 26)), none, []⟩,
    ⟨(some 27), (.makeFunc (.func 43) [] [(.tmp 2)]), none, []⟩,
    ⟨none, (.mapPut (.int .i64) (.tmp 23) (.const (.int .i64 4)) (.tmp 27)), none, []⟩,
    ⟨(some 28), (.makeFunc (.func 44) [] [(.tmp 2)]), none, []⟩,
    ⟨none, (.mapPut (.int .i64) (.tmp 23) (.const (.int .i64 5)) (.tmp 28)), none, []⟩,
    ⟨(some 29), (.move (.tmp 23)), none, []⟩,
    ⟨(some 5), (.move (.tmp 29)), none, []⟩]))
  (.seq (.keep [6, 7] (.ops [⟨(some 31), (.move (.tmp 5)), none, []⟩,
    ⟨(some 32), (.fieldAddr 0 (.tmp 2)), none, []⟩,
    ⟨(some 33), (.load none (.tmp 32)), none, []⟩,
    ⟨(some 34), (.lookup (.int .i64) .nilFunc true (.tmp 31) (.tmp 33)), none, []⟩,
    ⟨(some 30), (.move (.tmp 34)), none, []⟩,
    ⟨(some 35), (.extract (.tmp 30) 0), none, []⟩,
    ⟨(some 36), (.extract (.tmp 30) 1), none, []⟩,
    ⟨(some 6), (.move (.tmp 35)), none, []⟩,
    ⟨(some 7), (.move (.tmp 36)), none, []⟩]))
  (.seq (.keep [4] (.ops [⟨(some 37), (.move (.tmp 7)), none, []⟩,
    ⟨(some 38), (.move (.tmp 37)), none, []⟩,
    ⟨(some 39), (.move (.tmp 6)), (some (38, true)), []⟩,
    ⟨(some 40), (.call (.tmp 39) []), (some (38, true)), []⟩,
    ⟨(some 41), (.pick (.tmp 38) (.tmp 40) (.const (.bool false))), none, []⟩,
    ⟨(some 4), (.move (.tmp 41)), none, []⟩]))
  .ret)))))
theorem t13 : trF Tryd.prog Tryd.f13 s13 = some s13 := by kernel_rfl
theorem k13 : okS s13 = true := by kernel_rfl
theorem r13 : resT Tryd.prog Tryd.f13.results.toList = some [.t 4] := by kernel_rfl

def s14 : S :=
  (.seq (.keep [1, 2] (.ops [⟨(some 2), (.box (.tmp 0)), none, []⟩,
    ⟨(some 4), (.move (.const (.bool false))), none, []⟩]))
  (.seq (.keep [2] (.seq (.keep [2, 23] (.ops [⟨(some 5), (.fieldAddr 1 (.tmp 2)), none, []⟩,
    ⟨(some 6), (.load none (.tmp 5)), none, []⟩,
    ⟨(some 7), (.bin .lss (.tmp 6) (.const (.int .i64 0))), none, []⟩,
    ⟨(some 8), (.move (.tmp 7)), none, []⟩,
    ⟨(some 9), (.fieldAddr 1 (.tmp 2)), (some (8, false)), []⟩,
    ⟨(some 10), (.load none (.tmp 9)), (some (8, false)), []⟩,
    ⟨(some 11), (.move (.tmp 1)), (some (8, false)), []⟩,
    ⟨(some 12), (.bin .geq (.tmp 10) (.tmp 11)), (some (8, false)), []⟩,
    ⟨(some 13), (.pick (.tmp 8) (.const (.bool true)) (.tmp 12)), none, []⟩,
    ⟨(some 14), (.move (.tmp 13)), none, []⟩,
    ⟨(some 15), (.fieldAddr 2 (.tmp 2)), (some (14, false)), []⟩,
    ⟨(some 16), (.load none (.tmp 15)), (some (14, false)), []⟩,
    ⟨(some 17), (.bin .lss (.tmp 16) (.const (.int .i64 0))), (some (14, false)), []⟩,
    ⟨(some 18), (.pick (.tmp 14) (.const (.bool true)) (.tmp 17)), none, []⟩,
    ⟨(some 19), (.move (.tmp 18)), none, []⟩,
    ⟨(some 20), (.fieldAddr 2 (.tmp 2)), (some (19, false)), []⟩,
    ⟨(some 21), (.load none (.tmp 20)), (some (19, false)), []⟩,
    ⟨(some 22), (.bin .gtr (.tmp 21) (.const (.int .i64 1099511627776))), (some (19, false)), []⟩,
    ⟨(some 23), (.pick (.tmp 19) (.const (.bool true)) (.tmp 22)), none, []⟩]))
  (.cond (.tmp 23)
    (.seq (.keep [4] (.ops [⟨(some 4), (.move (.const (.bool false))), none, []⟩]))
    .ret)
    .skip)))
  (.seq (.keep [] (.seq (.keep [2, 25] (.ops [⟨(some 24), (.fieldAddr 0 (.tmp 2)), none, []⟩,
    ⟨(some 25), (.load none (.tmp 24)), none, []⟩]))
  (.block 0
    (.seq (.keep [2, 25, 26] (.ops [⟨(some 27), (.bin .eql (.tmp 25) (.const (.int .i64 1))), none, []⟩,
      ⟨(some 26), (.move (.tmp 27)), none, []⟩]))
    (.cond (.tmp 26)
      (.seq (.keep [4] (.ops [⟨(some 28), (.fieldAddr 3 (.tmp 2)), none, []⟩,
        ⟨(some 29), (.load none (.tmp 28)), none, []⟩,
        ⟨(some 30), (.bin .geq (.tmp 29) (.const (.int .i64 1))), none, []⟩,
        ⟨(some 31), (.move (.tmp 30)), none, []⟩,
        ⟨(some 32), (.fieldAddr 3 (.tmp 2)), (some (31, true)), []⟩,
        ⟨(some 33), (.load none (.tmp 32)), (some (31, true)), []⟩,
        ⟨(some 34), (.fieldAddr 2 (.tmp 2)), (some (31, true)), []⟩,
        ⟨(some 35), (.load none (.tmp 34)), (some (31, true)), []⟩,
        ⟨(some 36), (.bin .sub (.const (.int .i64 1099511627776)) (.tmp 35)), (some (31, true)), []⟩,
        ⟨(some 37), (.bin .leq (.tmp 33) (.tmp 36)), (some (31, true)), []⟩,
        ⟨(some 38), (.pick (.tmp 31) (.tmp 37) (.const (.bool false))), none, []⟩,
        ⟨(some 39), (.move (.tmp 38)), none, []⟩,
        ⟨(some 40), (.fieldAddr 4 (.tmp 2)), (some (39, true)), []⟩,
        ⟨(some 41), (.load none (.tmp 40)), (some (39, true)), []⟩,
        ⟨(some 42), (.lenStr (.tmp 41)), (some (39, true)), []⟩,
        ⟨(some 43), (.bin .eql (.tmp 42) (.const (.int .i64 0))), (some (39, true)), []⟩,
        ⟨(some 44), (.pick (.tmp 39) (.tmp 43) (.const (.bool false))), none, []⟩,
        ⟨(some 4), (.move (.tmp 44)), none, []⟩]))
      .ret)
      (.seq (.keep [2, 25, 45] (.ops [⟨(some 46), (.bin .eql (.tmp 25) (.const (.int .i64 2))), none, []⟩,
        ⟨(some 45), (.move (.tmp 46)), none, []⟩]))
      (.cond (.tmp 45)
        (.seq (.keep [4] (.ops [⟨(some 47), (.fieldAddr 3 (.tmp 2)), none, []⟩,
          ⟨(some 48), (.load none (.tmp 47)), none, []⟩,
          ⟨(some 49), (.bin .geq (.tmp 48) (.const (.int .i64 0))), none, []⟩,
          ⟨(some 50), (.move (.tmp 49)), none, []⟩,
          ⟨(some 51), (.fieldAddr 3 (.tmp 2)), (some (50, true)), []⟩,
          ⟨(some 52), (.load none (.tmp 51)), (some (50, true)), []⟩,
          ⟨(some 53), (.bin .leq (.tmp 52) (.const (.int .i64 2147483647))), (some (50, true)), []⟩,
          ⟨(some 54), (.pick (.tmp 50) (.tmp 53) (.const (.bool false))), none, []⟩,
          ⟨(some 55), (.move (.tmp 54)), none, []⟩,
          ⟨(some 56), (.fieldAddr 4 (.tmp 2)), (some (55, true)), []⟩,
          ⟨(some 57), (.load none (.tmp 56)), (some (55, true)), []⟩,
          ⟨(some 58), (.lenStr (.tmp 57)), (some (55, true)), []⟩,
          ⟨(some 59), (.bin .eql (.tmp 58) (.const (.int .i64 0))), (some (55, true)), []⟩,
          ⟨(some 60), (.pick (.tmp 55) (.tmp 59) (.const (.bool false))), none, []⟩,
          ⟨(some 4), (.move (.tmp 60)), none, []⟩]))
        .ret)
        (.seq (.keep [2, 25, 61] (.ops [⟨(some 62), (.bin .eql (.tmp 25) (.const (.int .i64 3))), none, []⟩,
          ⟨(some 61), (.move (.tmp 62)), none, []⟩]))
        (.cond (.tmp 61)
          (.seq (.keep [4] (.ops [⟨(some 63), (.fieldAddr 3 (.tmp 2)), none, []⟩,
            ⟨(some 64), (.load none (.tmp 63)), none, []⟩,
            ⟨(some 65), (.bin .eql (.tmp 64) (.const (.int .i64 0))), none, []⟩,
            ⟨(some 66), (.move (.tmp 65)), none, []⟩,
            ⟨(some 67), (.fieldAddr 4 (.tmp 2)), (some (66, true)), []⟩,
            ⟨(some 68), (.load none (.tmp 67)), (some (66, true)), []⟩,
            ⟨(some 69), (.lenStr (.tmp 68)), (some (66, true)), []⟩,
            ⟨(some 70), (.bin .eql (.tmp 69) (.const (.int .i64 1))), (some (66, true)), []⟩,
            ⟨(some 71), (.pick (.tmp 66) (.tmp 70) (.const (.bool false))), none, []⟩,
            ⟨(some 4), (.move (.tmp 71)), none, []⟩]))
          .ret)
          (.seq (.keep [2, 25, 72] (.ops [⟨(some 73), (.bin .eql (.tmp 25) (.const (.int .i64 4))), none, []⟩,
            ⟨(some 72), (.move (.tmp 73)), none, []⟩]))
          (.cond (.tmp 72)
            (.seq (.keep [4] (.ops [⟨(some 74), (.fieldAddr 3 (.tmp 2)), none, []⟩,
              ⟨(some 75), (.load none (.tmp 74)), none, []⟩,
              ⟨(some 76), (.bin .eql (.tmp 75) (.const (.int .i64 0))), none, []⟩,
              ⟨(some 77), (.move (.tmp 76)), none, []⟩,
              ⟨(some 78), (.fieldAddr 4 (.tmp 2)), (some (77, true)), []⟩,
              ⟨(some 79), (.load none (.tmp 78)), (some (77, true)), []⟩,
              ⟨(some 80), (.lenStr (.tmp 79)), (some (77, true)), []⟩,
              ⟨(some 81), (.bin .geq (.tmp 80) (.const (.int .i64 1))), (some (77, true)), []⟩,
              ⟨(some 82), (.pick (.tmp 77) (.tmp 81) (.const (.bool false))), none, []⟩,
              ⟨(some 83), (.move (.tmp 82)), none, []⟩,
              ⟨(some 84), (.fieldAddr 4 (.tmp 2)), (some (83, true)), []⟩,
              ⟨(some 85), (.load none (.tmp 84)), (some (83, true)), []⟩,
              ⟨(some 86), (.lenStr (.tmp 85)), (some (83, true)), []⟩,
              ⟨(some 87), (.bin .leq (.tmp 86) (.const (.int .i64 512))), (some (83, true)), []⟩,
              ⟨(some 88), (.pick (.tmp 83) (.tmp 87) (.const (.bool false))), none, []⟩,
              ⟨(some 4), (.move (.tmp 88)), none, []⟩]))
            .ret)
            (.seq (.keep [2, 89] (.ops [⟨(some 90), (.bin .eql (.tmp 25) (.const (.int .i64 5))), none, []⟩,
              ⟨(some 89), (.move (.tmp 90)), none, []⟩]))
            (.cond (.tmp 89)
              (.seq (.keep [4] (.ops [⟨(some 91), (.fieldAddr 3 (.tmp 2)), none, []⟩,
                ⟨(some 92), (.load none (.tmp 91)), none, []⟩,
                ⟨(some 93), (.bin .geq (.tmp 92) (.const (.int .i64 0))), none, []⟩,
                ⟨(some 94), (.move (.tmp 93)), none, []⟩,
                ⟨(some 95), (.fieldAddr 3 (.tmp 2)), (some (94, true)), []⟩,
                ⟨(some 96), (.load none (.tmp 95)), (some (94, true)), []⟩,
                ⟨(some 97), (.bin .leq (.tmp 96) (.const (.int .i64 7))), (some (94, true)), []⟩,
                ⟨(some 98), (.pick (.tmp 94) (.tmp 97) (.const (.bool false))), none, []⟩,
                ⟨(some 99), (.move (.tmp 98)), none, []⟩,
                ⟨(some 100), (.fieldAddr 4 (.tmp 2)), (some (99, true)), []⟩,
                ⟨(some 101), (.load none (.tmp 100)), (some (99, true)), []⟩,
                ⟨(some 102), (.lenStr (.tmp 101)), (some (99, true)), []⟩,
                ⟨(some 103), (.bin .eql (.tmp 102) (.const (.int .i64 0))), (some (99, true)), []⟩,
                ⟨(some 104), (.pick (.tmp 99) (.tmp 103) (.const (.bool false))), none, []⟩,
                ⟨(some 4), (.move (.tmp 104)), none, []⟩]))
              .ret)
              .skip)))))))))))))
  (.seq (.keep [4] (.ops [⟨(some 4), (.move (.const (.bool false))), none, []⟩]))
  .ret))))
theorem t14 : trF Tryd.prog Tryd.f14 s14 = some s14 := by kernel_rfl
theorem k14 : okS s14 = true := by kernel_rfl
theorem r14 : resT Tryd.prog Tryd.f14.results.toList = some [.t 4] := by kernel_rfl

def s15 : S :=
  (.seq (.keep [1, 2] (.ops [⟨(some 1), (.box (.tmp 0)), none, []⟩,
    ⟨(some 2), (.alloc (.int .i64 0)), none, []⟩]))
  (.seq (.keep [1, 2] (.block 0
    (.seq (.keep [1, 2, 12] (.ops [⟨(some 13), (.fieldAddr 16 (.tmp 1)), none, []⟩,
      ⟨(some 14), (.load none (.tmp 13)), none, []⟩,
      ⟨(some 15), (.bin .lss (.tmp 14) (.const (.int .i64 1))), none, []⟩,
      ⟨(some 16), (.move (.tmp 15)), none, []⟩,
      ⟨(some 17), (.fieldAddr 16 (.tmp 1)), (some (16, false)), []⟩,
      ⟨(some 18), (.load none (.tmp 17)), (some (16, false)), []⟩,
      ⟨(some 19), (.bin .gtr (.tmp 18) (.const (.int .i64 4))), (some (16, false)), []⟩,
      ⟨(some 20), (.pick (.tmp 16) (.const (.bool true)) (.tmp 19)), none, []⟩,
      ⟨(some 12), (.move (.tmp 20)), none, []⟩]))
    (.cond (.tmp 12)
      (.seq (.keep [2] (.ops [⟨none, (.store 1 (.tmp 2) (.const (.int .i64 1))), none, []⟩]))
      .ret)
      (.seq (.keep [1, 2, 21] (.ops [⟨(some 22), (.fieldAddr 17 (.tmp 1)), none, []⟩,
        ⟨(some 23), (.load none (.tmp 22)), none, []⟩,
        ⟨(some 24), (.len (.tmp 23)), none, []⟩,
        ⟨(some 25), (.bin .gtr (.tmp 24) (.const (.int .i64 4096))), none, []⟩,
        ⟨(some 26), (.move (.tmp 25)), none, []⟩,
        ⟨(some 27), (.fieldAddr 18 (.tmp 1)), (some (26, false)), []⟩,
        ⟨(some 28), (.load none (.tmp 27)), (some (26, false)), []⟩,
        ⟨(some 29), (.len (.tmp 28)), (some (26, false)), []⟩,
        ⟨(some 30), (.bin .gtr (.tmp 29) (.const (.int .i64 256))), (some (26, false)), []⟩,
        ⟨(some 31), (.pick (.tmp 26) (.const (.bool true)) (.tmp 30)), none, []⟩,
        ⟨(some 21), (.move (.tmp 31)), none, []⟩]))
      (.cond (.tmp 21)
        (.seq (.keep [2] (.ops [⟨none, (.store 1 (.tmp 2) (.const (.int .i64 2))), none, []⟩]))
        .ret)
        .skip))))))
  (.seq (.keep [1, 2, 3] (.ops [⟨(some 3), (.alloc (.agg (List.replicate 4 (.int .i64 0)).toArray)), none, []⟩]))
  (.seq (.keep [1, 2] (.seq (.keep [1, 2, 3, 33, 34, 35] (.ops [⟨(some 32), (.fieldAddr 17 (.tmp 1)), none, []⟩,
    ⟨(some 33), (.load none (.tmp 32)), none, []⟩,
    ⟨(some 34), (.len (.tmp 33)), none, []⟩,
    ⟨(some 35), (.move (.const (.int .i64 0))), none, []⟩]))
  (.block 1
    (.loop
      (.keep [1, 2, 3, 33, 34, 35] (.seq (.keep [1, 2, 3, 33, 34, 35, 36] (.ops [⟨(some 36), (.bin .lss (.tmp 35) (.tmp 34)), none, []⟩]))
      (.seq (.keep [1, 2, 3, 33, 34, 35] (.cond (.tmp 36)
        .skip
        (.exit 1)))
      (.seq (.keep [1, 2, 3, 33, 34, 35] (.block 2
        (.seq (.keep [1, 2, 3, 5, 33, 34, 35] (.ops [⟨(some 37), (.indexAddr 5 (.tmp 33) (.tmp 35)), none, []⟩,
          ⟨(some 38), (.load (some 5) (.tmp 37)), none, []⟩,
          ⟨(some 5), (.alloc (.agg #[(.int .i64 0), (.int .i64 0), (.int .i64 0), (.int .i64 0), (.string ⟨#[]⟩)])), none, []⟩,
          ⟨none, (.store 5 (.tmp 5) (.tmp 38)), none, []⟩]))
        (.seq (.keep [1, 2, 3, 33, 34, 35, 48] (.ops [⟨(some 39), (.load (some 5) (.tmp 5)), none, []⟩,
          ⟨(some 40), (.fieldAddr 16 (.tmp 1)), none, []⟩,
          ⟨(some 41), (.load none (.tmp 40)), none, []⟩,
          ⟨(some 42), (.call (.func 13) [(.tmp 39), (.tmp 41)]), none, []⟩,
          ⟨(some 43), (.un .not (.tmp 42)), none, []⟩,
          ⟨(some 44), (.move (.tmp 43)), none, []⟩,
          ⟨(some 45), (.load (some 5) (.tmp 5)), (some (44, false)), []⟩,
          ⟨(some 46), (.call (.func 45) [(.tmp 3), (.tmp 45)]), (some (44, false)), []⟩,
          ⟨(some 47), (.un .not (.tmp 46)), (some (44, false)), []⟩,
          ⟨(some 48), (.pick (.tmp 44) (.const (.bool true)) (.tmp 47)), none, []⟩]))
        (.cond (.tmp 48)
          (.seq (.keep [2] (.ops [⟨none, (.store 1 (.tmp 2) (.const (.int .i64 3))), none, []⟩]))
          .ret)
          .skip)))))
      (.ops [⟨(some 49), (.bin .add (.tmp 35) (.const (.int .i64 1))), none, []⟩,
        ⟨(some 35), (.move (.tmp 49)), none, []⟩])))))))))
  (.seq (.keep [1, 2, 6] (.ops [⟨(some 6), (.move (.const (.int .i64 0))), none, []⟩]))
  (.seq (.keep [1, 2] (.seq (.keep [1, 2, 6, 51, 52, 53] (.ops [⟨(some 50), (.fieldAddr 18 (.tmp 1)), none, []⟩,
    ⟨(some 51), (.load none (.tmp 50)), none, []⟩,
    ⟨(some 52), (.len (.tmp 51)), none, []⟩,
    ⟨(some 53), (.move (.const (.int .i64 0))), none, []⟩]))
  (.block 3
    (.loop
      (.keep [1, 2, 6, 51, 52, 53] (.seq (.keep [1, 2, 6, 51, 52, 53, 54] (.ops [⟨(some 54), (.bin .lss (.tmp 53) (.tmp 52)), none, []⟩]))
      (.seq (.keep [1, 2, 6, 51, 52, 53] (.cond (.tmp 54)
        .skip
        (.exit 3)))
      (.seq (.keep [1, 2, 6, 51, 52, 53] (.block 4
        (.seq (.keep [1, 2, 6, 8, 51, 52, 53] (.ops [⟨(some 55), (.indexAddr 33 (.tmp 51) (.tmp 53)), none, []⟩,
          ⟨(some 56), (.load (some 33) (.tmp 55)), none, []⟩,
          ⟨(some 8), (.alloc (.agg #[(.int .i64 0), (.int .u8 0), (.int .u8 0), (.int .u8 0), (.int .u8 0), (.int .u8 0), (.int .u8 0), (.int .u8 0), (.int .u8 0), (.int .u8 0), (.int .u8 0), (.int .u8 0), (.int .u8 0), (.int .u8 0), (.int .u8 0), (.int .u8 0), (.int .u8 0), (.int .u8 0), (.int .u8 0), (.int .u8 0), (.int .u8 0), (.int .u8 0), (.int .u8 0), (.int .u8 0), (.int .u8 0), (.int .u8 0), (.int .u8 0), (.int .u8 0), (.int .u8 0), (.int .u8 0), (.int .u8 0), (.int .u8 0), (.int .u8 0)])), none, []⟩,
          ⟨none, (.store 33 (.tmp 8) (.tmp 56)), none, []⟩]))
        (.seq (.keep [1, 2, 8, 51, 52, 53] (.seq (.keep [1, 2, 8, 51, 52, 53, 68] (.ops [⟨(some 57), (.fieldAddr 0 (.tmp 8)), none, []⟩,
          ⟨(some 58), (.load none (.tmp 57)), none, []⟩,
          ⟨(some 59), (.move (.tmp 6)), none, []⟩,
          ⟨(some 60), (.bin .leq (.tmp 58) (.tmp 59)), none, []⟩,
          ⟨(some 61), (.move (.tmp 60)), none, []⟩,
          ⟨(some 62), (.fieldAddr 0 (.tmp 8)), (some (61, false)), []⟩,
          ⟨(some 63), (.load none (.tmp 62)), (some (61, false)), []⟩,
          ⟨(some 64), (.fieldAddr 17 (.tmp 1)), (some (61, false)), []⟩,
          ⟨(some 65), (.load none (.tmp 64)), (some (61, false)), []⟩,
          ⟨(some 66), (.len (.tmp 65)), (some (61, false)), []⟩,
          ⟨(some 67), (.bin .gtr (.tmp 63) (.tmp 66)), (some (61, false)), []⟩,
          ⟨(some 68), (.pick (.tmp 61) (.const (.bool true)) (.tmp 67)), none, []⟩]))
        (.cond (.tmp 68)
          (.seq (.keep [2] (.ops [⟨none, (.store 1 (.tmp 2) (.const (.int .i64 3))), none, []⟩]))
          .ret)
          .skip)))
        (.ops [⟨(some 69), (.fieldAddr 0 (.tmp 8)), none, []⟩,
          ⟨(some 70), (.load none (.tmp 69)), none, []⟩,
          ⟨(some 6), (.move (.tmp 70)), none, []⟩])))))
      (.ops [⟨(some 71), (.bin .add (.tmp 53) (.const (.int .i64 1))), none, []⟩,
        ⟨(some 53), (.move (.tmp 71)), none, []⟩])))))))))
  (.seq (.keep [1, 2, 9] (.ops [⟨(some 72), (.fieldAddr 18 (.tmp 1)), none, []⟩,
    ⟨(some 73), (.load none (.tmp 72)), none, []⟩,
    ⟨(some 9), (.alloc (.slice none 0 0)), none, []⟩,
    ⟨none, (.store 1 (.tmp 9) (.tmp 73)), none, []⟩]))
  (.seq (.keep [2] (.seq (.keep [2, 9, 75] (.ops [⟨(some 74), (.load (some 19) (.tmp 1)), none, []⟩,
    ⟨(some 75), (.call (.func 46) [(.tmp 74)]), none, []⟩]))
  (.block 5
    (.range (.tmp 75) #[76, 77]
      (.keep [2, 9, 10, 11] (.seq (.keep [2, 9, 10, 77] (.ops [⟨(some 10), (.move (.tmp 76)), none, []⟩]))
      (.ops [⟨(some 11), (.alloc (.agg (List.replicate 16 (.int .u8 0)).toArray)), none, []⟩,
        ⟨none, (.store 16 (.tmp 11) (.tmp 77)), none, []⟩])))
      (.block 6
        (.seq (.keep [2, 9, 11, 88] (.ops [⟨(some 78), (.load none (.tmp 9)), none, []⟩,
          ⟨(some 79), (.len (.tmp 78)), none, []⟩,
          ⟨(some 80), (.bin .gtr (.tmp 79) (.const (.int .i64 0))), none, []⟩,
          ⟨(some 81), (.move (.tmp 80)), none, []⟩,
          ⟨(some 82), (.load none (.tmp 9)), (some (81, true)), []⟩,
          ⟨(some 83), (.indexAddr 33 (.tmp 82) (.const (.int .i64 0))), (some (81, true)), []⟩,
          ⟨(some 84), (.fieldAddr 0 (.tmp 83)), (some (81, true)), []⟩,
          ⟨(some 85), (.load none (.tmp 84)), (some (81, true)), []⟩,
          ⟨(some 86), (.move (.tmp 10)), (some (81, true)), []⟩,
          ⟨(some 87), (.bin .eql (.tmp 85) (.tmp 86)), (some (81, true)), []⟩,
          ⟨(some 88), (.pick (.tmp 81) (.tmp 87) (.const (.bool false))), none, []⟩]))
        (.cond (.tmp 88)
          (.seq (.keep [9] (.seq (.keep [2, 9, 94] (.draw [0, 1, 3, 7, 0, 31] [⟨0, 0, [], ⟨(some 89), (.load none (.tmp 9)), none, []⟩⟩,
            ⟨1, 1, [], ⟨(some 90), (.indexAddr 33 (.tmp 89) (.const (.int .i64 0))), none, []⟩⟩,
            ⟨2, 3, [], ⟨(some 91), (.fieldAddr 1 (.tmp 90)), none, []⟩⟩,
            ⟨3, 7, [], ⟨(some 92), (.load (some 16) (.tmp 91)), none, []⟩⟩,
            ⟨4, 0, [], ⟨(some 93), (.load (some 16) (.tmp 11)), none, []⟩⟩,
            ⟨5, 31, [], ⟨(some 94), (.eqAgg true (List.replicate 16 (.int .u8)) (.tmp 92) (.tmp 93)), none, []⟩⟩]))
          (.cond (.tmp 94)
            (.seq (.keep [] (.ops [⟨none, (.store 1 (.tmp 2) (.const (.int .i64 290))), none, []⟩]))
            .ret)
            .skip)))
          (.ops [⟨(some 95), (.load none (.tmp 9)), none, []⟩,
            ⟨(some 96), (.slice 33 (.tmp 95) (some (.const (.int .i64 1))) none none), none, []⟩,
            ⟨none, (.store 1 (.tmp 9) (.tmp 96)), none, []⟩]))
          .skip)))))))
  (.seq (.keep [2] (.ops [⟨none, (.store 1 (.tmp 2) (.const (.int .i64 0))), none, []⟩]))
  .ret)))))))))
theorem t15 : trF Tryd.prog Tryd.f15 s15 = some s15 := by kernel_rfl
theorem k15 : okS s15 = true := by kernel_rfl
theorem r15 : resT Tryd.prog Tryd.f15.results.toList = some [.c 2 none] := by kernel_rfl

def s16 : S :=
  (.seq (.keep [1] (.ops [⟨(some 1), (.box (.tmp 0)), none, []⟩,
    ⟨(some 2), (.move (.const (.int .i64 0))), none, []⟩]))
  (.seq (.keep [1] (.seq (.keep [1, 15] (.ops [⟨(some 8), (.fieldAddr 16 (.tmp 1)), none, []⟩,
    ⟨(some 9), (.load none (.tmp 8)), none, []⟩,
    ⟨(some 10), (.bin .lss (.tmp 9) (.const (.int .i64 1))), none, []⟩,
    ⟨(some 11), (.move (.tmp 10)), none, []⟩,
    ⟨(some 12), (.fieldAddr 16 (.tmp 1)), (some (11, false)), []⟩,
    ⟨(some 13), (.load none (.tmp 12)), (some (11, false)), []⟩,
    ⟨(some 14), (.bin .gtr (.tmp 13) (.const (.int .i64 4))), (some (11, false)), []⟩,
    ⟨(some 15), (.pick (.tmp 11) (.const (.bool true)) (.tmp 14)), none, []⟩]))
  (.cond (.tmp 15)
    (.seq (.keep [2] (.ops [⟨(some 2), (.move (.const (.int .i64 1))), none, []⟩]))
    .ret)
    .skip)))
  (.seq (.keep [1] (.seq (.keep [1, 25] (.ops [⟨(some 16), (.fieldAddr 17 (.tmp 1)), none, []⟩,
    ⟨(some 17), (.load none (.tmp 16)), none, []⟩,
    ⟨(some 18), (.len (.tmp 17)), none, []⟩,
    ⟨(some 19), (.bin .gtr (.tmp 18) (.const (.int .i64 4096))), none, []⟩,
    ⟨(some 20), (.move (.tmp 19)), none, []⟩,
    ⟨(some 21), (.fieldAddr 18 (.tmp 1)), (some (20, false)), []⟩,
    ⟨(some 22), (.load none (.tmp 21)), (some (20, false)), []⟩,
    ⟨(some 23), (.len (.tmp 22)), (some (20, false)), []⟩,
    ⟨(some 24), (.bin .gtr (.tmp 23) (.const (.int .i64 256))), (some (20, false)), []⟩,
    ⟨(some 25), (.pick (.tmp 20) (.const (.bool true)) (.tmp 24)), none, []⟩]))
  (.cond (.tmp 25)
    (.seq (.keep [2] (.ops [⟨(some 2), (.move (.const (.int .i64 2))), none, []⟩]))
    .ret)
    .skip)))
  (.seq (.keep [1] (.seq (.keep [1, 3] (.ops [⟨(some 3), (.move (.const (.int .i64 0))), none, []⟩]))
  (.block 0
    (.loop
      (.keep [1, 3] (.seq (.keep [1, 3] (.seq (.keep [1, 3, 30] (.ops [⟨(some 26), (.move (.tmp 3)), none, []⟩,
        ⟨(some 27), (.fieldAddr 17 (.tmp 1)), none, []⟩,
        ⟨(some 28), (.load none (.tmp 27)), none, []⟩,
        ⟨(some 29), (.len (.tmp 28)), none, []⟩,
        ⟨(some 30), (.bin .lss (.tmp 26) (.tmp 29)), none, []⟩]))
      (.cond (.tmp 30)
        .skip
        (.exit 0))))
      (.seq (.keep [1, 3] (.block 1
        (.seq (.keep [1, 3, 4] (.draw [0, 1, 0, 7, 15, 0, 32, 127, 255] [⟨0, 0, [], ⟨(some 33), (.fieldAddr 17 (.tmp 1)), none, []⟩⟩,
          ⟨1, 1, [], ⟨(some 34), (.load none (.tmp 33)), none, []⟩⟩,
          ⟨2, 0, [], ⟨(some 35), (.move (.tmp 3)), none, []⟩⟩,
          ⟨3, 7, [], ⟨(some 36), (.indexAddr 5 (.tmp 34) (.tmp 35)), none, []⟩⟩,
          ⟨4, 15, [], ⟨(some 37), (.load (some 5) (.tmp 36)), none, []⟩⟩,
          ⟨5, 0, [], ⟨(some 38), (.fieldAddr 16 (.tmp 1)), none, []⟩⟩,
          ⟨6, 32, [], ⟨(some 39), (.load none (.tmp 38)), none, []⟩⟩,
          ⟨7, 127, [], ⟨(some 40), (.call (.func 14) [(.tmp 37), (.tmp 39)]), none, []⟩⟩,
          ⟨8, 255, [], ⟨(some 4), (.move (.tmp 40)), none, []⟩⟩]))
        (.seq (.keep [1, 3, 62] (.draw [0, 1, 3, 7, 15, 7, 63, 127, 255, 7, 519, 7, 3591, 7, 8199, 7, 57351, 122887, 253959, 523783, 1048575, 2097151] [⟨0, 0, [], ⟨(some 41), (.move (.tmp 4)), none, []⟩⟩,
          ⟨1, 1, [], ⟨(some 42), (.un .not (.tmp 41)), none, []⟩⟩,
          ⟨2, 3, [], ⟨(some 43), (.move (.tmp 42)), none, []⟩⟩,
          ⟨3, 7, [], ⟨(some 44), (.fieldAddr 17 (.tmp 1)), (some (43, false)), []⟩⟩,
          ⟨4, 15, [], ⟨(some 45), (.load none (.tmp 44)), (some (43, false)), []⟩⟩,
          ⟨5, 7, [], ⟨(some 46), (.move (.tmp 3)), (some (43, false)), []⟩⟩,
          ⟨6, 63, [], ⟨(some 47), (.indexAddr 5 (.tmp 45) (.tmp 46)), (some (43, false)), []⟩⟩,
          ⟨7, 127, [], ⟨(some 48), (.fieldAddr 2 (.tmp 47)), (some (43, false)), []⟩⟩,
          ⟨8, 255, [], ⟨(some 49), (.load none (.tmp 48)), (some (43, false)), []⟩⟩,
          ⟨9, 7, [], ⟨(some 50), (.fieldAddr 17 (.tmp 1)), (some (43, false)), []⟩⟩,
          ⟨10, 519, [], ⟨(some 51), (.load none (.tmp 50)), (some (43, false)), []⟩⟩,
          ⟨11, 7, [], ⟨(some 52), (.move (.tmp 3)), (some (43, false)), []⟩⟩,
          ⟨12, 3591, [], ⟨(some 53), (.slice 5 (.tmp 51) none (some (.tmp 52)) none), (some (43, false)), []⟩⟩,
          ⟨13, 7, [], ⟨(some 54), (.fieldAddr 17 (.tmp 1)), (some (43, false)), []⟩⟩,
          ⟨14, 8199, [], ⟨(some 55), (.load none (.tmp 54)), (some (43, false)), []⟩⟩,
          ⟨15, 7, [], ⟨(some 56), (.move (.tmp 3)), (some (43, false)), []⟩⟩,
          ⟨16, 57351, [], ⟨(some 57), (.indexAddr 5 (.tmp 55) (.tmp 56)), (some (43, false)), []⟩⟩,
          ⟨17, 122887, [], ⟨(some 58), (.fieldAddr 1 (.tmp 57)), (some (43, false)), []⟩⟩,
          ⟨18, 253959, [], ⟨(some 59), (.load none (.tmp 58)), (some (43, false)), []⟩⟩,
          ⟨19, 523783, [4, 8], ⟨(some 60), (.call (.func 47) [(.tmp 53), (.tmp 59)]), (some (43, false)), [((.load none (.tmp 44)), (some (43, false)), (some 45)), ((.load none (.tmp 48)), (some (43, false)), (some 49))]⟩⟩,
          ⟨20, 1048575, [], ⟨(some 61), (.bin .neq (.tmp 49) (.tmp 60)), (some (43, false)), []⟩⟩,
          ⟨21, 2097151, [], ⟨(some 62), (.pick (.tmp 43) (.const (.bool true)) (.tmp 61)), none, []⟩⟩]))
        (.cond (.tmp 62)
          (.seq (.keep [2] (.ops [⟨(some 2), (.move (.const (.int .i64 3))), none, []⟩]))
          .ret)
          .skip)))))
      (.ops [⟨(some 31), (.move (.tmp 3)), none, []⟩,
        ⟨(some 32), (.bin .add (.tmp 31) (.const (.int .i64 1))), none, []⟩,
        ⟨(some 3), (.move (.tmp 32)), none, []⟩]))))))))
  (.seq (.keep [1, 5] (.ops [⟨(some 5), (.move (.const (.int .i64 0))), none, []⟩]))
  (.seq (.keep [1] (.seq (.keep [1, 5, 6] (.ops [⟨(some 6), (.move (.const (.int .i64 0))), none, []⟩]))
  (.block 2
    (.loop
      (.keep [1, 5, 6] (.seq (.keep [1, 5, 6] (.seq (.keep [1, 5, 6, 67] (.ops [⟨(some 63), (.move (.tmp 6)), none, []⟩,
        ⟨(some 64), (.fieldAddr 18 (.tmp 1)), none, []⟩,
        ⟨(some 65), (.load none (.tmp 64)), none, []⟩,
        ⟨(some 66), (.len (.tmp 65)), none, []⟩,
        ⟨(some 67), (.bin .lss (.tmp 63) (.tmp 66)), none, []⟩]))
      (.cond (.tmp 67)
        .skip
        (.exit 2))))
      (.seq (.keep [1, 5, 6] (.block 3
        (.seq (.keep [1, 6] (.seq (.keep [1, 6, 89] (.draw [0, 1, 0, 7, 15, 31, 0, 127, 255, 511, 1023, 511, 4095, 8191, 16383, 511, 33279, 98815, 262143, 524287] [⟨0, 0, [], ⟨(some 70), (.fieldAddr 18 (.tmp 1)), none, []⟩⟩,
          ⟨1, 1, [], ⟨(some 71), (.load none (.tmp 70)), none, []⟩⟩,
          ⟨2, 0, [], ⟨(some 72), (.move (.tmp 6)), none, []⟩⟩,
          ⟨3, 7, [], ⟨(some 73), (.indexAddr 33 (.tmp 71) (.tmp 72)), none, []⟩⟩,
          ⟨4, 15, [], ⟨(some 74), (.fieldAddr 0 (.tmp 73)), none, []⟩⟩,
          ⟨5, 31, [], ⟨(some 75), (.load none (.tmp 74)), none, []⟩⟩,
          ⟨6, 0, [], ⟨(some 76), (.move (.tmp 5)), none, []⟩⟩,
          ⟨7, 127, [], ⟨(some 77), (.bin .leq (.tmp 75) (.tmp 76)), none, []⟩⟩,
          ⟨8, 255, [], ⟨(some 78), (.move (.tmp 77)), none, []⟩⟩,
          ⟨9, 511, [], ⟨(some 79), (.fieldAddr 18 (.tmp 1)), (some (78, false)), []⟩⟩,
          ⟨10, 1023, [], ⟨(some 80), (.load none (.tmp 79)), (some (78, false)), []⟩⟩,
          ⟨11, 511, [], ⟨(some 81), (.move (.tmp 6)), (some (78, false)), []⟩⟩,
          ⟨12, 4095, [], ⟨(some 82), (.indexAddr 33 (.tmp 80) (.tmp 81)), (some (78, false)), []⟩⟩,
          ⟨13, 8191, [], ⟨(some 83), (.fieldAddr 0 (.tmp 82)), (some (78, false)), []⟩⟩,
          ⟨14, 16383, [], ⟨(some 84), (.load none (.tmp 83)), (some (78, false)), []⟩⟩,
          ⟨15, 511, [], ⟨(some 85), (.fieldAddr 17 (.tmp 1)), (some (78, false)), []⟩⟩,
          ⟨16, 33279, [], ⟨(some 86), (.load none (.tmp 85)), (some (78, false)), []⟩⟩,
          ⟨17, 98815, [], ⟨(some 87), (.len (.tmp 86)), (some (78, false)), []⟩⟩,
          ⟨18, 262143, [], ⟨(some 88), (.bin .gtr (.tmp 84) (.tmp 87)), (some (78, false)), []⟩⟩,
          ⟨19, 524287, [], ⟨(some 89), (.pick (.tmp 78) (.const (.bool true)) (.tmp 88)), none, []⟩⟩]))
        (.cond (.tmp 89)
          (.seq (.keep [2] (.ops [⟨(some 2), (.move (.const (.int .i64 3))), none, []⟩]))
          .ret)
          .skip)))
        (.ops [⟨(some 90), (.fieldAddr 18 (.tmp 1)), none, []⟩,
          ⟨(some 91), (.load none (.tmp 90)), none, []⟩,
          ⟨(some 92), (.move (.tmp 6)), none, []⟩,
          ⟨(some 93), (.indexAddr 33 (.tmp 91) (.tmp 92)), none, []⟩,
          ⟨(some 94), (.fieldAddr 0 (.tmp 93)), none, []⟩,
          ⟨(some 95), (.load none (.tmp 94)), none, []⟩,
          ⟨(some 5), (.move (.tmp 95)), none, []⟩]))))
      (.ops [⟨(some 68), (.move (.tmp 6)), none, []⟩,
        ⟨(some 69), (.bin .add (.tmp 68) (.const (.int .i64 1))), none, []⟩,
        ⟨(some 6), (.move (.tmp 69)), none, []⟩]))))))))
  (.seq (.keep [] (.seq (.keep [1, 7] (.ops [⟨(some 7), (.move (.const (.int .i64 0))), none, []⟩]))
  (.block 4
    (.loop
      (.keep [1, 7] (.seq (.keep [1, 7] (.seq (.keep [1, 7, 100] (.ops [⟨(some 96), (.move (.tmp 7)), none, []⟩,
        ⟨(some 97), (.fieldAddr 18 (.tmp 1)), none, []⟩,
        ⟨(some 98), (.load none (.tmp 97)), none, []⟩,
        ⟨(some 99), (.len (.tmp 98)), none, []⟩,
        ⟨(some 100), (.bin .lss (.tmp 96) (.tmp 99)), none, []⟩]))
      (.cond (.tmp 100)
        .skip
        (.exit 4))))
      (.seq (.keep [1, 7] (.block 5
        (.seq (.keep [1, 7, 117] (.draw [0, 1, 0, 7, 15, 31, 0, 0, 128, 0, 896, 1920, 3968, 8128, 16383] [⟨0, 0, [], ⟨(some 103), (.fieldAddr 18 (.tmp 1)), none, []⟩⟩,
          ⟨1, 1, [], ⟨(some 104), (.load none (.tmp 103)), none, []⟩⟩,
          ⟨2, 0, [], ⟨(some 105), (.move (.tmp 7)), none, []⟩⟩,
          ⟨3, 7, [], ⟨(some 106), (.indexAddr 33 (.tmp 104) (.tmp 105)), none, []⟩⟩,
          ⟨4, 15, [], ⟨(some 107), (.fieldAddr 1 (.tmp 106)), none, []⟩⟩,
          ⟨5, 31, [], ⟨(some 108), (.load (some 16) (.tmp 107)), none, []⟩⟩,
          ⟨6, 0, [], ⟨(some 109), (.load (some 19) (.tmp 1)), none, []⟩⟩,
          ⟨7, 0, [], ⟨(some 110), (.fieldAddr 18 (.tmp 1)), none, []⟩⟩,
          ⟨8, 128, [], ⟨(some 111), (.load none (.tmp 110)), none, []⟩⟩,
          ⟨9, 0, [], ⟨(some 112), (.move (.tmp 7)), none, []⟩⟩,
          ⟨10, 896, [], ⟨(some 113), (.indexAddr 33 (.tmp 111) (.tmp 112)), none, []⟩⟩,
          ⟨11, 1920, [], ⟨(some 114), (.fieldAddr 0 (.tmp 113)), none, []⟩⟩,
          ⟨12, 3968, [], ⟨(some 115), (.load none (.tmp 114)), none, []⟩⟩,
          ⟨13, 8128, [1, 5], ⟨(some 116), (.call (.func 31) [(.tmp 109), (.tmp 115)]), none, [((.load none (.tmp 103)), none, (some 104)), ((.load (some 16) (.tmp 107)), none, (some 108))]⟩⟩,
          ⟨14, 16383, [], ⟨(some 117), (.eqAgg true (List.replicate 16 (.int .u8)) (.tmp 108) (.tmp 116)), none, []⟩⟩]))
        (.cond (.tmp 117)
          (.seq (.keep [2] (.ops [⟨(some 2), (.move (.const (.int .i64 290))), none, []⟩]))
          .ret)
          .skip))))
      (.ops [⟨(some 101), (.move (.tmp 7)), none, []⟩,
        ⟨(some 102), (.bin .add (.tmp 101) (.const (.int .i64 1))), none, []⟩,
        ⟨(some 7), (.move (.tmp 102)), none, []⟩]))))))))
  (.seq (.keep [2] (.ops [⟨(some 2), (.move (.const (.int .i64 0))), none, []⟩]))
  .ret))))))))
theorem t16 : trF Tryd.prog Tryd.f16 s16 = some s16 := by kernel_rfl
theorem k16 : okS s16 = true := by kernel_rfl
theorem r16 : resT Tryd.prog Tryd.f16.results.toList = some [.t 2] := by kernel_rfl

def s17 : S :=
  (.seq (.keep [1, 2, 4] (.ops [⟨(some 2), (.box (.tmp 0)), none, []⟩,
    ⟨(some 4), (.alloc (.agg (List.replicate 16 (.int .u8 0)).toArray)), none, []⟩]))
  (.seq (.keep [4] (.draw [0, 1, 0, 4, 12, 31, 63, 127] [⟨0, 0, [], ⟨(some 5), (.sliceArr 16 1 (.tmp 2) none none none), none, []⟩⟩,
    ⟨1, 1, [], ⟨(some 6), (.bytesStr (.tmp 5)), none, []⟩⟩,
    ⟨2, 0, [], ⟨(some 7), (.move (.tmp 1)), none, []⟩⟩,
    ⟨3, 4, [1], ⟨(some 8), (.call (.func 49) [(.tmp 7)]), none, [((.bytesStr (.tmp 5)), none, (some 6))]⟩⟩,
    ⟨4, 12, [], ⟨(some 9), (.bytesStr (.tmp 8)), none, []⟩⟩,
    ⟨5, 31, [], ⟨(some 10), (.buildSlice 2 [(.string ⟨#[]⟩), (.string ⟨#[]⟩)] [(0, 1, (.tmp 6)), (1, 1, (.tmp 9))]), none, []⟩⟩,
    ⟨6, 63, [], ⟨(some 11), (.call (.func 48) [(.const (.int .i64 293)), (.tmp 10)]), none, []⟩⟩,
    ⟨7, 127, [], ⟨none, (.store 16 (.tmp 4) (.tmp 11)), none, []⟩⟩]))
  .ret))
theorem t17 : trF Tryd.prog Tryd.f17 s17 = some s17 := by kernel_rfl
theorem k17 : okS s17 = true := by kernel_rfl
theorem r17 : resT Tryd.prog Tryd.f17.results.toList = some [.c 4 (some 16)] := by kernel_rfl

def s18 : S :=
  (.seq (.keep [1, 2, 4] (.ops [⟨(some 2), (.box (.tmp 0)), none, []⟩,
    ⟨(some 4), (.alloc (.agg (List.replicate 16 (.int .u8 0)).toArray)), none, []⟩]))
  (.seq (.keep [4] (.ops [⟨(some 5), (.load (some 16) (.tmp 2)), none, []⟩,
    ⟨(some 6), (.call (.func 51) [(.tmp 5)]), none, []⟩,
    ⟨(some 7), (.move (.tmp 1)), none, []⟩,
    ⟨(some 8), (.call (.func 52) [(.tmp 7)]), none, []⟩,
    ⟨(some 9), (.bytesStr (.tmp 8)), none, []⟩,
    ⟨(some 10), (.buildSlice 2 [(.string ⟨#[]⟩), (.string ⟨#[]⟩)] [(0, 1, (.tmp 6)), (1, 1, (.tmp 9))]), none, []⟩,
    ⟨(some 11), (.call (.func 50) [(.const (.int .i64 293)), (.tmp 10)]), none, []⟩,
    ⟨none, (.store 16 (.tmp 4) (.tmp 11)), none, []⟩]))
  .ret))
theorem t18 : trF Tryd.prog Tryd.f18 s18 = some s18 := by kernel_rfl
theorem k18 : okS s18 = true := by kernel_rfl
theorem r18 : resT Tryd.prog Tryd.f18.results.toList = some [.c 4 (some 16)] := by kernel_rfl

def s19 : S :=
  (.seq (.keep [2, 3, 4] (.ops [⟨(some 2), (.box (.tmp 0)), none, []⟩,
    ⟨(some 3), (.box (.tmp 1)), none, []⟩,
    ⟨(some 4), (.alloc (.agg (List.replicate 16 (.int .u8 0)).toArray)), none, []⟩]))
  (.seq (.keep [4] (.draw [0, 1, 0, 4, 0, 16, 0, 64, 0, 256, 1020, 2044, 4092, 0, 8192, 32767, 65535, 131071] [⟨0, 0, [], ⟨(some 5), (.sliceArr 16 1 (.tmp 2) none none none), none, []⟩⟩,
    ⟨1, 1, [], ⟨(some 6), (.bytesStr (.tmp 5)), none, []⟩⟩,
    ⟨2, 0, [], ⟨(some 7), (.fieldAddr 0 (.tmp 3)), none, []⟩⟩,
    ⟨3, 4, [], ⟨(some 8), (.load none (.tmp 7)), none, []⟩⟩,
    ⟨4, 0, [], ⟨(some 9), (.fieldAddr 1 (.tmp 3)), none, []⟩⟩,
    ⟨5, 16, [], ⟨(some 10), (.load none (.tmp 9)), none, []⟩⟩,
    ⟨6, 0, [], ⟨(some 11), (.fieldAddr 2 (.tmp 3)), none, []⟩⟩,
    ⟨7, 64, [], ⟨(some 12), (.load none (.tmp 11)), none, []⟩⟩,
    ⟨8, 0, [], ⟨(some 13), (.fieldAddr 3 (.tmp 3)), none, []⟩⟩,
    ⟨9, 256, [], ⟨(some 14), (.load none (.tmp 13)), none, []⟩⟩,
    ⟨10, 1020, [], ⟨(some 15), (.buildSlice 4 (List.replicate 4 (.int .i64 0)) [(0, 1, (.tmp 8)), (1, 1, (.tmp 10)), (2, 1, (.tmp 12)), (3, 1, (.tmp 14))]), none, []⟩⟩,
    ⟨13, 0, [], ⟨(some 18), (.fieldAddr 4 (.tmp 3)), none, []⟩⟩,
    ⟨14, 8192, [], ⟨(some 19), (.load none (.tmp 18)), none, []⟩⟩,
    ⟨11, 2044, [1, 14], ⟨(some 16), (.call (.func 53) [(.tmp 15)]), none, [((.bytesStr (.tmp 5)), none, (some 6)), ((.load none (.tmp 18)), none, (some 19))]⟩⟩,
    ⟨12, 4092, [], ⟨(some 17), (.bytesStr (.tmp 16)), none, []⟩⟩,
    ⟨15, 32767, [], ⟨(some 20), (.buildSlice 3 [(.string ⟨#[]⟩), (.string ⟨#[]⟩), (.string ⟨#[]⟩)] [(0, 1, (.tmp 6)), (1, 1, (.tmp 17)), (2, 1, (.tmp 19))]), none, []⟩⟩,
    ⟨16, 65535, [], ⟨(some 21), (.call (.func 48) [(.const (.int .i64 290)), (.tmp 20)]), none, []⟩⟩,
    ⟨17, 131071, [], ⟨none, (.store 16 (.tmp 4) (.tmp 21)), none, []⟩⟩]))
  .ret))
theorem t19 : trF Tryd.prog Tryd.f19 s19 = some s19 := by kernel_rfl
theorem k19 : okS s19 = true := by kernel_rfl
theorem r19 : resT Tryd.prog Tryd.f19.results.toList = some [.c 4 (some 16)] := by kernel_rfl

def s20 : S :=
  (.seq (.keep [2, 3, 4] (.ops [⟨(some 2), (.box (.tmp 0)), none, []⟩,
    ⟨(some 3), (.box (.tmp 1)), none, []⟩,
    ⟨(some 4), (.alloc (.agg (List.replicate 16 (.int .u8 0)).toArray)), none, []⟩]))
  (.seq (.keep [4] (.draw [0, 1, 0, 4, 0, 16, 0, 64, 0, 256, 1020, 2047, 4095, 0, 8192, 32767, 65535, 131071] [⟨0, 0, [], ⟨(some 5), (.load (some 16) (.tmp 2)), none, []⟩⟩,
    ⟨2, 0, [], ⟨(some 7), (.fieldAddr 0 (.tmp 3)), none, []⟩⟩,
    ⟨3, 4, [], ⟨(some 8), (.load none (.tmp 7)), none, []⟩⟩,
    ⟨4, 0, [], ⟨(some 9), (.fieldAddr 1 (.tmp 3)), none, []⟩⟩,
    ⟨5, 16, [], ⟨(some 10), (.load none (.tmp 9)), none, []⟩⟩,
    ⟨6, 0, [], ⟨(some 11), (.fieldAddr 2 (.tmp 3)), none, []⟩⟩,
    ⟨7, 64, [], ⟨(some 12), (.load none (.tmp 11)), none, []⟩⟩,
    ⟨8, 0, [], ⟨(some 13), (.fieldAddr 3 (.tmp 3)), none, []⟩⟩,
    ⟨9, 256, [], ⟨(some 14), (.load none (.tmp 13)), none, []⟩⟩,
    ⟨10, 1020, [], ⟨(some 15), (.buildSlice 4 (List.replicate 4 (.int .i64 0)) [(0, 1, (.tmp 8)), (1, 1, (.tmp 10)), (2, 1, (.tmp 12)), (3, 1, (.tmp 14))]), none, []⟩⟩,
    ⟨13, 0, [], ⟨(some 18), (.fieldAddr 4 (.tmp 3)), none, []⟩⟩,
    ⟨14, 8192, [], ⟨(some 19), (.load none (.tmp 18)), none, []⟩⟩,
    ⟨1, 1, [3, 5, 7, 9, 14], ⟨(some 6), (.call (.func 51) [(.tmp 5)]), none, [((.load none (.tmp 7)), none, (some 8)), ((.load none (.tmp 9)), none, (some 10)), ((.load none (.tmp 11)), none, (some 12)), ((.load none (.tmp 13)), none, (some 14)), ((.load none (.tmp 18)), none, (some 19))]⟩⟩,
    ⟨11, 2047, [14], ⟨(some 16), (.call (.func 54) [(.tmp 15)]), none, [((.load none (.tmp 18)), none, (some 19))]⟩⟩,
    ⟨12, 4095, [], ⟨(some 17), (.bytesStr (.tmp 16)), none, []⟩⟩,
    ⟨15, 32767, [], ⟨(some 20), (.buildSlice 3 [(.string ⟨#[]⟩), (.string ⟨#[]⟩), (.string ⟨#[]⟩)] [(0, 1, (.tmp 6)), (1, 1, (.tmp 17)), (2, 1, (.tmp 19))]), none, []⟩⟩,
    ⟨16, 65535, [], ⟨(some 21), (.call (.func 50) [(.const (.int .i64 290)), (.tmp 20)]), none, []⟩⟩,
    ⟨17, 131071, [], ⟨none, (.store 16 (.tmp 4) (.tmp 21)), none, []⟩⟩]))
  .ret))
theorem t20 : trF Tryd.prog Tryd.f20 s20 = some s20 := by kernel_rfl
theorem k20 : okS s20 = true := by kernel_rfl
theorem r20 : resT Tryd.prog Tryd.f20.results.toList = some [.c 4 (some 16)] := by kernel_rfl

def s21 : S :=
  (.seq (.keep [1] (.ops [⟨(some 1), (.box (.tmp 0)), none, []⟩,
    ⟨(some 2), (.move (.const (.bool false))), none, []⟩]))
  (.seq (.keep [1, 3] (.ops [⟨(some 4), (.load (some 19) (.tmp 1)), none, []⟩,
    ⟨(some 5), (.call (.func 9) [(.tmp 4)]), none, []⟩,
    ⟨(some 3), (.move (.tmp 5)), none, []⟩]))
  (.seq (.keep [2] (.ops [⟨(some 6), (.move (.tmp 3)), none, []⟩,
    ⟨(some 7), (.move (.tmp 6)), none, []⟩,
    ⟨(some 8), (.load (some 19) (.tmp 1)), (some (7, true)), []⟩,
    ⟨(some 9), (.call (.func 16) [(.tmp 8)]), (some (7, true)), []⟩,
    ⟨(some 10), (.bin .eql (.tmp 9) (.const (.int .i64 0))), (some (7, true)), []⟩,
    ⟨(some 11), (.pick (.tmp 7) (.tmp 10) (.const (.bool false))), none, []⟩,
    ⟨(some 2), (.move (.tmp 11)), none, []⟩]))
  .ret)))
theorem t21 : trF Tryd.prog Tryd.f21 s21 = some s21 := by kernel_rfl
theorem k21 : okS s21 = true := by kernel_rfl
theorem r21 : resT Tryd.prog Tryd.f21.results.toList = some [.t 2] := by kernel_rfl

def s22 : S :=
  (.seq (.keep [2, 3, 4] (.ops [⟨(some 2), (.box (.tmp 0)), none, []⟩,
    ⟨(some 3), (.box (.tmp 1)), none, []⟩,
    ⟨(some 4), (.alloc (.agg #[(.int .u8 0), (.int .u8 0), (.int .u8 0), (.int .u8 0), (.int .u8 0), (.int .u8 0), (.int .u8 0), (.int .u8 0), (.int .u8 0), (.int .u8 0), (.int .u8 0), (.int .u8 0), (.int .u8 0), (.int .u8 0), (.int .u8 0), (.int .u8 0), (.int .i64 0), (.slice none 0 0), (.slice none 0 0)])), none, []⟩,
    ⟨(some 5), (.move (.const (.int .i64 0))), none, []⟩]))
  (.seq (.keep [2, 3, 4] (.seq (.keep [2, 3, 4, 12] (.ops [⟨(some 9), (.fieldAddr 17 (.tmp 2)), none, []⟩,
    ⟨(some 10), (.load none (.tmp 9)), none, []⟩,
    ⟨(some 11), (.len (.tmp 10)), none, []⟩,
    ⟨(some 12), (.bin .geq (.tmp 11) (.const (.int .i64 4096))), none, []⟩]))
  (.cond (.tmp 12)
    (.seq (.keep [4, 5] (.ops [⟨(some 13), (.load (some 19) (.tmp 2)), none, []⟩,
      ⟨none, (.store 19 (.tmp 4) (.tmp 13)), none, []⟩,
      ⟨(some 5), (.move (.const (.int .i64 2))), none, []⟩]))
    .ret)
    .skip)))
  (.seq (.keep [2, 3, 4, 6] (.ops [⟨(some 6), (.alloc (.agg (List.replicate 4 (.int .i64 0)).toArray)), none, []⟩]))
  (.seq (.keep [2, 3, 4, 6] (.seq (.keep [2, 3, 4, 6, 15, 16, 17] (.ops [⟨(some 14), (.fieldAddr 17 (.tmp 2)), none, []⟩,
    ⟨(some 15), (.load none (.tmp 14)), none, []⟩,
    ⟨(some 16), (.len (.tmp 15)), none, []⟩,
    ⟨(some 17), (.move (.const (.int .i64 0))), none, []⟩]))
  (.block 0
    (.loop
      (.keep [2, 3, 4, 6, 15, 16, 17] (.seq (.keep [2, 3, 4, 6, 15, 16, 17, 18] (.ops [⟨(some 18), (.bin .lss (.tmp 17) (.tmp 16)), none, []⟩]))
      (.seq (.keep [2, 3, 4, 6, 15, 16, 17] (.cond (.tmp 18)
        .skip
        (.exit 0)))
      (.seq (.keep [2, 3, 4, 6, 15, 16, 17] (.block 1
        (.seq (.keep [2, 3, 4, 6, 8, 15, 16, 17] (.ops [⟨(some 19), (.indexAddr 5 (.tmp 15) (.tmp 17)), none, []⟩,
          ⟨(some 20), (.load (some 5) (.tmp 19)), none, []⟩,
          ⟨(some 8), (.alloc (.agg #[(.int .i64 0), (.int .i64 0), (.int .i64 0), (.int .i64 0), (.string ⟨#[]⟩)])), none, []⟩,
          ⟨none, (.store 5 (.tmp 8) (.tmp 20)), none, []⟩]))
        (.ops [⟨(some 21), (.load (some 5) (.tmp 8)), none, []⟩,
          ⟨(some 22), (.call (.func 45) [(.tmp 6), (.tmp 21)]), none, []⟩]))))
      (.ops [⟨(some 23), (.bin .add (.tmp 17) (.const (.int .i64 1))), none, []⟩,
        ⟨(some 17), (.move (.tmp 23)), none, []⟩])))))))))
  (.seq (.keep [2, 3, 4] (.seq (.keep [2, 3, 4, 33] (.ops [⟨(some 24), (.load (some 5) (.tmp 3)), none, []⟩,
    ⟨(some 25), (.fieldAddr 16 (.tmp 2)), none, []⟩,
    ⟨(some 26), (.load none (.tmp 25)), none, []⟩,
    ⟨(some 27), (.call (.func 13) [(.tmp 24), (.tmp 26)]), none, []⟩,
    ⟨(some 28), (.un .not (.tmp 27)), none, []⟩,
    ⟨(some 29), (.move (.tmp 28)), none, []⟩,
    ⟨(some 30), (.load (some 5) (.tmp 3)), (some (29, false)), []⟩,
    ⟨(some 31), (.call (.func 45) [(.tmp 6), (.tmp 30)]), (some (29, false)), []⟩,
    ⟨(some 32), (.un .not (.tmp 31)), (some (29, false)), []⟩,
    ⟨(some 33), (.pick (.tmp 29) (.const (.bool true)) (.tmp 32)), none, []⟩]))
  (.cond (.tmp 33)
    (.seq (.keep [4, 5] (.ops [⟨(some 34), (.load (some 19) (.tmp 2)), none, []⟩,
      ⟨none, (.store 19 (.tmp 4) (.tmp 34)), none, []⟩,
      ⟨(some 5), (.move (.const (.int .i64 3))), none, []⟩]))
    .ret)
    .skip)))
  (.seq (.keep [2, 4] (.draw [0, 1, 0, 4, 12, 0, 32, 96, 255, 0, 512, 2047, 4095, 8191] [⟨0, 0, [], ⟨(some 35), (.fieldAddr 17 (.tmp 2)), none, []⟩⟩,
    ⟨1, 1, [], ⟨(some 36), (.load none (.tmp 35)), none, []⟩⟩,
    ⟨2, 0, [], ⟨(some 37), (.fieldAddr 17 (.tmp 2)), none, []⟩⟩,
    ⟨3, 4, [], ⟨(some 38), (.load none (.tmp 37)), none, []⟩⟩,
    ⟨4, 12, [], ⟨(some 39), (.len (.tmp 38)), none, []⟩⟩,
    ⟨5, 0, [], ⟨(some 40), (.fieldAddr 17 (.tmp 2)), none, []⟩⟩,
    ⟨6, 32, [], ⟨(some 41), (.load none (.tmp 40)), none, []⟩⟩,
    ⟨7, 96, [], ⟨(some 42), (.len (.tmp 41)), none, []⟩⟩,
    ⟨8, 255, [], ⟨(some 43), (.slice 5 (.tmp 36) none (some (.tmp 39)) (some (.tmp 42))), none, []⟩⟩,
    ⟨9, 0, [], ⟨(some 44), (.load (some 5) (.tmp 3)), none, []⟩⟩,
    ⟨10, 512, [], ⟨(some 45), (.buildSlice 1 [(.int .i64 0), (.int .i64 0), (.int .i64 0), (.int .i64 0), (.string ⟨#[]⟩)] [(0, 5, (.tmp 44))]), none, []⟩⟩,
    ⟨11, 2047, [], ⟨(some 46), (.append 5 48 (.tmp 43) (.tmp 45)), none, []⟩⟩,
    ⟨12, 4095, [], ⟨(some 47), (.fieldAddr 17 (.tmp 2)), none, []⟩⟩,
    ⟨13, 8191, [], ⟨none, (.store 1 (.tmp 47) (.tmp 46)), none, []⟩⟩]))
  (.seq (.keep [4, 5] (.ops [⟨(some 48), (.load (some 19) (.tmp 2)), none, []⟩,
    ⟨none, (.store 19 (.tmp 4) (.tmp 48)), none, []⟩,
    ⟨(some 5), (.move (.const (.int .i64 0))), none, []⟩]))
  .ret)))))))
theorem t22 : trF Tryd.prog Tryd.f22 s22 = some s22 := by kernel_rfl
theorem k22 : okS s22 = true := by kernel_rfl
theorem r22 : resT Tryd.prog Tryd.f22.results.toList = some [.c 4 (some 19), .t 5] := by kernel_rfl

def s23 : S :=
  (.seq (.keep [1, 2, 4] (.ops [⟨(some 2), (.box (.tmp 0)), none, []⟩,
    ⟨(some 4), (.alloc (.agg #[(.int .u8 0), (.int .u8 0), (.int .u8 0), (.int .u8 0), (.int .u8 0), (.int .u8 0), (.int .u8 0), (.int .u8 0), (.int .u8 0), (.int .u8 0), (.int .u8 0), (.int .u8 0), (.int .u8 0), (.int .u8 0), (.int .u8 0), (.int .u8 0), (.int .i64 0), (.slice none 0 0), (.slice none 0 0)])), none, []⟩,
    ⟨(some 5), (.move (.const (.int .i64 0))), none, []⟩]))
  (.seq (.keep [1, 2, 4, 6] (.ops [⟨(some 9), (.fieldAddr 17 (.tmp 2)), none, []⟩,
    ⟨(some 10), (.load none (.tmp 9)), none, []⟩,
    ⟨(some 11), (.len (.tmp 10)), none, []⟩,
    ⟨(some 6), (.move (.tmp 11)), none, []⟩]))
  (.seq (.keep [1, 2, 4, 6] (.block 0
    (.seq (.keep [1, 2, 4, 6, 12] (.ops [⟨(some 13), (.move (.tmp 6)), none, []⟩,
      ⟨(some 14), (.load (some 19) (.tmp 2)), none, []⟩,
      ⟨(some 15), (.call (.func 55) [(.tmp 14)]), none, []⟩,
      ⟨(some 16), (.bin .eql (.tmp 13) (.tmp 15)), none, []⟩,
      ⟨(some 12), (.move (.tmp 16)), none, []⟩]))
    (.cond (.tmp 12)
      (.seq (.keep [4, 5] (.ops [⟨(some 17), (.build [(.int .u8 0), (.int .u8 0), (.int .u8 0), (.int .u8 0), (.int .u8 0), (.int .u8 0), (.int .u8 0), (.int .u8 0), (.int .u8 0), (.int .u8 0), (.int .u8 0), (.int .u8 0), (.int .u8 0), (.int .u8 0), (.int .u8 0), (.int .u8 0), (.int .i64 0), (.slice none 0 0), (.slice none 0 0)] []), none, []⟩,
        ⟨none, (.store 19 (.tmp 4) (.tmp 17)), none, []⟩,
        ⟨(some 5), (.move (.const (.int .i64 4))), none, []⟩]))
      .ret)
      (.seq (.keep [1, 2, 4, 6, 18] (.ops [⟨(some 19), (.fieldAddr 18 (.tmp 2)), none, []⟩,
        ⟨(some 20), (.load none (.tmp 19)), none, []⟩,
        ⟨(some 21), (.len (.tmp 20)), none, []⟩,
        ⟨(some 22), (.bin .geq (.tmp 21) (.const (.int .i64 256))), none, []⟩,
        ⟨(some 18), (.move (.tmp 22)), none, []⟩]))
      (.cond (.tmp 18)
        (.seq (.keep [4, 5] (.ops [⟨(some 23), (.build [(.int .u8 0), (.int .u8 0), (.int .u8 0), (.int .u8 0), (.int .u8 0), (.int .u8 0), (.int .u8 0), (.int .u8 0), (.int .u8 0), (.int .u8 0), (.int .u8 0), (.int .u8 0), (.int .u8 0), (.int .u8 0), (.int .u8 0), (.int .u8 0), (.int .i64 0), (.slice none 0 0), (.slice none 0 0)] []), none, []⟩,
          ⟨none, (.store 19 (.tmp 4) (.tmp 23)), none, []⟩,
          ⟨(some 5), (.move (.const (.int .i64 2))), none, []⟩]))
        .ret)
        .skip))))))
  (.seq (.keep [1, 2, 4, 6, 7] (.ops [⟨(some 25), (.load (some 19) (.tmp 2)), none, []⟩,
    ⟨(some 26), (.move (.tmp 6)), none, []⟩,
    ⟨(some 27), (.call (.func 26) [(.tmp 25), (.tmp 26)]), none, []⟩,
    ⟨(some 24), (.move (.tmp 27)), none, []⟩,
    ⟨(some 28), (.extract (.tmp 24) 0), none, []⟩,
    ⟨(some 29), (.extract (.tmp 24) 1), none, []⟩,
    ⟨(some 7), (.alloc (.agg (List.replicate 16 (.int .u8 0)).toArray)), none, []⟩,
    ⟨none, (.store 16 (.tmp 7) (.tmp 28)), none, []⟩,
    ⟨(some 8), (.move (.tmp 29)), none, []⟩]))
  (.seq (.keep [2, 4] (.draw [0, 1, 0, 4, 12, 0, 32, 96, 255, 0, 0, 0, 0, 0, 14336, 32256, 65024, 131071, 262143, 524287] [⟨0, 0, [], ⟨(some 30), (.fieldAddr 18 (.tmp 2)), none, []⟩⟩,
    ⟨1, 1, [], ⟨(some 31), (.load none (.tmp 30)), none, []⟩⟩,
    ⟨2, 0, [], ⟨(some 32), (.fieldAddr 18 (.tmp 2)), none, []⟩⟩,
    ⟨3, 4, [], ⟨(some 33), (.load none (.tmp 32)), none, []⟩⟩,
    ⟨4, 12, [], ⟨(some 34), (.len (.tmp 33)), none, []⟩⟩,
    ⟨5, 0, [], ⟨(some 35), (.fieldAddr 18 (.tmp 2)), none, []⟩⟩,
    ⟨6, 32, [], ⟨(some 36), (.load none (.tmp 35)), none, []⟩⟩,
    ⟨7, 96, [], ⟨(some 37), (.len (.tmp 36)), none, []⟩⟩,
    ⟨8, 255, [], ⟨(some 38), (.slice 33 (.tmp 31) none (some (.tmp 34)) (some (.tmp 37))), none, []⟩⟩,
    ⟨9, 0, [], ⟨(some 39), (.move (.tmp 6)), none, []⟩⟩,
    ⟨10, 0, [], ⟨(some 40), (.load (some 16) (.tmp 7)), none, []⟩⟩,
    ⟨11, 0, [], ⟨(some 41), (.move (.tmp 1)), none, []⟩⟩,
    ⟨12, 0, [], ⟨(some 42), (.load (some 16) (.tmp 7)), none, []⟩⟩,
    ⟨13, 0, [], ⟨(some 43), (.move (.tmp 6)), none, []⟩⟩,
    ⟨14, 14336, [1, 3, 6, 10], ⟨(some 44), (.call (.func 56) [(.tmp 41), (.tmp 42), (.tmp 43)]), none, [((.load none (.tmp 30)), none, (some 31)), ((.load none (.tmp 32)), none, (some 33)), ((.load none (.tmp 35)), none, (some 36)), ((.load (some 16) (.tmp 7)), none, (some 40))]⟩⟩,
    ⟨15, 32256, [], ⟨(some 45), (.build [(.int .i64 0), (.int .u8 0), (.int .u8 0), (.int .u8 0), (.int .u8 0), (.int .u8 0), (.int .u8 0), (.int .u8 0), (.int .u8 0), (.int .u8 0), (.int .u8 0), (.int .u8 0), (.int .u8 0), (.int .u8 0), (.int .u8 0), (.int .u8 0), (.int .u8 0), (.int .u8 0), (.int .u8 0), (.int .u8 0), (.int .u8 0), (.int .u8 0), (.int .u8 0), (.int .u8 0), (.int .u8 0), (.int .u8 0), (.int .u8 0), (.int .u8 0), (.int .u8 0), (.int .u8 0), (.int .u8 0), (.int .u8 0), (.int .u8 0)] [(0, 1, (.tmp 39)), (1, 16, (.tmp 40)), (17, 16, (.tmp 44))]), none, []⟩⟩,
    ⟨16, 65024, [], ⟨(some 46), (.buildSlice 1 [(.int .i64 0), (.int .u8 0), (.int .u8 0), (.int .u8 0), (.int .u8 0), (.int .u8 0), (.int .u8 0), (.int .u8 0), (.int .u8 0), (.int .u8 0), (.int .u8 0), (.int .u8 0), (.int .u8 0), (.int .u8 0), (.int .u8 0), (.int .u8 0), (.int .u8 0), (.int .u8 0), (.int .u8 0), (.int .u8 0), (.int .u8 0), (.int .u8 0), (.int .u8 0), (.int .u8 0), (.int .u8 0), (.int .u8 0), (.int .u8 0), (.int .u8 0), (.int .u8 0), (.int .u8 0), (.int .u8 0), (.int .u8 0), (.int .u8 0)] [(0, 33, (.tmp 45))]), none, []⟩⟩,
    ⟨17, 131071, [], ⟨(some 47), (.append 33 40 (.tmp 38) (.tmp 46)), none, []⟩⟩,
    ⟨18, 262143, [], ⟨(some 48), (.fieldAddr 18 (.tmp 2)), none, []⟩⟩,
    ⟨19, 524287, [], ⟨none, (.store 1 (.tmp 48) (.tmp 47)), none, []⟩⟩]))
  (.seq (.keep [4, 5] (.ops [⟨(some 49), (.load (some 19) (.tmp 2)), none, []⟩,
    ⟨none, (.store 19 (.tmp 4) (.tmp 49)), none, []⟩,
    ⟨(some 5), (.move (.const (.int .i64 0))), none, []⟩]))
  .ret))))))
theorem t23 : trF Tryd.prog Tryd.f23 s23 = some s23 := by kernel_rfl
theorem k23 : okS s23 = true := by kernel_rfl
theorem r23 : resT Tryd.prog Tryd.f23.results.toList = some [.c 4 (some 19), .t 5] := by kernel_rfl

def s24 : S :=
  (.seq (.keep [1, 2] (.ops [⟨(some 2), (.box (.tmp 0)), none, []⟩,
    ⟨(some 4), (.move (.const (.int .i64 0))), none, []⟩,
    ⟨(some 5), (.move (.const (.int .i64 0))), none, []⟩]))
  (.seq (.keep [2] (.seq (.keep [1, 2, 9, 10, 11] (.ops [⟨(some 8), (.fieldAddr 18 (.tmp 2)), none, []⟩,
    ⟨(some 9), (.load none (.tmp 8)), none, []⟩,
    ⟨(some 10), (.len (.tmp 9)), none, []⟩,
    ⟨(some 11), (.move (.const (.int .i64 0))), none, []⟩]))
  (.block 0
    (.loop
      (.keep [1, 2, 9, 10, 11] (.seq (.keep [1, 2, 9, 10, 11, 12] (.ops [⟨(some 12), (.bin .lss (.tmp 11) (.tmp 10)), none, []⟩]))
      (.seq (.keep [1, 2, 9, 10, 11] (.cond (.tmp 12)
        .skip
        (.exit 0)))
      (.seq (.keep [1, 2, 9, 10, 11] (.block 1
        (.seq (.keep [1, 2, 7, 9, 10, 11] (.ops [⟨(some 13), (.indexAddr 33 (.tmp 9) (.tmp 11)), none, []⟩,
          ⟨(some 14), (.load (some 33) (.tmp 13)), none, []⟩,
          ⟨(some 7), (.alloc (.agg #[(.int .i64 0), (.int .u8 0), (.int .u8 0), (.int .u8 0), (.int .u8 0), (.int .u8 0), (.int .u8 0), (.int .u8 0), (.int .u8 0), (.int .u8 0), (.int .u8 0), (.int .u8 0), (.int .u8 0), (.int .u8 0), (.int .u8 0), (.int .u8 0), (.int .u8 0), (.int .u8 0), (.int .u8 0), (.int .u8 0), (.int .u8 0), (.int .u8 0), (.int .u8 0), (.int .u8 0), (.int .u8 0), (.int .u8 0), (.int .u8 0), (.int .u8 0), (.int .u8 0), (.int .u8 0), (.int .u8 0), (.int .u8 0), (.int .u8 0)])), none, []⟩,
          ⟨none, (.store 33 (.tmp 7) (.tmp 14)), none, []⟩]))
        (.seq (.keep [1, 2, 9, 10, 11, 23] (.draw [0, 1, 0, 0, 8, 0, 32, 124, 255] [⟨0, 0, [], ⟨(some 15), (.fieldAddr 17 (.tmp 7)), none, []⟩⟩,
          ⟨1, 1, [], ⟨(some 16), (.load (some 16) (.tmp 15)), none, []⟩⟩,
          ⟨2, 0, [], ⟨(some 17), (.move (.tmp 1)), none, []⟩⟩,
          ⟨3, 0, [], ⟨(some 18), (.fieldAddr 1 (.tmp 7)), none, []⟩⟩,
          ⟨4, 8, [], ⟨(some 19), (.load (some 16) (.tmp 18)), none, []⟩⟩,
          ⟨5, 0, [], ⟨(some 20), (.fieldAddr 0 (.tmp 7)), none, []⟩⟩,
          ⟨6, 32, [], ⟨(some 21), (.load none (.tmp 20)), none, []⟩⟩,
          ⟨7, 124, [1], ⟨(some 22), (.call (.func 56) [(.tmp 17), (.tmp 19), (.tmp 21)]), none, [((.load (some 16) (.tmp 15)), none, (some 16))]⟩⟩,
          ⟨8, 255, [], ⟨(some 23), (.eqAgg true (List.replicate 16 (.int .u8)) (.tmp 16) (.tmp 22)), none, []⟩⟩]))
        (.cond (.tmp 23)
          (.seq (.keep [4, 5] (.ops [⟨(some 4), (.move (.const (.int .i64 0))), none, []⟩,
            ⟨(some 5), (.move (.const (.int .i64 8))), none, []⟩]))
          .ret)
          .skip)))))
      (.ops [⟨(some 24), (.bin .add (.tmp 11) (.const (.int .i64 1))), none, []⟩,
        ⟨(some 11), (.move (.tmp 24)), none, []⟩])))))))))
  (.seq (.keep [4, 5] (.ops [⟨(some 25), (.load (some 19) (.tmp 2)), none, []⟩,
    ⟨(some 26), (.call (.func 55) [(.tmp 25)]), none, []⟩,
    ⟨(some 4), (.move (.tmp 26)), none, []⟩,
    ⟨(some 5), (.move (.const (.int .i64 0))), none, []⟩]))
  .ret)))
theorem t24 : trF Tryd.prog Tryd.f24 s24 = some s24 := by kernel_rfl
theorem k24 : okS s24 = true := by kernel_rfl
theorem r24 : resT Tryd.prog Tryd.f24.results.toList = some [.t 4, .t 5] := by kernel_rfl

def s25 : S :=
  (.seq (.keep [1, 2, 4] (.ops [⟨(some 2), (.box (.tmp 0)), none, []⟩,
    ⟨(some 4), (.alloc (.agg #[(.int .u8 0), (.int .u8 0), (.int .u8 0), (.int .u8 0), (.int .u8 0), (.int .u8 0), (.int .u8 0), (.int .u8 0), (.int .u8 0), (.int .u8 0), (.int .u8 0), (.int .u8 0), (.int .u8 0), (.int .u8 0), (.int .u8 0), (.int .u8 0), (.int .i64 0), (.slice none 0 0), (.slice none 0 0)])), none, []⟩,
    ⟨(some 5), (.move (.const (.int .i64 0))), none, []⟩]))
  (.seq (.keep [1, 2, 4] (.seq (.keep [1, 2, 4, 15] (.ops [⟨(some 7), (.move (.tmp 1)), none, []⟩,
    ⟨(some 8), (.bin .lss (.tmp 7) (.const (.int .i64 0))), none, []⟩,
    ⟨(some 9), (.move (.tmp 8)), none, []⟩,
    ⟨(some 10), (.move (.tmp 1)), (some (9, false)), []⟩,
    ⟨(some 11), (.fieldAddr 17 (.tmp 2)), (some (9, false)), []⟩,
    ⟨(some 12), (.load none (.tmp 11)), (some (9, false)), []⟩,
    ⟨(some 13), (.len (.tmp 12)), (some (9, false)), []⟩,
    ⟨(some 14), (.bin .gtr (.tmp 10) (.tmp 13)), (some (9, false)), []⟩,
    ⟨(some 15), (.pick (.tmp 9) (.const (.bool true)) (.tmp 14)), none, []⟩]))
  (.cond (.tmp 15)
    (.seq (.keep [4, 5] (.ops [⟨(some 16), (.build [(.int .u8 0), (.int .u8 0), (.int .u8 0), (.int .u8 0), (.int .u8 0), (.int .u8 0), (.int .u8 0), (.int .u8 0), (.int .u8 0), (.int .u8 0), (.int .u8 0), (.int .u8 0), (.int .u8 0), (.int .u8 0), (.int .u8 0), (.int .u8 0), (.int .i64 0), (.slice none 0 0), (.slice none 0 0)] []), none, []⟩,
      ⟨none, (.store 19 (.tmp 4) (.tmp 16)), none, []⟩,
      ⟨(some 5), (.move (.const (.int .i64 1))), none, []⟩]))
    .ret)
    .skip)))
  (.seq (.keep [1, 2, 4, 6] (.ops [⟨(some 6), (.move (.const (.int .i64 0))), none, []⟩]))
  (.seq (.keep [1, 2, 4, 6] (.block 0
    (.loop
      (.keep [1, 2, 4, 6] (.seq (.keep [1, 2, 4, 6] (.seq (.keep [1, 2, 4, 6, 31] (.ops [⟨(some 17), (.move (.tmp 6)), none, []⟩,
        ⟨(some 18), (.fieldAddr 18 (.tmp 2)), none, []⟩,
        ⟨(some 19), (.load none (.tmp 18)), none, []⟩,
        ⟨(some 20), (.len (.tmp 19)), none, []⟩,
        ⟨(some 21), (.bin .lss (.tmp 17) (.tmp 20)), none, []⟩,
        ⟨(some 22), (.move (.tmp 21)), none, []⟩,
        ⟨(some 23), (.fieldAddr 18 (.tmp 2)), (some (22, true)), []⟩,
        ⟨(some 24), (.load none (.tmp 23)), (some (22, true)), []⟩,
        ⟨(some 25), (.move (.tmp 6)), (some (22, true)), []⟩,
        ⟨(some 26), (.indexAddr 33 (.tmp 24) (.tmp 25)), (some (22, true)), []⟩,
        ⟨(some 27), (.fieldAddr 0 (.tmp 26)), (some (22, true)), []⟩,
        ⟨(some 28), (.load none (.tmp 27)), (some (22, true)), []⟩,
        ⟨(some 29), (.move (.tmp 1)), (some (22, true)), []⟩,
        ⟨(some 30), (.bin .leq (.tmp 28) (.tmp 29)), (some (22, true)), []⟩,
        ⟨(some 31), (.pick (.tmp 22) (.tmp 30) (.const (.bool false))), none, []⟩]))
      (.cond (.tmp 31)
        .skip
        (.exit 0))))
      (.block 1
        (.ops [⟨(some 32), (.move (.tmp 6)), none, []⟩,
          ⟨(some 33), (.bin .add (.tmp 32) (.const (.int .i64 1))), none, []⟩,
          ⟨(some 6), (.move (.tmp 33)), none, []⟩])))))))
  (.seq (.keep [2, 4] (.draw [0, 1, 0, 0, 15, 0, 32, 0, 0, 480, 127, 1151, 4095, 8191] [⟨0, 0, [], ⟨(some 34), (.fieldAddr 17 (.tmp 2)), none, []⟩⟩,
    ⟨1, 1, [], ⟨(some 35), (.load none (.tmp 34)), none, []⟩⟩,
    ⟨2, 0, [], ⟨(some 36), (.move (.tmp 1)), none, []⟩⟩,
    ⟨3, 0, [], ⟨(some 37), (.move (.tmp 1)), none, []⟩⟩,
    ⟨4, 15, [], ⟨(some 38), (.slice 5 (.tmp 35) none (some (.tmp 36)) (some (.tmp 37))), none, []⟩⟩,
    ⟨5, 0, [], ⟨(some 39), (.fieldAddr 18 (.tmp 2)), none, []⟩⟩,
    ⟨6, 32, [], ⟨(some 40), (.load none (.tmp 39)), none, []⟩⟩,
    ⟨7, 0, [], ⟨(some 41), (.move (.tmp 6)), none, []⟩⟩,
    ⟨8, 0, [], ⟨(some 42), (.move (.tmp 6)), none, []⟩⟩,
    ⟨9, 480, [], ⟨(some 43), (.slice 33 (.tmp 40) none (some (.tmp 41)) (some (.tmp 42))), none, []⟩⟩,
    ⟨10, 127, [], ⟨(some 44), (.fieldAddr 17 (.tmp 2)), none, []⟩⟩,
    ⟨11, 1151, [], ⟨none, (.store 1 (.tmp 44) (.tmp 38)), none, []⟩⟩,
    ⟨12, 4095, [], ⟨(some 45), (.fieldAddr 18 (.tmp 2)), none, []⟩⟩,
    ⟨13, 8191, [], ⟨none, (.store 1 (.tmp 45) (.tmp 43)), none, []⟩⟩]))
  (.seq (.keep [4, 5] (.ops [⟨(some 46), (.load (some 19) (.tmp 2)), none, []⟩,
    ⟨none, (.store 19 (.tmp 4) (.tmp 46)), none, []⟩,
    ⟨(some 5), (.move (.const (.int .i64 0))), none, []⟩]))
  .ret))))))
theorem t25 : trF Tryd.prog Tryd.f25 s25 = some s25 := by kernel_rfl
theorem k25 : okS s25 = true := by kernel_rfl
theorem r25 : resT Tryd.prog Tryd.f25.results.toList = some [.c 4 (some 19), .t 5] := by kernel_rfl

def s26 : S :=
  (.seq (.keep [2, 3, 4, 5] (.ops [⟨(some 2), (.box (.tmp 0)), none, []⟩,
    ⟨(some 3), (.box (.tmp 1)), none, []⟩,
    ⟨(some 4), (.alloc (.agg (List.replicate 16 (.int .u8 0)).toArray)), none, []⟩,
    ⟨(some 5), (.alloc (.int .i64 0)), none, []⟩]))
  (.seq (.keep [4, 5] (.seq (.keep [3, 4, 5, 9] (.ops [⟨(some 8), (.load (some 19) (.tmp 2)), none, []⟩,
    ⟨(some 9), (.call (.func 46) [(.tmp 8)]), none, []⟩]))
  (.block 0
    (.range (.tmp 9) #[10, 11]
      (.keep [3, 4, 5, 6, 7] (.seq (.keep [3, 4, 5, 6, 11] (.ops [⟨(some 6), (.move (.tmp 10)), none, []⟩]))
      (.ops [⟨(some 7), (.alloc (.agg (List.replicate 16 (.int .u8 0)).toArray)), none, []⟩,
        ⟨none, (.store 16 (.tmp 7) (.tmp 11)), none, []⟩])))
      (.block 1
        (.seq (.keep [4, 5, 7, 14] (.ops [⟨(some 12), (.move (.tmp 6)), none, []⟩,
          ⟨(some 13), (.load none (.tmp 3)), none, []⟩,
          ⟨(some 14), (.bin .eql (.tmp 12) (.tmp 13)), none, []⟩]))
        (.cond (.tmp 14)
          (.seq (.keep [] (.ops [⟨(some 15), (.load (some 16) (.tmp 7)), none, []⟩,
            ⟨none, (.store 16 (.tmp 4) (.tmp 15)), none, []⟩,
            ⟨none, (.store 1 (.tmp 5) (.const (.int .i64 0))), none, []⟩]))
          .ret)
          .skip)))))))
  (.seq (.keep [4, 5] (.ops [⟨(some 16), (.build (List.replicate 16 (.int .u8 0)) []), none, []⟩,
    ⟨none, (.store 16 (.tmp 4) (.tmp 16)), none, []⟩,
    ⟨none, (.store 1 (.tmp 5) (.const (.int .i64 1))), none, []⟩]))
  .ret)))
theorem t26 : trF Tryd.prog Tryd.f26 s26 = some s26 := by kernel_rfl
theorem k26 : okS s26 = true := by kernel_rfl
theorem r26 : resT Tryd.prog Tryd.f26.results.toList = some [.c 4 (some 16), .c 5 none] := by kernel_rfl

def s27 : S :=
  (.seq (.keep [2, 3, 4] (.ops [⟨(some 2), (.box (.tmp 0)), none, []⟩,
    ⟨(some 3), (.box (.tmp 1)), none, []⟩,
    ⟨(some 4), (.alloc (.agg #[(.int .u8 0), (.int .u8 0), (.int .u8 0), (.int .u8 0), (.int .u8 0), (.int .u8 0), (.int .u8 0), (.int .u8 0), (.int .u8 0), (.int .u8 0), (.int .u8 0), (.int .u8 0), (.int .u8 0), (.int .u8 0), (.int .u8 0), (.int .u8 0), (.int .i64 0), (.slice none 0 0), (.slice none 0 0), (.int .i64 0), (.int .i64 0)])), none, []⟩]))
  (.seq (.keep [2, 3, 4] (.seq (.keep [2, 3, 4, 9] (.ops [⟨(some 6), (.fieldAddr 17 (.tmp 2)), none, []⟩,
    ⟨(some 7), (.load none (.tmp 6)), none, []⟩,
    ⟨(some 8), (.len (.tmp 7)), none, []⟩,
    ⟨(some 9), (.bin .geq (.tmp 8) (.const (.int .i64 4096))), none, []⟩]))
  (.cond (.tmp 9)
    (.seq (.keep [4] (.ops [⟨(some 10), (.load (some 19) (.tmp 2)), none, []⟩,
      ⟨(some 11), (.build [(.int .u8 0), (.int .u8 0), (.int .u8 0), (.int .u8 0), (.int .u8 0), (.int .u8 0), (.int .u8 0), (.int .u8 0), (.int .u8 0), (.int .u8 0), (.int .u8 0), (.int .u8 0), (.int .u8 0), (.int .u8 0), (.int .u8 0), (.int .u8 0), (.int .i64 0), (.slice none 0 0), (.slice none 0 0), (.int .i64 0), (.int .i64 0)] [(0, 19, (.tmp 10)), (20, 1, (.const (.int .i64 2)))]), none, []⟩,
      ⟨none, (.store 21 (.tmp 4) (.tmp 11)), none, []⟩]))
    .ret)
    .skip)))
  (.seq (.keep [2, 3, 4, 5] (.ops [⟨(some 12), (.load (some 5) (.tmp 3)), none, []⟩,
    ⟨(some 13), (.fieldAddr 16 (.tmp 2)), none, []⟩,
    ⟨(some 14), (.load none (.tmp 13)), none, []⟩,
    ⟨(some 15), (.call (.func 14) [(.tmp 12), (.tmp 14)]), none, []⟩,
    ⟨(some 5), (.move (.tmp 15)), none, []⟩]))
  (.seq (.keep [2, 3, 4] (.seq (.keep [2, 3, 4, 27] (.draw [0, 1, 3, 7, 15, 7, 39, 7, 135, 487, 1023, 2047] [⟨0, 0, [], ⟨(some 16), (.move (.tmp 5)), none, []⟩⟩,
    ⟨1, 1, [], ⟨(some 17), (.un .not (.tmp 16)), none, []⟩⟩,
    ⟨2, 3, [], ⟨(some 18), (.move (.tmp 17)), none, []⟩⟩,
    ⟨3, 7, [], ⟨(some 19), (.fieldAddr 2 (.tmp 3)), (some (18, false)), []⟩⟩,
    ⟨4, 15, [], ⟨(some 20), (.load none (.tmp 19)), (some (18, false)), []⟩⟩,
    ⟨5, 7, [], ⟨(some 21), (.fieldAddr 17 (.tmp 2)), (some (18, false)), []⟩⟩,
    ⟨6, 39, [], ⟨(some 22), (.load none (.tmp 21)), (some (18, false)), []⟩⟩,
    ⟨7, 7, [], ⟨(some 23), (.fieldAddr 1 (.tmp 3)), (some (18, false)), []⟩⟩,
    ⟨8, 135, [], ⟨(some 24), (.load none (.tmp 23)), (some (18, false)), []⟩⟩,
    ⟨9, 487, [4], ⟨(some 25), (.call (.func 47) [(.tmp 22), (.tmp 24)]), (some (18, false)), [((.load none (.tmp 19)), (some (18, false)), (some 20))]⟩⟩,
    ⟨10, 1023, [], ⟨(some 26), (.bin .neq (.tmp 20) (.tmp 25)), (some (18, false)), []⟩⟩,
    ⟨11, 2047, [], ⟨(some 27), (.pick (.tmp 18) (.const (.bool true)) (.tmp 26)), none, []⟩⟩]))
  (.cond (.tmp 27)
    (.seq (.keep [4] (.ops [⟨(some 28), (.load (some 19) (.tmp 2)), none, []⟩,
      ⟨(some 29), (.build [(.int .u8 0), (.int .u8 0), (.int .u8 0), (.int .u8 0), (.int .u8 0), (.int .u8 0), (.int .u8 0), (.int .u8 0), (.int .u8 0), (.int .u8 0), (.int .u8 0), (.int .u8 0), (.int .u8 0), (.int .u8 0), (.int .u8 0), (.int .u8 0), (.int .i64 0), (.slice none 0 0), (.slice none 0 0), (.int .i64 0), (.int .i64 0)] [(0, 19, (.tmp 28)), (20, 1, (.const (.int .i64 3)))]), none, []⟩,
      ⟨none, (.store 21 (.tmp 4) (.tmp 29)), none, []⟩]))
    .ret)
    .skip)))
  (.seq (.keep [2, 4] (.draw [0, 0, 2, 7, 0, 16, 63, 127, 255] [⟨0, 0, [], ⟨(some 30), (.buildSlice 0 [] []), none, []⟩⟩,
    ⟨1, 0, [], ⟨(some 31), (.fieldAddr 17 (.tmp 2)), none, []⟩⟩,
    ⟨2, 2, [], ⟨(some 32), (.load none (.tmp 31)), none, []⟩⟩,
    ⟨4, 0, [], ⟨(some 34), (.load (some 5) (.tmp 3)), none, []⟩⟩,
    ⟨5, 16, [], ⟨(some 35), (.buildSlice 1 [(.int .i64 0), (.int .i64 0), (.int .i64 0), (.int .i64 0), (.string ⟨#[]⟩)] [(0, 5, (.tmp 34))]), none, []⟩⟩,
    ⟨3, 7, [4], ⟨(some 33), (.append 5 48 (.tmp 30) (.tmp 32)), none, [((.load (some 5) (.tmp 3)), none, (some 34))]⟩⟩,
    ⟨6, 63, [], ⟨(some 36), (.append 5 48 (.tmp 33) (.tmp 35)), none, []⟩⟩,
    ⟨7, 127, [], ⟨(some 37), (.fieldAddr 17 (.tmp 2)), none, []⟩⟩,
    ⟨8, 255, [], ⟨none, (.store 1 (.tmp 37) (.tmp 36)), none, []⟩⟩]))
  (.seq (.keep [4] (.ops [⟨(some 38), (.load (some 19) (.tmp 2)), none, []⟩,
    ⟨(some 39), (.build [(.int .u8 0), (.int .u8 0), (.int .u8 0), (.int .u8 0), (.int .u8 0), (.int .u8 0), (.int .u8 0), (.int .u8 0), (.int .u8 0), (.int .u8 0), (.int .u8 0), (.int .u8 0), (.int .u8 0), (.int .u8 0), (.int .u8 0), (.int .u8 0), (.int .i64 0), (.slice none 0 0), (.slice none 0 0), (.int .i64 0), (.int .i64 0)] [(0, 19, (.tmp 38))]), none, []⟩,
    ⟨none, (.store 21 (.tmp 4) (.tmp 39)), none, []⟩]))
  .ret))))))
theorem t27 : trF Tryd.prog Tryd.f27 s27 = some s27 := by kernel_rfl
theorem k27 : okS s27 = true := by kernel_rfl
theorem r27 : resT Tryd.prog Tryd.f27.results.toList = some [.c 4 (some 21)] := by kernel_rfl

def s28 : S :=
  (.seq (.keep [1, 2, 4] (.ops [⟨(some 2), (.box (.tmp 0)), none, []⟩,
    ⟨(some 4), (.alloc (.agg #[(.int .u8 0), (.int .u8 0), (.int .u8 0), (.int .u8 0), (.int .u8 0), (.int .u8 0), (.int .u8 0), (.int .u8 0), (.int .u8 0), (.int .u8 0), (.int .u8 0), (.int .u8 0), (.int .u8 0), (.int .u8 0), (.int .u8 0), (.int .u8 0), (.int .i64 0), (.slice none 0 0), (.slice none 0 0), (.int .i64 0), (.int .i64 0)])), none, []⟩]))
  (.seq (.keep [1, 2, 4, 5] (.ops [⟨(some 7), (.fieldAddr 17 (.tmp 2)), none, []⟩,
    ⟨(some 8), (.load none (.tmp 7)), none, []⟩,
    ⟨(some 9), (.len (.tmp 8)), none, []⟩,
    ⟨(some 5), (.move (.tmp 9)), none, []⟩]))
  (.seq (.keep [1, 2, 4, 5] (.seq (.keep [1, 2, 4, 5, 13] (.ops [⟨(some 10), (.move (.tmp 5)), none, []⟩,
    ⟨(some 11), (.load (some 19) (.tmp 2)), none, []⟩,
    ⟨(some 12), (.call (.func 57) [(.tmp 11)]), none, []⟩,
    ⟨(some 13), (.bin .eql (.tmp 10) (.tmp 12)), none, []⟩]))
  (.cond (.tmp 13)
    (.seq (.keep [4] (.ops [⟨(some 14), (.build [(.int .u8 0), (.int .u8 0), (.int .u8 0), (.int .u8 0), (.int .u8 0), (.int .u8 0), (.int .u8 0), (.int .u8 0), (.int .u8 0), (.int .u8 0), (.int .u8 0), (.int .u8 0), (.int .u8 0), (.int .u8 0), (.int .u8 0), (.int .u8 0), (.int .i64 0), (.slice none 0 0), (.slice none 0 0), (.int .i64 0), (.int .i64 0)] [(20, 1, (.const (.int .i64 4)))]), none, []⟩,
      ⟨none, (.store 21 (.tmp 4) (.tmp 14)), none, []⟩]))
    .ret)
    .skip)))
  (.seq (.keep [1, 2, 4, 5] (.seq (.keep [1, 2, 4, 5, 18] (.ops [⟨(some 15), (.fieldAddr 18 (.tmp 2)), none, []⟩,
    ⟨(some 16), (.load none (.tmp 15)), none, []⟩,
    ⟨(some 17), (.len (.tmp 16)), none, []⟩,
    ⟨(some 18), (.bin .geq (.tmp 17) (.const (.int .i64 256))), none, []⟩]))
  (.cond (.tmp 18)
    (.seq (.keep [4] (.ops [⟨(some 19), (.build [(.int .u8 0), (.int .u8 0), (.int .u8 0), (.int .u8 0), (.int .u8 0), (.int .u8 0), (.int .u8 0), (.int .u8 0), (.int .u8 0), (.int .u8 0), (.int .u8 0), (.int .u8 0), (.int .u8 0), (.int .u8 0), (.int .u8 0), (.int .u8 0), (.int .i64 0), (.slice none 0 0), (.slice none 0 0), (.int .i64 0), (.int .i64 0)] [(20, 1, (.const (.int .i64 2)))]), none, []⟩,
      ⟨none, (.store 21 (.tmp 4) (.tmp 19)), none, []⟩]))
    .ret)
    .skip)))
  (.seq (.keep [1, 2, 4, 5, 6] (.ops [⟨(some 20), (.load (some 19) (.tmp 2)), none, []⟩,
    ⟨(some 21), (.move (.tmp 5)), none, []⟩,
    ⟨(some 22), (.call (.func 31) [(.tmp 20), (.tmp 21)]), none, []⟩,
    ⟨(some 6), (.alloc (.agg (List.replicate 16 (.int .u8 0)).toArray)), none, []⟩,
    ⟨none, (.store 16 (.tmp 6) (.tmp 22)), none, []⟩]))
  (.seq (.keep [2, 4] (.draw [0, 0, 2, 7, 0, 0, 0, 0, 0, 463, 1023, 2047, 4095, 8191, 16383] [⟨0, 0, [], ⟨(some 23), (.buildSlice 0 [] []), none, []⟩⟩,
    ⟨1, 0, [], ⟨(some 24), (.fieldAddr 18 (.tmp 2)), none, []⟩⟩,
    ⟨2, 2, [], ⟨(some 25), (.load none (.tmp 24)), none, []⟩⟩,
    ⟨4, 0, [], ⟨(some 27), (.move (.tmp 5)), none, []⟩⟩,
    ⟨5, 0, [], ⟨(some 28), (.load (some 16) (.tmp 6)), none, []⟩⟩,
    ⟨6, 0, [], ⟨(some 29), (.move (.tmp 1)), none, []⟩⟩,
    ⟨7, 0, [], ⟨(some 30), (.load (some 16) (.tmp 6)), none, []⟩⟩,
    ⟨8, 0, [], ⟨(some 31), (.move (.tmp 5)), none, []⟩⟩,
    ⟨3, 7, [5, 7], ⟨(some 26), (.append 33 40 (.tmp 23) (.tmp 25)), none, [((.load (some 16) (.tmp 6)), none, (some 28)), ((.load (some 16) (.tmp 6)), none, (some 30))]⟩⟩,
    ⟨9, 463, [5], ⟨(some 32), (.call (.func 58) [(.tmp 29), (.tmp 30), (.tmp 31)]), none, [((.load (some 16) (.tmp 6)), none, (some 28))]⟩⟩,
    ⟨10, 1023, [], ⟨(some 33), (.build [(.int .i64 0), (.int .u8 0), (.int .u8 0), (.int .u8 0), (.int .u8 0), (.int .u8 0), (.int .u8 0), (.int .u8 0), (.int .u8 0), (.int .u8 0), (.int .u8 0), (.int .u8 0), (.int .u8 0), (.int .u8 0), (.int .u8 0), (.int .u8 0), (.int .u8 0), (.int .u8 0), (.int .u8 0), (.int .u8 0), (.int .u8 0), (.int .u8 0), (.int .u8 0), (.int .u8 0), (.int .u8 0), (.int .u8 0), (.int .u8 0), (.int .u8 0), (.int .u8 0), (.int .u8 0), (.int .u8 0), (.int .u8 0), (.int .u8 0)] [(0, 1, (.tmp 27)), (1, 16, (.tmp 28)), (17, 16, (.tmp 32))]), none, []⟩⟩,
    ⟨11, 2047, [], ⟨(some 34), (.buildSlice 1 [(.int .i64 0), (.int .u8 0), (.int .u8 0), (.int .u8 0), (.int .u8 0), (.int .u8 0), (.int .u8 0), (.int .u8 0), (.int .u8 0), (.int .u8 0), (.int .u8 0), (.int .u8 0), (.int .u8 0), (.int .u8 0), (.int .u8 0), (.int .u8 0), (.int .u8 0), (.int .u8 0), (.int .u8 0), (.int .u8 0), (.int .u8 0), (.int .u8 0), (.int .u8 0), (.int .u8 0), (.int .u8 0), (.int .u8 0), (.int .u8 0), (.int .u8 0), (.int .u8 0), (.int .u8 0), (.int .u8 0), (.int .u8 0), (.int .u8 0)] [(0, 33, (.tmp 33))]), none, []⟩⟩,
    ⟨12, 4095, [], ⟨(some 35), (.append 33 40 (.tmp 26) (.tmp 34)), none, []⟩⟩,
    ⟨13, 8191, [], ⟨(some 36), (.fieldAddr 18 (.tmp 2)), none, []⟩⟩,
    ⟨14, 16383, [], ⟨none, (.store 1 (.tmp 36) (.tmp 35)), none, []⟩⟩]))
  (.seq (.keep [4] (.ops [⟨(some 37), (.load (some 19) (.tmp 2)), none, []⟩,
    ⟨(some 38), (.build [(.int .u8 0), (.int .u8 0), (.int .u8 0), (.int .u8 0), (.int .u8 0), (.int .u8 0), (.int .u8 0), (.int .u8 0), (.int .u8 0), (.int .u8 0), (.int .u8 0), (.int .u8 0), (.int .u8 0), (.int .u8 0), (.int .u8 0), (.int .u8 0), (.int .i64 0), (.slice none 0 0), (.slice none 0 0), (.int .i64 0), (.int .i64 0)] [(0, 19, (.tmp 37))]), none, []⟩,
    ⟨none, (.store 21 (.tmp 4) (.tmp 38)), none, []⟩]))
  .ret)))))))
theorem t28 : trF Tryd.prog Tryd.f28 s28 = some s28 := by kernel_rfl
theorem k28 : okS s28 = true := by kernel_rfl
theorem r28 : resT Tryd.prog Tryd.f28.results.toList = some [.c 4 (some 21)] := by kernel_rfl

def s29 : S :=
  (.seq (.keep [1, 2, 4] (.ops [⟨(some 2), (.box (.tmp 0)), none, []⟩,
    ⟨(some 4), (.alloc (.agg #[(.int .u8 0), (.int .u8 0), (.int .u8 0), (.int .u8 0), (.int .u8 0), (.int .u8 0), (.int .u8 0), (.int .u8 0), (.int .u8 0), (.int .u8 0), (.int .u8 0), (.int .u8 0), (.int .u8 0), (.int .u8 0), (.int .u8 0), (.int .u8 0), (.int .i64 0), (.slice none 0 0), (.slice none 0 0), (.int .i64 0), (.int .i64 0)])), none, []⟩]))
  (.seq (.keep [2, 4] (.seq (.keep [1, 2, 4, 5] (.ops [⟨(some 5), (.move (.const (.int .i64 0))), none, []⟩]))
  (.block 0
    (.loop
      (.keep [1, 2, 4, 5] (.seq (.keep [1, 2, 4, 5] (.seq (.keep [1, 2, 4, 5, 11] (.ops [⟨(some 7), (.move (.tmp 5)), none, []⟩,
        ⟨(some 8), (.fieldAddr 18 (.tmp 2)), none, []⟩,
        ⟨(some 9), (.load none (.tmp 8)), none, []⟩,
        ⟨(some 10), (.len (.tmp 9)), none, []⟩,
        ⟨(some 11), (.bin .lss (.tmp 7) (.tmp 10)), none, []⟩]))
      (.cond (.tmp 11)
        .skip
        (.exit 0))))
      (.seq (.keep [1, 2, 4, 5] (.block 1
        (.seq (.keep [1, 2, 4, 5, 6] (.ops [⟨(some 14), (.fieldAddr 18 (.tmp 2)), none, []⟩,
          ⟨(some 15), (.load none (.tmp 14)), none, []⟩,
          ⟨(some 16), (.move (.tmp 5)), none, []⟩,
          ⟨(some 17), (.indexAddr 33 (.tmp 15) (.tmp 16)), none, []⟩,
          ⟨(some 18), (.load (some 33) (.tmp 17)), none, []⟩,
          ⟨(some 6), (.alloc (.agg #[(.int .i64 0), (.int .u8 0), (.int .u8 0), (.int .u8 0), (.int .u8 0), (.int .u8 0), (.int .u8 0), (.int .u8 0), (.int .u8 0), (.int .u8 0), (.int .u8 0), (.int .u8 0), (.int .u8 0), (.int .u8 0), (.int .u8 0), (.int .u8 0), (.int .u8 0), (.int .u8 0), (.int .u8 0), (.int .u8 0), (.int .u8 0), (.int .u8 0), (.int .u8 0), (.int .u8 0), (.int .u8 0), (.int .u8 0), (.int .u8 0), (.int .u8 0), (.int .u8 0), (.int .u8 0), (.int .u8 0), (.int .u8 0), (.int .u8 0)])), none, []⟩,
          ⟨none, (.store 33 (.tmp 6) (.tmp 18)), none, []⟩]))
        (.seq (.keep [1, 2, 4, 5, 27] (.draw [0, 1, 0, 0, 8, 0, 32, 124, 255] [⟨0, 0, [], ⟨(some 19), (.fieldAddr 17 (.tmp 6)), none, []⟩⟩,
          ⟨1, 1, [], ⟨(some 20), (.load (some 16) (.tmp 19)), none, []⟩⟩,
          ⟨2, 0, [], ⟨(some 21), (.move (.tmp 1)), none, []⟩⟩,
          ⟨3, 0, [], ⟨(some 22), (.fieldAddr 1 (.tmp 6)), none, []⟩⟩,
          ⟨4, 8, [], ⟨(some 23), (.load (some 16) (.tmp 22)), none, []⟩⟩,
          ⟨5, 0, [], ⟨(some 24), (.fieldAddr 0 (.tmp 6)), none, []⟩⟩,
          ⟨6, 32, [], ⟨(some 25), (.load none (.tmp 24)), none, []⟩⟩,
          ⟨7, 124, [1], ⟨(some 26), (.call (.func 58) [(.tmp 21), (.tmp 23), (.tmp 25)]), none, [((.load (some 16) (.tmp 19)), none, (some 20))]⟩⟩,
          ⟨8, 255, [], ⟨(some 27), (.eqAgg true (List.replicate 16 (.int .u8)) (.tmp 20) (.tmp 26)), none, []⟩⟩]))
        (.cond (.tmp 27)
          (.seq (.keep [4] (.ops [⟨(some 28), (.build [(.int .u8 0), (.int .u8 0), (.int .u8 0), (.int .u8 0), (.int .u8 0), (.int .u8 0), (.int .u8 0), (.int .u8 0), (.int .u8 0), (.int .u8 0), (.int .u8 0), (.int .u8 0), (.int .u8 0), (.int .u8 0), (.int .u8 0), (.int .u8 0), (.int .i64 0), (.slice none 0 0), (.slice none 0 0), (.int .i64 0), (.int .i64 0)] [(20, 1, (.const (.int .i64 8)))]), none, []⟩,
            ⟨none, (.store 21 (.tmp 4) (.tmp 28)), none, []⟩]))
          .ret)
          .skip)))))
      (.ops [⟨(some 12), (.move (.tmp 5)), none, []⟩,
        ⟨(some 13), (.bin .add (.tmp 12) (.const (.int .i64 1))), none, []⟩,
        ⟨(some 5), (.move (.tmp 13)), none, []⟩]))))))))
  (.seq (.keep [4] (.ops [⟨(some 29), (.load (some 19) (.tmp 2)), none, []⟩,
    ⟨(some 30), (.call (.func 57) [(.tmp 29)]), none, []⟩,
    ⟨(some 31), (.build [(.int .u8 0), (.int .u8 0), (.int .u8 0), (.int .u8 0), (.int .u8 0), (.int .u8 0), (.int .u8 0), (.int .u8 0), (.int .u8 0), (.int .u8 0), (.int .u8 0), (.int .u8 0), (.int .u8 0), (.int .u8 0), (.int .u8 0), (.int .u8 0), (.int .i64 0), (.slice none 0 0), (.slice none 0 0), (.int .i64 0), (.int .i64 0)] [(19, 1, (.tmp 30))]), none, []⟩,
    ⟨none, (.store 21 (.tmp 4) (.tmp 31)), none, []⟩]))
  .ret)))
theorem t29 : trF Tryd.prog Tryd.f29 s29 = some s29 := by kernel_rfl
theorem k29 : okS s29 = true := by kernel_rfl
theorem r29 : resT Tryd.prog Tryd.f29.results.toList = some [.c 4 (some 21)] := by kernel_rfl

def s30 : S :=
  (.seq (.keep [1, 2, 4] (.ops [⟨(some 2), (.box (.tmp 0)), none, []⟩,
    ⟨(some 4), (.alloc (.agg #[(.int .u8 0), (.int .u8 0), (.int .u8 0), (.int .u8 0), (.int .u8 0), (.int .u8 0), (.int .u8 0), (.int .u8 0), (.int .u8 0), (.int .u8 0), (.int .u8 0), (.int .u8 0), (.int .u8 0), (.int .u8 0), (.int .u8 0), (.int .u8 0), (.int .i64 0), (.slice none 0 0), (.slice none 0 0), (.int .i64 0), (.int .i64 0)])), none, []⟩]))
  (.seq (.keep [1, 2, 4] (.seq (.keep [1, 2, 4, 15] (.ops [⟨(some 7), (.move (.tmp 1)), none, []⟩,
    ⟨(some 8), (.bin .lss (.tmp 7) (.const (.int .i64 0))), none, []⟩,
    ⟨(some 9), (.move (.tmp 8)), none, []⟩,
    ⟨(some 10), (.move (.tmp 1)), (some (9, false)), []⟩,
    ⟨(some 11), (.fieldAddr 17 (.tmp 2)), (some (9, false)), []⟩,
    ⟨(some 12), (.load none (.tmp 11)), (some (9, false)), []⟩,
    ⟨(some 13), (.len (.tmp 12)), (some (9, false)), []⟩,
    ⟨(some 14), (.bin .gtr (.tmp 10) (.tmp 13)), (some (9, false)), []⟩,
    ⟨(some 15), (.pick (.tmp 9) (.const (.bool true)) (.tmp 14)), none, []⟩]))
  (.cond (.tmp 15)
    (.seq (.keep [4] (.ops [⟨(some 16), (.build [(.int .u8 0), (.int .u8 0), (.int .u8 0), (.int .u8 0), (.int .u8 0), (.int .u8 0), (.int .u8 0), (.int .u8 0), (.int .u8 0), (.int .u8 0), (.int .u8 0), (.int .u8 0), (.int .u8 0), (.int .u8 0), (.int .u8 0), (.int .u8 0), (.int .i64 0), (.slice none 0 0), (.slice none 0 0), (.int .i64 0), (.int .i64 0)] [(20, 1, (.const (.int .i64 1)))]), none, []⟩,
      ⟨none, (.store 21 (.tmp 4) (.tmp 16)), none, []⟩]))
    .ret)
    .skip)))
  (.seq (.keep [1, 2, 4, 5] (.draw [0, 1, 0, 4, 0, 16, 0, 112, 255, 0, 1023] [⟨0, 0, [], ⟨(some 17), (.fieldAddr 0 (.tmp 2)), none, []⟩⟩,
    ⟨1, 1, [], ⟨(some 18), (.load (some 16) (.tmp 17)), none, []⟩⟩,
    ⟨2, 0, [], ⟨(some 19), (.fieldAddr 16 (.tmp 2)), none, []⟩⟩,
    ⟨3, 4, [], ⟨(some 20), (.load none (.tmp 19)), none, []⟩⟩,
    ⟨4, 0, [], ⟨(some 21), (.fieldAddr 17 (.tmp 2)), none, []⟩⟩,
    ⟨5, 16, [], ⟨(some 22), (.load none (.tmp 21)), none, []⟩⟩,
    ⟨6, 0, [], ⟨(some 23), (.move (.tmp 1)), none, []⟩⟩,
    ⟨7, 112, [], ⟨(some 24), (.slice 5 (.tmp 22) none (some (.tmp 23)) none), none, []⟩⟩,
    ⟨8, 255, [], ⟨(some 25), (.build [(.int .u8 0), (.int .u8 0), (.int .u8 0), (.int .u8 0), (.int .u8 0), (.int .u8 0), (.int .u8 0), (.int .u8 0), (.int .u8 0), (.int .u8 0), (.int .u8 0), (.int .u8 0), (.int .u8 0), (.int .u8 0), (.int .u8 0), (.int .u8 0), (.int .i64 0), (.slice none 0 0), (.slice none 0 0)] [(0, 16, (.tmp 18)), (16, 1, (.tmp 20)), (17, 1, (.tmp 24))]), none, []⟩⟩,
    ⟨9, 0, [], ⟨(some 5), (.alloc (.agg #[(.int .u8 0), (.int .u8 0), (.int .u8 0), (.int .u8 0), (.int .u8 0), (.int .u8 0), (.int .u8 0), (.int .u8 0), (.int .u8 0), (.int .u8 0), (.int .u8 0), (.int .u8 0), (.int .u8 0), (.int .u8 0), (.int .u8 0), (.int .u8 0), (.int .i64 0), (.slice none 0 0), (.slice none 0 0)])), none, []⟩⟩,
    ⟨10, 1023, [], ⟨none, (.store 19 (.tmp 5) (.tmp 25)), none, []⟩⟩]))
  (.seq (.keep [4, 5] (.seq (.keep [1, 2, 4, 5, 6] (.ops [⟨(some 6), (.move (.const (.int .i64 0))), none, []⟩]))
  (.block 0
    (.loop
      (.keep [1, 2, 4, 5, 6] (.seq (.keep [1, 2, 4, 5, 6] (.seq (.keep [1, 2, 4, 5, 6, 30] (.ops [⟨(some 26), (.move (.tmp 6)), none, []⟩,
        ⟨(some 27), (.fieldAddr 18 (.tmp 2)), none, []⟩,
        ⟨(some 28), (.load none (.tmp 27)), none, []⟩,
        ⟨(some 29), (.len (.tmp 28)), none, []⟩,
        ⟨(some 30), (.bin .lss (.tmp 26) (.tmp 29)), none, []⟩]))
      (.cond (.tmp 30)
        .skip
        (.exit 0))))
      (.seq (.keep [1, 2, 4, 5, 6] (.block 1
        (.seq (.keep [1, 2, 4, 5, 6, 40] (.ops [⟨(some 33), (.fieldAddr 18 (.tmp 2)), none, []⟩,
          ⟨(some 34), (.load none (.tmp 33)), none, []⟩,
          ⟨(some 35), (.move (.tmp 6)), none, []⟩,
          ⟨(some 36), (.indexAddr 33 (.tmp 34) (.tmp 35)), none, []⟩,
          ⟨(some 37), (.fieldAddr 0 (.tmp 36)), none, []⟩,
          ⟨(some 38), (.load none (.tmp 37)), none, []⟩,
          ⟨(some 39), (.move (.tmp 1)), none, []⟩,
          ⟨(some 40), (.bin .leq (.tmp 38) (.tmp 39)), none, []⟩]))
        (.cond (.tmp 40)
          (.draw [0, 1, 0, 4, 0, 28, 60, 124, 255, 511, 1023] [⟨0, 0, [], ⟨(some 41), (.fieldAddr 18 (.tmp 5)), none, []⟩⟩,
            ⟨1, 1, [], ⟨(some 42), (.load none (.tmp 41)), none, []⟩⟩,
            ⟨2, 0, [], ⟨(some 43), (.fieldAddr 18 (.tmp 2)), none, []⟩⟩,
            ⟨3, 4, [], ⟨(some 44), (.load none (.tmp 43)), none, []⟩⟩,
            ⟨4, 0, [], ⟨(some 45), (.move (.tmp 6)), none, []⟩⟩,
            ⟨5, 28, [], ⟨(some 46), (.indexAddr 33 (.tmp 44) (.tmp 45)), none, []⟩⟩,
            ⟨6, 60, [], ⟨(some 47), (.load (some 33) (.tmp 46)), none, []⟩⟩,
            ⟨7, 124, [], ⟨(some 48), (.buildSlice 1 [(.int .i64 0), (.int .u8 0), (.int .u8 0), (.int .u8 0), (.int .u8 0), (.int .u8 0), (.int .u8 0), (.int .u8 0), (.int .u8 0), (.int .u8 0), (.int .u8 0), (.int .u8 0), (.int .u8 0), (.int .u8 0), (.int .u8 0), (.int .u8 0), (.int .u8 0), (.int .u8 0), (.int .u8 0), (.int .u8 0), (.int .u8 0), (.int .u8 0), (.int .u8 0), (.int .u8 0), (.int .u8 0), (.int .u8 0), (.int .u8 0), (.int .u8 0), (.int .u8 0), (.int .u8 0), (.int .u8 0), (.int .u8 0), (.int .u8 0)] [(0, 33, (.tmp 47))]), none, []⟩⟩,
            ⟨8, 255, [], ⟨(some 49), (.append 33 40 (.tmp 42) (.tmp 48)), none, []⟩⟩,
            ⟨9, 511, [], ⟨(some 50), (.fieldAddr 18 (.tmp 5)), none, []⟩⟩,
            ⟨10, 1023, [], ⟨none, (.store 1 (.tmp 50) (.tmp 49)), none, []⟩⟩])
          .skip))))
      (.ops [⟨(some 31), (.move (.tmp 6)), none, []⟩,
        ⟨(some 32), (.bin .add (.tmp 31) (.const (.int .i64 1))), none, []⟩,
        ⟨(some 6), (.move (.tmp 32)), none, []⟩]))))))))
  (.seq (.keep [4] (.ops [⟨(some 51), (.load (some 19) (.tmp 5)), none, []⟩,
    ⟨(some 52), (.build [(.int .u8 0), (.int .u8 0), (.int .u8 0), (.int .u8 0), (.int .u8 0), (.int .u8 0), (.int .u8 0), (.int .u8 0), (.int .u8 0), (.int .u8 0), (.int .u8 0), (.int .u8 0), (.int .u8 0), (.int .u8 0), (.int .u8 0), (.int .u8 0), (.int .i64 0), (.slice none 0 0), (.slice none 0 0), (.int .i64 0), (.int .i64 0)] [(0, 19, (.tmp 51))]), none, []⟩,
    ⟨none, (.store 21 (.tmp 4) (.tmp 52)), none, []⟩]))
  .ret)))))
theorem t30 : trF Tryd.prog Tryd.f30 s30 = some s30 := by kernel_rfl
theorem k30 : okS s30 = true := by kernel_rfl
theorem r30 : resT Tryd.prog Tryd.f30.results.toList = some [.c 4 (some 21)] := by kernel_rfl

def s31 : S :=
  (.seq (.keep [1, 2, 4] (.ops [⟨(some 2), (.box (.tmp 0)), none, []⟩,
    ⟨(some 4), (.alloc (.agg (List.replicate 16 (.int .u8 0)).toArray)), none, []⟩]))
  (.seq (.keep [1, 2, 4, 5] (.ops [⟨(some 7), (.fieldAddr 0 (.tmp 2)), none, []⟩,
    ⟨(some 8), (.load (some 16) (.tmp 7)), none, []⟩,
    ⟨(some 9), (.fieldAddr 16 (.tmp 2)), none, []⟩,
    ⟨(some 10), (.load none (.tmp 9)), none, []⟩,
    ⟨(some 11), (.call (.func 18) [(.tmp 8), (.tmp 10)]), none, []⟩,
    ⟨(some 5), (.alloc (.agg (List.replicate 16 (.int .u8 0)).toArray)), none, []⟩,
    ⟨none, (.store 16 (.tmp 5) (.tmp 11)), none, []⟩]))
  (.seq (.keep [4, 5] (.seq (.keep [1, 2, 4, 5, 6] (.ops [⟨(some 6), (.move (.const (.int .i64 0))), none, []⟩]))
  (.block 0
    (.loop
      (.keep [1, 2, 4, 5, 6] (.seq (.keep [1, 2, 4, 5, 6] (.seq (.keep [1, 2, 4, 5, 6, 14] (.ops [⟨(some 12), (.move (.tmp 6)), none, []⟩,
        ⟨(some 13), (.move (.tmp 1)), none, []⟩,
        ⟨(some 14), (.bin .lss (.tmp 12) (.tmp 13)), none, []⟩]))
      (.cond (.tmp 14)
        .skip
        (.exit 0))))
      (.seq (.keep [1, 2, 4, 5, 6] (.block 1
        (.draw [0, 0, 2, 0, 14, 30, 63, 127] [⟨0, 0, [], ⟨(some 17), (.load (some 16) (.tmp 5)), none, []⟩⟩,
          ⟨1, 0, [], ⟨(some 18), (.fieldAddr 17 (.tmp 2)), none, []⟩⟩,
          ⟨2, 2, [], ⟨(some 19), (.load none (.tmp 18)), none, []⟩⟩,
          ⟨3, 0, [], ⟨(some 20), (.move (.tmp 6)), none, []⟩⟩,
          ⟨4, 14, [], ⟨(some 21), (.indexAddr 5 (.tmp 19) (.tmp 20)), none, []⟩⟩,
          ⟨5, 30, [], ⟨(some 22), (.load (some 5) (.tmp 21)), none, []⟩⟩,
          ⟨6, 63, [], ⟨(some 23), (.call (.func 20) [(.tmp 17), (.tmp 22)]), none, []⟩⟩,
          ⟨7, 127, [], ⟨none, (.store 16 (.tmp 5) (.tmp 23)), none, []⟩⟩])))
      (.ops [⟨(some 15), (.move (.tmp 6)), none, []⟩,
        ⟨(some 16), (.bin .add (.tmp 15) (.const (.int .i64 1))), none, []⟩,
        ⟨(some 6), (.move (.tmp 16)), none, []⟩]))))))))
  (.seq (.keep [4] (.ops [⟨(some 24), (.load (some 16) (.tmp 5)), none, []⟩,
    ⟨none, (.store 16 (.tmp 4) (.tmp 24)), none, []⟩]))
  .ret))))
theorem t31 : trF Tryd.prog Tryd.f31 s31 = some s31 := by kernel_rfl
theorem k31 : okS s31 = true := by kernel_rfl
theorem r31 : resT Tryd.prog Tryd.f31.results.toList = some [.c 4 (some 16)] := by kernel_rfl

def s32 : S :=
  (.seq (.keep [2, 3] (.ops [⟨(some 2), (.box (.tmp 0)), none, []⟩,
    ⟨(some 3), (.box (.tmp 1)), none, []⟩,
    ⟨(some 4), (.move (.const (.bool false))), none, []⟩]))
  (.seq (.keep [2, 3] (.seq (.keep [2, 3, 27] (.ops [⟨(some 7), (.fieldAddr 0 (.tmp 2)), none, []⟩,
    ⟨(some 8), (.load (some 16) (.tmp 7)), none, []⟩,
    ⟨(some 9), (.fieldAddr 0 (.tmp 3)), none, []⟩,
    ⟨(some 10), (.load (some 16) (.tmp 9)), none, []⟩,
    ⟨(some 11), (.eqAgg true (List.replicate 16 (.int .u8)) (.tmp 8) (.tmp 10)), none, []⟩,
    ⟨(some 12), (.move (.tmp 11)), none, []⟩,
    ⟨(some 13), (.fieldAddr 16 (.tmp 2)), (some (12, false)), []⟩,
    ⟨(some 14), (.load none (.tmp 13)), (some (12, false)), []⟩,
    ⟨(some 15), (.fieldAddr 16 (.tmp 3)), (some (12, false)), []⟩,
    ⟨(some 16), (.load none (.tmp 15)), (some (12, false)), []⟩,
    ⟨(some 17), (.bin .neq (.tmp 14) (.tmp 16)), (some (12, false)), []⟩,
    ⟨(some 18), (.pick (.tmp 12) (.const (.bool true)) (.tmp 17)), none, []⟩,
    ⟨(some 19), (.move (.tmp 18)), none, []⟩,
    ⟨(some 20), (.fieldAddr 17 (.tmp 2)), (some (19, false)), []⟩,
    ⟨(some 21), (.load none (.tmp 20)), (some (19, false)), []⟩,
    ⟨(some 22), (.len (.tmp 21)), (some (19, false)), []⟩,
    ⟨(some 23), (.fieldAddr 17 (.tmp 3)), (some (19, false)), []⟩,
    ⟨(some 24), (.load none (.tmp 23)), (some (19, false)), []⟩,
    ⟨(some 25), (.len (.tmp 24)), (some (19, false)), []⟩,
    ⟨(some 26), (.bin .gtr (.tmp 22) (.tmp 25)), (some (19, false)), []⟩,
    ⟨(some 27), (.pick (.tmp 19) (.const (.bool true)) (.tmp 26)), none, []⟩]))
  (.cond (.tmp 27)
    (.seq (.keep [4] (.ops [⟨(some 4), (.move (.const (.bool false))), none, []⟩]))
    .ret)
    .skip)))
  (.seq (.keep [] (.seq (.keep [3, 29, 30, 31] (.ops [⟨(some 28), (.fieldAddr 17 (.tmp 2)), none, []⟩,
    ⟨(some 29), (.load none (.tmp 28)), none, []⟩,
    ⟨(some 30), (.len (.tmp 29)), none, []⟩,
    ⟨(some 31), (.move (.const (.int .i64 0))), none, []⟩]))
  (.block 0
    (.loop
      (.keep [3, 29, 30, 31] (.seq (.keep [3, 29, 30, 31, 32] (.ops [⟨(some 32), (.bin .lss (.tmp 31) (.tmp 30)), none, []⟩]))
      (.seq (.keep [3, 29, 30, 31] (.cond (.tmp 32)
        .skip
        (.exit 0)))
      (.seq (.keep [3, 29, 30, 31] (.block 1
        (.seq (.keep [3, 5, 6, 29, 30, 31] (.ops [⟨(some 33), (.move (.tmp 31)), none, []⟩,
          ⟨(some 34), (.indexAddr 5 (.tmp 29) (.tmp 31)), none, []⟩,
          ⟨(some 35), (.load (some 5) (.tmp 34)), none, []⟩,
          ⟨(some 6), (.alloc (.agg #[(.int .i64 0), (.int .i64 0), (.int .i64 0), (.int .i64 0), (.string ⟨#[]⟩)])), none, []⟩,
          ⟨(some 5), (.move (.tmp 33)), none, []⟩,
          ⟨none, (.store 5 (.tmp 6) (.tmp 35)), none, []⟩]))
        (.seq (.keep [3, 29, 30, 31, 42] (.draw [0, 1, 0, 7, 15, 0, 63] [⟨0, 0, [], ⟨(some 36), (.fieldAddr 17 (.tmp 3)), none, []⟩⟩,
          ⟨1, 1, [], ⟨(some 37), (.load none (.tmp 36)), none, []⟩⟩,
          ⟨2, 0, [], ⟨(some 38), (.move (.tmp 5)), none, []⟩⟩,
          ⟨3, 7, [], ⟨(some 39), (.indexAddr 5 (.tmp 37) (.tmp 38)), none, []⟩⟩,
          ⟨4, 15, [], ⟨(some 40), (.load (some 5) (.tmp 39)), none, []⟩⟩,
          ⟨5, 0, [], ⟨(some 41), (.load (some 5) (.tmp 6)), none, []⟩⟩,
          ⟨6, 63, [], ⟨(some 42), (.eqAgg true [(.int .i64), (.int .i64), (.int .i64), (.int .i64), .string] (.tmp 40) (.tmp 41)), none, []⟩⟩]))
        (.cond (.tmp 42)
          (.seq (.keep [4] (.ops [⟨(some 4), (.move (.const (.bool false))), none, []⟩]))
          .ret)
          .skip)))))
      (.ops [⟨(some 43), (.bin .add (.tmp 31) (.const (.int .i64 1))), none, []⟩,
        ⟨(some 31), (.move (.tmp 43)), none, []⟩])))))))))
  (.seq (.keep [4] (.ops [⟨(some 4), (.move (.const (.bool true))), none, []⟩]))
  .ret))))
theorem t32 : trF Tryd.prog Tryd.f32 s32 = some s32 := by kernel_rfl
theorem k32 : okS s32 = true := by kernel_rfl
theorem r32 : resT Tryd.prog Tryd.f32.results.toList = some [.t 4] := by kernel_rfl

def s33 : S :=
  (.seq (.keep [2, 3, 4] (.ops [⟨(some 3), (.box (.tmp 0)), none, []⟩,
    ⟨(some 4), (.box (.tmp 1)), none, []⟩,
    ⟨(some 6), (.move (.const (.bool false))), none, []⟩]))
  (.seq (.keep [2, 3, 4, 7] (.ops [⟨(some 12), (.fieldAddr 0 (.tmp 3)), none, []⟩,
    ⟨(some 13), (.load (some 16) (.tmp 12)), none, []⟩,
    ⟨(some 14), (.fieldAddr 16 (.tmp 3)), none, []⟩,
    ⟨(some 15), (.load none (.tmp 14)), none, []⟩,
    ⟨(some 16), (.call (.func 17) [(.tmp 13), (.tmp 15)]), none, []⟩,
    ⟨(some 7), (.alloc (.agg (List.replicate 16 (.int .u8 0)).toArray)), none, []⟩,
    ⟨none, (.store 16 (.tmp 7) (.tmp 16)), none, []⟩]))
  (.seq (.keep [2, 3, 4, 7, 8] (.ops [⟨(some 17), (.fieldAddr 0 (.tmp 4)), none, []⟩,
    ⟨(some 18), (.load (some 16) (.tmp 17)), none, []⟩,
    ⟨(some 19), (.fieldAddr 16 (.tmp 4)), none, []⟩,
    ⟨(some 20), (.load none (.tmp 19)), none, []⟩,
    ⟨(some 21), (.call (.func 17) [(.tmp 18), (.tmp 20)]), none, []⟩,
    ⟨(some 8), (.alloc (.agg (List.replicate 16 (.int .u8 0)).toArray)), none, []⟩,
    ⟨none, (.store 16 (.tmp 8) (.tmp 21)), none, []⟩]))
  (.seq (.keep [2, 3, 4, 7, 8] (.seq (.keep [2, 3, 4, 7, 8, 31] (.ops [⟨(some 22), (.fieldAddr 0 (.tmp 3)), none, []⟩,
    ⟨(some 23), (.load (some 16) (.tmp 22)), none, []⟩,
    ⟨(some 24), (.fieldAddr 0 (.tmp 4)), none, []⟩,
    ⟨(some 25), (.load (some 16) (.tmp 24)), none, []⟩,
    ⟨(some 26), (.eqAgg true (List.replicate 16 (.int .u8)) (.tmp 23) (.tmp 25)), none, []⟩,
    ⟨(some 27), (.move (.tmp 26)), none, []⟩,
    ⟨(some 28), (.load (some 16) (.tmp 7)), (some (27, true)), []⟩,
    ⟨(some 29), (.load (some 16) (.tmp 8)), (some (27, true)), []⟩,
    ⟨(some 30), (.eqAgg false (List.replicate 16 (.int .u8)) (.tmp 28) (.tmp 29)), (some (27, true)), []⟩,
    ⟨(some 31), (.pick (.tmp 27) (.tmp 30) (.const (.bool false))), none, []⟩]))
  (.cond (.tmp 31)
    (.seq (.keep [6] (.ops [⟨(some 6), (.move (.const (.bool true))), none, []⟩]))
    .ret)
    .skip)))
  (.seq (.keep [] (.seq (.keep [2, 3, 4, 7, 8, 9] (.ops [⟨(some 9), (.move (.const (.int .i64 0))), none, []⟩]))
  (.block 0
    (.loop
      (.keep [2, 3, 4, 7, 8, 9] (.seq (.keep [2, 3, 4, 7, 8, 9] (.seq (.keep [2, 3, 4, 7, 8, 9, 34] (.ops [⟨(some 32), (.move (.tmp 9)), none, []⟩,
        ⟨(some 33), (.move (.tmp 2)), none, []⟩,
        ⟨(some 34), (.bin .lss (.tmp 32) (.tmp 33)), none, []⟩]))
      (.cond (.tmp 34)
        .skip
        (.exit 0))))
      (.seq (.keep [2, 3, 4, 7, 8, 9] (.block 1
        (.seq (.keep [2, 3, 4, 7, 8, 9, 10] (.draw [0, 0, 2, 0, 14, 30, 63, 0, 255] [⟨0, 0, [], ⟨(some 37), (.load (some 16) (.tmp 7)), none, []⟩⟩,
          ⟨1, 0, [], ⟨(some 38), (.fieldAddr 17 (.tmp 3)), none, []⟩⟩,
          ⟨2, 2, [], ⟨(some 39), (.load none (.tmp 38)), none, []⟩⟩,
          ⟨3, 0, [], ⟨(some 40), (.move (.tmp 9)), none, []⟩⟩,
          ⟨4, 14, [], ⟨(some 41), (.indexAddr 5 (.tmp 39) (.tmp 40)), none, []⟩⟩,
          ⟨5, 30, [], ⟨(some 42), (.load (some 5) (.tmp 41)), none, []⟩⟩,
          ⟨7, 0, [], ⟨(some 10), (.alloc (.agg (List.replicate 16 (.int .u8 0)).toArray)), none, []⟩⟩,
          ⟨6, 63, [], ⟨(some 43), (.call (.func 19) [(.tmp 37), (.tmp 42)]), none, []⟩⟩,
          ⟨8, 255, [], ⟨none, (.store 16 (.tmp 10) (.tmp 43)), none, []⟩⟩]))
        (.seq (.keep [2, 3, 4, 7, 8, 9, 10, 11] (.draw [0, 0, 2, 0, 14, 30, 63, 0, 255] [⟨0, 0, [], ⟨(some 44), (.load (some 16) (.tmp 8)), none, []⟩⟩,
          ⟨1, 0, [], ⟨(some 45), (.fieldAddr 17 (.tmp 4)), none, []⟩⟩,
          ⟨2, 2, [], ⟨(some 46), (.load none (.tmp 45)), none, []⟩⟩,
          ⟨3, 0, [], ⟨(some 47), (.move (.tmp 9)), none, []⟩⟩,
          ⟨4, 14, [], ⟨(some 48), (.indexAddr 5 (.tmp 46) (.tmp 47)), none, []⟩⟩,
          ⟨5, 30, [], ⟨(some 49), (.load (some 5) (.tmp 48)), none, []⟩⟩,
          ⟨7, 0, [], ⟨(some 11), (.alloc (.agg (List.replicate 16 (.int .u8 0)).toArray)), none, []⟩⟩,
          ⟨6, 63, [], ⟨(some 50), (.call (.func 19) [(.tmp 44), (.tmp 49)]), none, []⟩⟩,
          ⟨8, 255, [], ⟨none, (.store 16 (.tmp 11) (.tmp 50)), none, []⟩⟩]))
        (.seq (.keep [2, 3, 4, 7, 8, 9, 10, 11] (.seq (.keep [2, 3, 4, 7, 8, 9, 10, 11, 71] (.draw [0, 0, 3, 7, 15, 15, 63, 127, 255, 511, 255, 2047, 4095, 255, 8447, 255, 57599, 123135, 262143, 524287, 1048575] [⟨0, 0, [], ⟨(some 51), (.load (some 16) (.tmp 10)), none, []⟩⟩,
          ⟨1, 0, [], ⟨(some 52), (.load (some 16) (.tmp 11)), none, []⟩⟩,
          ⟨2, 3, [], ⟨(some 53), (.eqAgg false (List.replicate 16 (.int .u8)) (.tmp 51) (.tmp 52)), none, []⟩⟩,
          ⟨3, 7, [], ⟨(some 54), (.move (.tmp 53)), none, []⟩⟩,
          ⟨4, 15, [], ⟨(some 55), (.load (some 16) (.tmp 7)), (some (54, true)), []⟩⟩,
          ⟨5, 15, [], ⟨(some 56), (.load (some 16) (.tmp 8)), (some (54, true)), []⟩⟩,
          ⟨6, 63, [], ⟨(some 57), (.eqAgg true (List.replicate 16 (.int .u8)) (.tmp 55) (.tmp 56)), (some (54, true)), []⟩⟩,
          ⟨7, 127, [], ⟨(some 58), (.move (.tmp 57)), (some (54, true)), []⟩⟩,
          ⟨8, 255, [], ⟨(some 59), (.fieldAddr 17 (.tmp 3)), (some (58, false)), []⟩⟩,
          ⟨9, 511, [], ⟨(some 60), (.load none (.tmp 59)), (some (58, false)), []⟩⟩,
          ⟨10, 255, [], ⟨(some 61), (.move (.tmp 9)), (some (58, false)), []⟩⟩,
          ⟨11, 2047, [], ⟨(some 62), (.indexAddr 5 (.tmp 60) (.tmp 61)), (some (58, false)), []⟩⟩,
          ⟨12, 4095, [], ⟨(some 63), (.load (some 5) (.tmp 62)), (some (58, false)), []⟩⟩,
          ⟨13, 255, [], ⟨(some 64), (.fieldAddr 17 (.tmp 4)), (some (58, false)), []⟩⟩,
          ⟨14, 8447, [], ⟨(some 65), (.load none (.tmp 64)), (some (58, false)), []⟩⟩,
          ⟨15, 255, [], ⟨(some 66), (.move (.tmp 9)), (some (58, false)), []⟩⟩,
          ⟨16, 57599, [], ⟨(some 67), (.indexAddr 5 (.tmp 65) (.tmp 66)), (some (58, false)), []⟩⟩,
          ⟨17, 123135, [], ⟨(some 68), (.load (some 5) (.tmp 67)), (some (58, false)), []⟩⟩,
          ⟨18, 262143, [], ⟨(some 69), (.eqAgg true [(.int .i64), (.int .i64), (.int .i64), (.int .i64), .string] (.tmp 63) (.tmp 68)), (some (58, false)), []⟩⟩,
          ⟨19, 524287, [], ⟨(some 70), (.pick (.tmp 58) (.const (.bool true)) (.tmp 69)), (some (54, true)), []⟩⟩,
          ⟨20, 1048575, [], ⟨(some 71), (.pick (.tmp 54) (.tmp 70) (.const (.bool false))), none, []⟩⟩]))
        (.cond (.tmp 71)
          (.seq (.keep [6] (.ops [⟨(some 6), (.move (.const (.bool true))), none, []⟩]))
          .ret)
          .skip)))
        (.seq (.keep [2, 3, 4, 7, 8, 9, 11] (.ops [⟨(some 72), (.load (some 16) (.tmp 10)), none, []⟩,
          ⟨none, (.store 16 (.tmp 7) (.tmp 72)), none, []⟩]))
        (.ops [⟨(some 73), (.load (some 16) (.tmp 11)), none, []⟩,
          ⟨none, (.store 16 (.tmp 8) (.tmp 73)), none, []⟩])))))))
      (.ops [⟨(some 35), (.move (.tmp 9)), none, []⟩,
        ⟨(some 36), (.bin .add (.tmp 35) (.const (.int .i64 1))), none, []⟩,
        ⟨(some 9), (.move (.tmp 36)), none, []⟩]))))))))
  (.seq (.keep [6] (.ops [⟨(some 6), (.move (.const (.bool false))), none, []⟩]))
  .ret))))))
theorem t33 : trF Tryd.prog Tryd.f33 s33 = some s33 := by kernel_rfl
theorem k33 : okS s33 = true := by kernel_rfl
theorem r33 : resT Tryd.prog Tryd.f33.results.toList = some [.t 6] := by kernel_rfl

def s38 : S :=
  (.seq (.keep [2, 3] (.ops [⟨(some 2), (.box (.tmp 0)), none, []⟩,
    ⟨(some 3), (.box (.tmp 1)), none, []⟩,
    ⟨(some 4), (.move (.const (.bool false))), none, []⟩]))
  (.seq (.keep [2, 3] (.seq (.keep [2, 3, 26] (.ops [⟨(some 6), (.fieldAddr 0 (.tmp 2)), none, []⟩,
    ⟨(some 7), (.load (some 16) (.tmp 6)), none, []⟩,
    ⟨(some 8), (.fieldAddr 0 (.tmp 3)), none, []⟩,
    ⟨(some 9), (.load (some 16) (.tmp 8)), none, []⟩,
    ⟨(some 10), (.eqAgg true (List.replicate 16 (.int .u8)) (.tmp 7) (.tmp 9)), none, []⟩,
    ⟨(some 11), (.move (.tmp 10)), none, []⟩,
    ⟨(some 12), (.fieldAddr 16 (.tmp 2)), (some (11, false)), []⟩,
    ⟨(some 13), (.load none (.tmp 12)), (some (11, false)), []⟩,
    ⟨(some 14), (.fieldAddr 16 (.tmp 3)), (some (11, false)), []⟩,
    ⟨(some 15), (.load none (.tmp 14)), (some (11, false)), []⟩,
    ⟨(some 16), (.bin .neq (.tmp 13) (.tmp 15)), (some (11, false)), []⟩,
    ⟨(some 17), (.pick (.tmp 11) (.const (.bool true)) (.tmp 16)), none, []⟩,
    ⟨(some 18), (.move (.tmp 17)), none, []⟩,
    ⟨(some 19), (.fieldAddr 17 (.tmp 2)), (some (18, false)), []⟩,
    ⟨(some 20), (.load none (.tmp 19)), (some (18, false)), []⟩,
    ⟨(some 21), (.len (.tmp 20)), (some (18, false)), []⟩,
    ⟨(some 22), (.fieldAddr 17 (.tmp 3)), (some (18, false)), []⟩,
    ⟨(some 23), (.load none (.tmp 22)), (some (18, false)), []⟩,
    ⟨(some 24), (.len (.tmp 23)), (some (18, false)), []⟩,
    ⟨(some 25), (.bin .gtr (.tmp 21) (.tmp 24)), (some (18, false)), []⟩,
    ⟨(some 26), (.pick (.tmp 18) (.const (.bool true)) (.tmp 25)), none, []⟩]))
  (.cond (.tmp 26)
    (.seq (.keep [4] (.ops [⟨(some 4), (.move (.const (.bool false))), none, []⟩]))
    .ret)
    .skip)))
  (.seq (.keep [] (.seq (.keep [2, 3, 5] (.ops [⟨(some 5), (.move (.const (.int .i64 0))), none, []⟩]))
  (.block 0
    (.loop
      (.keep [2, 3, 5] (.seq (.keep [2, 3, 5] (.seq (.keep [2, 3, 5, 31] (.ops [⟨(some 27), (.move (.tmp 5)), none, []⟩,
        ⟨(some 28), (.fieldAddr 17 (.tmp 2)), none, []⟩,
        ⟨(some 29), (.load none (.tmp 28)), none, []⟩,
        ⟨(some 30), (.len (.tmp 29)), none, []⟩,
        ⟨(some 31), (.bin .lss (.tmp 27) (.tmp 30)), none, []⟩]))
      (.cond (.tmp 31)
        .skip
        (.exit 0))))
      (.seq (.keep [2, 3, 5] (.block 1
        (.seq (.keep [2, 3, 5, 44] (.draw [0, 1, 0, 7, 15, 0, 32, 0, 224, 480, 1023] [⟨0, 0, [], ⟨(some 34), (.fieldAddr 17 (.tmp 2)), none, []⟩⟩,
          ⟨1, 1, [], ⟨(some 35), (.load none (.tmp 34)), none, []⟩⟩,
          ⟨2, 0, [], ⟨(some 36), (.move (.tmp 5)), none, []⟩⟩,
          ⟨3, 7, [], ⟨(some 37), (.indexAddr 5 (.tmp 35) (.tmp 36)), none, []⟩⟩,
          ⟨4, 15, [], ⟨(some 38), (.load (some 5) (.tmp 37)), none, []⟩⟩,
          ⟨5, 0, [], ⟨(some 39), (.fieldAddr 17 (.tmp 3)), none, []⟩⟩,
          ⟨6, 32, [], ⟨(some 40), (.load none (.tmp 39)), none, []⟩⟩,
          ⟨7, 0, [], ⟨(some 41), (.move (.tmp 5)), none, []⟩⟩,
          ⟨8, 224, [], ⟨(some 42), (.indexAddr 5 (.tmp 40) (.tmp 41)), none, []⟩⟩,
          ⟨9, 480, [], ⟨(some 43), (.load (some 5) (.tmp 42)), none, []⟩⟩,
          ⟨10, 1023, [], ⟨(some 44), (.eqAgg true [(.int .i64), (.int .i64), (.int .i64), (.int .i64), .string] (.tmp 38) (.tmp 43)), none, []⟩⟩]))
        (.cond (.tmp 44)
          (.seq (.keep [4] (.ops [⟨(some 4), (.move (.const (.bool false))), none, []⟩]))
          .ret)
          .skip))))
      (.ops [⟨(some 32), (.move (.tmp 5)), none, []⟩,
        ⟨(some 33), (.bin .add (.tmp 32) (.const (.int .i64 1))), none, []⟩,
        ⟨(some 5), (.move (.tmp 33)), none, []⟩]))))))))
  (.seq (.keep [4] (.ops [⟨(some 4), (.move (.const (.bool true))), none, []⟩]))
  .ret))))
theorem t38 : trF Tryd.prog Tryd.f38 s38 = some s38 := by kernel_rfl
theorem k38 : okS s38 = true := by kernel_rfl
theorem r38 : resT Tryd.prog Tryd.f38.results.toList = some [.t 4] := by kernel_rfl

def s39 : S :=
  (.seq (.keep [0, 1, 2] (.ops [⟨(some 6), (.move (.const (.bool false))), none, []⟩]))
  (.seq (.keep [6] (.ops [⟨(some 7), (.move (.tmp 0)), none, []⟩,
    ⟨(some 8), (.move (.tmp 1)), none, []⟩,
    ⟨(some 9), (.bin .geq (.tmp 7) (.tmp 8)), none, []⟩,
    ⟨(some 10), (.move (.tmp 9)), none, []⟩,
    ⟨(some 11), (.move (.tmp 0)), (some (10, true)), []⟩,
    ⟨(some 12), (.move (.tmp 2)), (some (10, true)), []⟩,
    ⟨(some 13), (.bin .leq (.tmp 11) (.tmp 12)), (some (10, true)), []⟩,
    ⟨(some 14), (.pick (.tmp 10) (.tmp 13) (.const (.bool false))), none, []⟩,
    ⟨(some 6), (.move (.tmp 14)), none, []⟩]))
  .ret))
theorem t39 : trF Tryd.prog Tryd.f39 s39 = some s39 := by kernel_rfl
theorem k39 : okS s39 = true := by kernel_rfl
theorem r39 : resT Tryd.prog Tryd.f39.results.toList = some [.t 6] := by kernel_rfl

def s40 : S :=
  (.seq (.keep [0] (.ops [⟨(some 1), (.move (.const (.bool false))), none, []⟩]))
  (.seq (.keep [1] (.ops [⟨(some 2), (.fieldAddr 3 (.tmp 0)), none, []⟩,
    ⟨(some 3), (.load none (.tmp 2)), none, []⟩,
    ⟨(some 4), (.fieldAddr 2 (.tmp 0)), none, []⟩,
    ⟨(some 5), (.load none (.tmp 4)), none, []⟩,
    ⟨(some 6), (.bin .sub (.const (.int .i64 1099511627776)) (.tmp 5)), none, []⟩,
    ⟨(some 7), (.call (.func 39) [(.tmp 3), (.const (.int .i64 1)), (.tmp 6)]), none, []⟩,
    ⟨(some 8), (.move (.tmp 7)), none, []⟩,
    ⟨(some 9), (.fieldAddr 4 (.tmp 0)), (some (8, true)), []⟩,
    ⟨(some 10), (.load none (.tmp 9)), (some (8, true)), []⟩,
    ⟨(some 11), (.bin .eql (.tmp 10) (.const (.string ⟨#[]⟩))), (some (8, true)), []⟩,
    ⟨(some 12), (.pick (.tmp 8) (.tmp 11) (.const (.bool false))), none, []⟩,
    ⟨(some 1), (.move (.tmp 12)), none, []⟩]))
  .ret))
theorem t40 : trF Tryd.prog Tryd.f40 s40 = some s40 := by kernel_rfl
theorem k40 : okS s40 = true := by kernel_rfl
theorem r40 : resT Tryd.prog Tryd.f40.results.toList = some [.t 1] := by kernel_rfl

def s41 : S :=
  (.seq (.keep [0] (.ops [⟨(some 1), (.move (.const (.bool false))), none, []⟩]))
  (.seq (.keep [1] (.ops [⟨(some 2), (.fieldAddr 3 (.tmp 0)), none, []⟩,
    ⟨(some 3), (.load none (.tmp 2)), none, []⟩,
    ⟨(some 4), (.call (.func 39) [(.tmp 3), (.const (.int .i64 0)), (.const (.int .i64 2147483647))]), none, []⟩,
    ⟨(some 5), (.move (.tmp 4)), none, []⟩,
    ⟨(some 6), (.fieldAddr 4 (.tmp 0)), (some (5, true)), []⟩,
    ⟨(some 7), (.load none (.tmp 6)), (some (5, true)), []⟩,
    ⟨(some 8), (.bin .eql (.tmp 7) (.const (.string ⟨#[]⟩))), (some (5, true)), []⟩,
    ⟨(some 9), (.pick (.tmp 5) (.tmp 8) (.const (.bool false))), none, []⟩,
    ⟨(some 1), (.move (.tmp 9)), none, []⟩]))
  .ret))
theorem t41 : trF Tryd.prog Tryd.f41 s41 = some s41 := by kernel_rfl
theorem k41 : okS s41 = true := by kernel_rfl
theorem r41 : resT Tryd.prog Tryd.f41.results.toList = some [.t 1] := by kernel_rfl

def s42 : S :=
  (.seq (.keep [0] (.ops [⟨(some 1), (.move (.const (.bool false))), none, []⟩]))
  (.seq (.keep [1] (.ops [⟨(some 2), (.fieldAddr 3 (.tmp 0)), none, []⟩,
    ⟨(some 3), (.load none (.tmp 2)), none, []⟩,
    ⟨(some 4), (.bin .eql (.tmp 3) (.const (.int .i64 0))), none, []⟩,
    ⟨(some 5), (.move (.tmp 4)), none, []⟩,
    ⟨(some 6), (.fieldAddr 4 (.tmp 0)), (some (5, true)), []⟩,
    ⟨(some 7), (.load none (.tmp 6)), (some (5, true)), []⟩,
    ⟨(some 8), (.lenStr (.tmp 7)), (some (5, true)), []⟩,
    ⟨(some 9), (.bin .eql (.tmp 8) (.const (.int .i64 1))), (some (5, true)), []⟩,
    ⟨(some 10), (.pick (.tmp 5) (.tmp 9) (.const (.bool false))), none, []⟩,
    ⟨(some 1), (.move (.tmp 10)), none, []⟩]))
  .ret))
theorem t42 : trF Tryd.prog Tryd.f42 s42 = some s42 := by kernel_rfl
theorem k42 : okS s42 = true := by kernel_rfl
theorem r42 : resT Tryd.prog Tryd.f42.results.toList = some [.t 1] := by kernel_rfl

def s43 : S :=
  (.seq (.keep [0] (.ops [⟨(some 1), (.move (.const (.bool false))), none, []⟩]))
  (.seq (.keep [1] (.ops [⟨(some 2), (.fieldAddr 3 (.tmp 0)), none, []⟩,
    ⟨(some 3), (.load none (.tmp 2)), none, []⟩,
    ⟨(some 4), (.bin .eql (.tmp 3) (.const (.int .i64 0))), none, []⟩,
    ⟨(some 5), (.move (.tmp 4)), none, []⟩,
    ⟨(some 6), (.fieldAddr 4 (.tmp 0)), (some (5, true)), []⟩,
    ⟨(some 7), (.load none (.tmp 6)), (some (5, true)), []⟩,
    ⟨(some 8), (.lenStr (.tmp 7)), (some (5, true)), []⟩,
    ⟨(some 9), (.call (.func 39) [(.tmp 8), (.const (.int .i64 1)), (.const (.int .i64 512))]), (some (5, true)), []⟩,
    ⟨(some 10), (.pick (.tmp 5) (.tmp 9) (.const (.bool false))), none, []⟩,
    ⟨(some 1), (.move (.tmp 10)), none, []⟩]))
  .ret))
theorem t43 : trF Tryd.prog Tryd.f43 s43 = some s43 := by kernel_rfl
theorem k43 : okS s43 = true := by kernel_rfl
theorem r43 : resT Tryd.prog Tryd.f43.results.toList = some [.t 1] := by kernel_rfl

def s44 : S :=
  (.seq (.keep [0] (.ops [⟨(some 1), (.move (.const (.bool false))), none, []⟩]))
  (.seq (.keep [1] (.ops [⟨(some 2), (.fieldAddr 3 (.tmp 0)), none, []⟩,
    ⟨(some 3), (.load none (.tmp 2)), none, []⟩,
    ⟨(some 4), (.call (.func 39) [(.tmp 3), (.const (.int .i64 0)), (.const (.int .i64 7))]), none, []⟩,
    ⟨(some 5), (.move (.tmp 4)), none, []⟩,
    ⟨(some 6), (.fieldAddr 4 (.tmp 0)), (some (5, true)), []⟩,
    ⟨(some 7), (.load none (.tmp 6)), (some (5, true)), []⟩,
    ⟨(some 8), (.bin .eql (.tmp 7) (.const (.string ⟨#[]⟩))), (some (5, true)), []⟩,
    ⟨(some 9), (.pick (.tmp 5) (.tmp 8) (.const (.bool false))), none, []⟩,
    ⟨(some 1), (.move (.tmp 9)), none, []⟩]))
  .ret))
theorem t44 : trF Tryd.prog Tryd.f44 s44 = some s44 := by kernel_rfl
theorem k44 : okS s44 = true := by kernel_rfl
theorem r44 : resT Tryd.prog Tryd.f44.results.toList = some [.t 1] := by kernel_rfl

def s45 : S :=
  (.seq (.keep [0, 3] (.ops [⟨(some 3), (.box (.tmp 1)), none, []⟩,
    ⟨(some 4), (.move (.const (.bool false))), none, []⟩]))
  (.seq (.keep [0, 3] (.seq (.keep [0, 3, 13] (.draw [0, 1, 0, 0, 8, 4, 60, 124, 255] [⟨0, 0, [], ⟨(some 5), (.fieldAddr 2 (.tmp 3)), none, []⟩⟩,
    ⟨1, 1, [], ⟨(some 6), (.load none (.tmp 5)), none, []⟩⟩,
    ⟨2, 0, [], ⟨(some 7), (.move (.tmp 0)), none, []⟩⟩,
    ⟨3, 0, [], ⟨(some 8), (.fieldAddr 1 (.tmp 3)), none, []⟩⟩,
    ⟨4, 8, [], ⟨(some 9), (.load none (.tmp 8)), none, []⟩⟩,
    ⟨5, 4, [], ⟨(some 10), (.nilCheck (.tmp 7)), none, []⟩⟩,
    ⟨6, 60, [], ⟨(some 11), (.indexArr 4 1 (.tmp 10) (.tmp 9)), none, []⟩⟩,
    ⟨7, 124, [], ⟨(some 12), (.load none (.tmp 11)), none, []⟩⟩,
    ⟨8, 255, [], ⟨(some 13), (.bin .neq (.tmp 6) (.tmp 12)), none, []⟩⟩]))
  (.cond (.tmp 13)
    (.seq (.keep [4] (.ops [⟨(some 4), (.move (.const (.bool false))), none, []⟩]))
    .ret)
    .skip)))
  (.seq (.keep [] (.seq (.keep [0, 3, 16] (.ops [⟨(some 14), (.fieldAddr 0 (.tmp 3)), none, []⟩,
    ⟨(some 15), (.load none (.tmp 14)), none, []⟩,
    ⟨(some 16), (.bin .eql (.tmp 15) (.const (.int .i64 1))), none, []⟩]))
  (.cond (.tmp 16)
    (.draw [0, 0, 2, 1, 15, 31, 0, 64, 255, 1, 1023, 2047] [⟨0, 0, [], ⟨(some 17), (.move (.tmp 0)), none, []⟩⟩,
      ⟨1, 0, [], ⟨(some 18), (.fieldAddr 1 (.tmp 3)), none, []⟩⟩,
      ⟨2, 2, [], ⟨(some 19), (.load none (.tmp 18)), none, []⟩⟩,
      ⟨3, 1, [], ⟨(some 20), (.nilCheck (.tmp 17)), none, []⟩⟩,
      ⟨4, 15, [], ⟨(some 21), (.indexArr 4 1 (.tmp 20) (.tmp 19)), none, []⟩⟩,
      ⟨5, 31, [], ⟨(some 22), (.load none (.tmp 21)), none, []⟩⟩,
      ⟨6, 0, [], ⟨(some 23), (.fieldAddr 3 (.tmp 3)), none, []⟩⟩,
      ⟨7, 64, [], ⟨(some 24), (.load none (.tmp 23)), none, []⟩⟩,
      ⟨8, 255, [], ⟨(some 25), (.bin .add (.tmp 22) (.tmp 24)), none, []⟩⟩,
      ⟨9, 1, [], ⟨(some 26), (.nilCheck (.tmp 17)), none, []⟩⟩,
      ⟨10, 1023, [], ⟨(some 27), (.indexArr 4 1 (.tmp 26) (.tmp 19)), none, []⟩⟩,
      ⟨11, 2047, [], ⟨none, (.store 1 (.tmp 27) (.tmp 25)), none, []⟩⟩])
    .skip)))
  (.seq (.keep [4] (.ops [⟨(some 4), (.move (.const (.bool true))), none, []⟩]))
  .ret))))
theorem t45 : trF Tryd.prog Tryd.f45 s45 = some s45 := by kernel_rfl
theorem k45 : okS s45 = true := by kernel_rfl
theorem r45 : resT Tryd.prog Tryd.f45.results.toList = some [.t 4] := by kernel_rfl

def s46 : S :=
  (.seq (.keep [1] (.ops [⟨(some 1), (.box (.tmp 0)), none, []⟩,
    ⟨(some 2), (.move (.const .nilFunc)), none, []⟩]))
  (.seq (.keep [2] (.ops [⟨(some 3), (.makeFunc (.func 67) [] [(.tmp 1)]), none, []⟩,
    ⟨(some 2), (.move (.tmp 3)), none, []⟩]))
  .ret))
theorem t46 : trF Tryd.prog Tryd.f46 s46 = some s46 := by kernel_rfl
theorem k46 : okS s46 = true := by kernel_rfl
theorem r46 : resT Tryd.prog Tryd.f46.results.toList = some [.t 2] := by kernel_rfl

def s47 : S :=
  (.seq (.keep [0, 1] (.ops [⟨(some 4), (.move (.const (.int .i64 0))), none, []⟩]))
  (.seq (.keep [0, 1, 5] (.ops [⟨(some 5), (.move (.const (.int .i64 0))), none, []⟩]))
  (.seq (.keep [5] (.seq (.keep [0, 1, 5, 6] (.ops [⟨(some 6), (.move (.const (.int .i64 0))), none, []⟩]))
  (.block 0
    (.loop
      (.keep [0, 1, 5, 6] (.seq (.keep [0, 1, 5, 6] (.seq (.keep [0, 1, 5, 6, 10] (.ops [⟨(some 7), (.move (.tmp 6)), none, []⟩,
        ⟨(some 8), (.move (.tmp 0)), none, []⟩,
        ⟨(some 9), (.len (.tmp 8)), none, []⟩,
        ⟨(some 10), (.bin .lss (.tmp 7) (.tmp 9)), none, []⟩]))
      (.cond (.tmp 10)
        .skip
        (.exit 0))))
      (.seq (.keep [0, 1, 5, 6] (.block 1
        (.seq (.keep [0, 1, 5, 6, 27] (.ops [⟨(some 13), (.move (.tmp 0)), none, []⟩,
          ⟨(some 14), (.move (.tmp 6)), none, []⟩,
          ⟨(some 15), (.indexAddr 5 (.tmp 13) (.tmp 14)), none, []⟩,
          ⟨(some 16), (.fieldAddr 0 (.tmp 15)), none, []⟩,
          ⟨(some 17), (.load none (.tmp 16)), none, []⟩,
          ⟨(some 18), (.bin .eql (.tmp 17) (.const (.int .i64 1))), none, []⟩,
          ⟨(some 19), (.move (.tmp 18)), none, []⟩,
          ⟨(some 20), (.move (.tmp 0)), (some (19, true)), []⟩,
          ⟨(some 21), (.move (.tmp 6)), (some (19, true)), []⟩,
          ⟨(some 22), (.indexAddr 5 (.tmp 20) (.tmp 21)), (some (19, true)), []⟩,
          ⟨(some 23), (.fieldAddr 1 (.tmp 22)), (some (19, true)), []⟩,
          ⟨(some 24), (.load none (.tmp 23)), (some (19, true)), []⟩,
          ⟨(some 25), (.move (.tmp 1)), (some (19, true)), []⟩,
          ⟨(some 26), (.bin .eql (.tmp 24) (.tmp 25)), (some (19, true)), []⟩,
          ⟨(some 27), (.pick (.tmp 19) (.tmp 26) (.const (.bool false))), none, []⟩]))
        (.cond (.tmp 27)
          (.ops [⟨(some 28), (.move (.tmp 5)), none, []⟩,
            ⟨(some 29), (.move (.tmp 0)), none, []⟩,
            ⟨(some 30), (.move (.tmp 6)), none, []⟩,
            ⟨(some 31), (.indexAddr 5 (.tmp 29) (.tmp 30)), none, []⟩,
            ⟨(some 32), (.fieldAddr 3 (.tmp 31)), none, []⟩,
            ⟨(some 33), (.load none (.tmp 32)), none, []⟩,
            ⟨(some 34), (.bin .add (.tmp 28) (.tmp 33)), none, []⟩,
            ⟨(some 5), (.move (.tmp 34)), none, []⟩])
          .skip))))
      (.ops [⟨(some 11), (.move (.tmp 6)), none, []⟩,
        ⟨(some 12), (.bin .add (.tmp 11) (.const (.int .i64 1))), none, []⟩,
        ⟨(some 6), (.move (.tmp 12)), none, []⟩]))))))))
  (.seq (.keep [4] (.ops [⟨(some 35), (.move (.tmp 5)), none, []⟩,
    ⟨(some 4), (.move (.tmp 35)), none, []⟩]))
  .ret))))
theorem t47 : trF Tryd.prog Tryd.f47 s47 = some s47 := by kernel_rfl
theorem k47 : okS s47 = true := by kernel_rfl
theorem r47 : resT Tryd.prog Tryd.f47.results.toList = some [.t 4] := by kernel_rfl

def s48 : S :=
  (.seq (.keep [0, 1, 4] (.ops [⟨(some 4), (.alloc (.agg (List.replicate 16 (.int .u8 0)).toArray)), none, []⟩]))
  (.seq (.keep [1, 4, 5] (.draw [0, 0, 2, 6, 14, 31, 0, 127] [⟨1, 0, [], ⟨(some 10), (.move (.tmp 0)), none, []⟩⟩,
    ⟨2, 2, [], ⟨(some 11), (.convInt .u8 (.tmp 10)), none, []⟩⟩,
    ⟨3, 6, [], ⟨(some 12), (.buildSlice 1 [(.int .u8 0)] [(0, 1, (.tmp 11))]), none, []⟩⟩,
    ⟨4, 14, [], ⟨(some 13), (.bytesStr (.tmp 12)), none, []⟩⟩,
    ⟨6, 0, [], ⟨(some 5), (.alloc (.agg #[(.int .u32 0), (.int .u32 0), (.int .u32 0), (.int .u32 0), (.int .u32 0), (.int .u32 0), (.int .u32 0), (.int .u32 0), (.int .u8 0), (.int .u8 0), (.int .u8 0), (.int .u8 0), (.int .u8 0), (.int .u8 0), (.int .u8 0), (.int .u8 0), (.int .u8 0), (.int .u8 0), (.int .u8 0), (.int .u8 0), (.int .u8 0), (.int .u8 0), (.int .u8 0), (.int .u8 0), (.int .u8 0), (.int .u8 0), (.int .u8 0), (.int .u8 0), (.int .u8 0), (.int .u8 0), (.int .u8 0), (.int .u8 0), (.int .u8 0), (.int .u8 0), (.int .u8 0), (.int .u8 0), (.int .u8 0), (.int .u8 0), (.int .u8 0), (.int .u8 0), (.int .u8 0), (.int .u8 0), (.int .u8 0), (.int .u8 0), (.int .u8 0), (.int .u8 0), (.int .u8 0), (.int .u8 0), (.int .u8 0), (.int .u8 0), (.int .u8 0), (.int .u8 0), (.int .u8 0), (.int .u8 0), (.int .u8 0), (.int .u8 0), (.int .u8 0), (.int .u8 0), (.int .u8 0), (.int .u8 0), (.int .u8 0), (.int .u8 0), (.int .u8 0), (.int .u8 0), (.int .u8 0), (.int .u8 0), (.int .u8 0), (.int .u8 0), (.int .u8 0), (.int .u8 0), (.int .u8 0), (.int .u8 0), (.int .u64 0)])), none, []⟩⟩,
    ⟨0, 0, [4], ⟨(some 9), (.call (.func 68) []), none, [((.bytesStr (.tmp 12)), none, (some 13))]⟩⟩,
    ⟨5, 31, [], ⟨(some 14), (.call (.func 69) [(.tmp 9), (.tmp 13)]), none, []⟩⟩,
    ⟨7, 127, [], ⟨none, (.store 73 (.tmp 5) (.tmp 14)), none, []⟩⟩]))
  (.seq (.keep [4, 5] (.seq (.keep [4, 5, 15, 16, 17] (.ops [⟨(some 15), (.move (.tmp 1)), none, []⟩,
    ⟨(some 16), (.len (.tmp 15)), none, []⟩,
    ⟨(some 17), (.move (.const (.int .i64 0))), none, []⟩]))
  (.block 0
    (.loop
      (.keep [4, 5, 15, 16, 17] (.seq (.keep [4, 5, 15, 16, 17, 18] (.ops [⟨(some 18), (.bin .lss (.tmp 17) (.tmp 16)), none, []⟩]))
      (.seq (.keep [4, 5, 15, 16, 17] (.cond (.tmp 18)
        .skip
        (.exit 0)))
      (.seq (.keep [4, 5, 15, 16, 17] (.block 1
        (.seq (.keep [4, 5, 7, 15, 16, 17] (.ops [⟨(some 19), (.indexAddr 1 (.tmp 15) (.tmp 17)), none, []⟩,
          ⟨(some 20), (.load none (.tmp 19)), none, []⟩,
          ⟨(some 7), (.move (.tmp 20)), none, []⟩]))
        (.draw [0, 0, 2, 6, 15, 31] [⟨0, 0, [], ⟨(some 21), (.load (some 73) (.tmp 5)), none, []⟩⟩,
          ⟨1, 0, [], ⟨(some 22), (.move (.tmp 7)), none, []⟩⟩,
          ⟨2, 2, [0], ⟨(some 23), (.call (.func 70) [(.tmp 22)]), none, [((.load (some 73) (.tmp 5)), none, (some 21))]⟩⟩,
          ⟨3, 6, [], ⟨(some 24), (.bytesStr (.tmp 23)), none, []⟩⟩,
          ⟨4, 15, [], ⟨(some 25), (.call (.func 69) [(.tmp 21), (.tmp 24)]), none, []⟩⟩,
          ⟨5, 31, [], ⟨none, (.store 73 (.tmp 5) (.tmp 25)), none, []⟩⟩]))))
      (.ops [⟨(some 26), (.bin .add (.tmp 17) (.const (.int .i64 1))), none, []⟩,
        ⟨(some 17), (.move (.tmp 26)), none, []⟩])))))))))
  (.seq (.keep [4, 8] (.ops [⟨(some 27), (.load (some 73) (.tmp 5)), none, []⟩,
    ⟨(some 28), (.call (.func 71) [(.tmp 27)]), none, []⟩,
    ⟨(some 8), (.alloc (.agg (List.replicate 32 (.int .u8 0)).toArray)), none, []⟩,
    ⟨none, (.store 32 (.tmp 8) (.tmp 28)), none, []⟩]))
  (.seq (.keep [4] (.ops [⟨(some 29), (.sliceArr 32 1 (.tmp 8) none (some (.const (.int .i64 16))) none), none, []⟩,
    ⟨(some 30), (.s2ap 16 (.tmp 29)), none, []⟩,
    ⟨(some 31), (.load (some 16) (.tmp 30)), none, []⟩,
    ⟨none, (.store 16 (.tmp 4) (.tmp 31)), none, []⟩]))
  .ret)))))
theorem t48 : trF Tryd.prog Tryd.f48 s48 = some s48 := by kernel_rfl
theorem k48 : okS s48 = true := by kernel_rfl
theorem r48 : resT Tryd.prog Tryd.f48.results.toList = some [.c 4 (some 16)] := by kernel_rfl

def s49 : S :=
  (.seq (.keep [0] (.ops [⟨(some 2), (.move (.const (.slice none 0 0))), none, []⟩]))
  (.seq (.keep [3] (.ops [⟨(some 5), (.move (.tmp 0)), none, []⟩,
    ⟨(some 6), (.convInt .u64 (.tmp 5)), none, []⟩,
    ⟨(some 7), (.bin .shl (.tmp 6) (.const (.int .u64 1))), none, []⟩,
    ⟨(some 8), (.move (.tmp 0)), none, []⟩,
    ⟨(some 9), (.bin .shr (.tmp 8) (.const (.int .u64 63))), none, []⟩,
    ⟨(some 10), (.convInt .u64 (.tmp 9)), none, []⟩,
    ⟨(some 11), (.bin .xor (.tmp 7) (.tmp 10)), none, []⟩,
    ⟨(some 3), (.move (.tmp 11)), none, []⟩]))
  (.seq (.keep [3, 4] (.ops [⟨(some 4), (.move (.const (.slice none 0 0))), none, []⟩]))
  (.seq (.keep [3, 4] (.block 0
    (.loop
      (.keep [3, 4] (.seq (.keep [3, 4] (.seq (.keep [3, 4, 13] (.ops [⟨(some 12), (.move (.tmp 3)), none, []⟩,
        ⟨(some 13), (.bin .gtr (.tmp 12) (.const (.int .u64 127))), none, []⟩]))
      (.cond (.tmp 13)
        .skip
        (.exit 0))))
      (.seq (.keep [3, 4] (.block 1
        (.ops [⟨(some 16), (.move (.tmp 4)), none, []⟩,
          ⟨(some 17), (.move (.tmp 3)), none, []⟩,
          ⟨(some 18), (.convInt .u8 (.tmp 17)), none, []⟩,
          ⟨(some 19), (.bin .or (.tmp 18) (.const (.int .u8 128))), none, []⟩,
          ⟨(some 20), (.buildSlice 1 [(.int .u8 0)] [(0, 1, (.tmp 19))]), none, []⟩,
          ⟨(some 21), (.append 1 1 (.tmp 16) (.tmp 20)), none, []⟩,
          ⟨(some 4), (.move (.tmp 21)), none, []⟩])))
      (.ops [⟨(some 14), (.move (.tmp 3)), none, []⟩,
        ⟨(some 15), (.bin .shr (.tmp 14) (.const (.int .u64 7))), none, []⟩,
        ⟨(some 3), (.move (.tmp 15)), none, []⟩])))))))
  (.seq (.keep [2] (.ops [⟨(some 22), (.move (.tmp 4)), none, []⟩,
    ⟨(some 23), (.move (.tmp 3)), none, []⟩,
    ⟨(some 24), (.convInt .u8 (.tmp 23)), none, []⟩,
    ⟨(some 25), (.buildSlice 1 [(.int .u8 0)] [(0, 1, (.tmp 24))]), none, []⟩,
    ⟨(some 26), (.append 1 1 (.tmp 22) (.tmp 25)), none, []⟩,
    ⟨(some 2), (.move (.tmp 26)), none, []⟩]))
  .ret)))))
theorem t49 : trF Tryd.prog Tryd.f49 s49 = some s49 := by kernel_rfl
theorem k49 : okS s49 = true := by kernel_rfl
theorem r49 : resT Tryd.prog Tryd.f49.results.toList = some [.t 2] := by kernel_rfl

def s50 : S :=
  (.seq (.keep [0, 1, 4] (.ops [⟨(some 4), (.alloc (.agg (List.replicate 16 (.int .u8 0)).toArray)), none, []⟩]))
  (.seq (.keep [4] (.ops [⟨(some 5), (.move (.tmp 0)), none, []⟩,
    ⟨(some 6), (.move (.tmp 1)), none, []⟩,
    ⟨(some 7), (.call (.func 73) [(.tmp 5), (.tmp 6)]), none, []⟩,
    ⟨(some 8), (.call (.func 72) [(.tmp 7)]), none, []⟩,
    ⟨none, (.store 16 (.tmp 4) (.tmp 8)), none, []⟩]))
  .ret))
theorem t50 : trF Tryd.prog Tryd.f50 s50 = some s50 := by kernel_rfl
theorem k50 : okS s50 = true := by kernel_rfl
theorem r50 : resT Tryd.prog Tryd.f50.results.toList = some [.c 4 (some 16)] := by kernel_rfl

def s51 : S :=
  (.seq (.keep [1] (.ops [⟨(some 1), (.box (.tmp 0)), none, []⟩,
    ⟨(some 2), (.move (.const (.string ⟨#[]⟩))), none, []⟩]))
  (.seq (.keep [1, 3] (.ops [⟨(some 3), (.move (.const (.slice none 0 0))), none, []⟩]))
  (.seq (.keep [3] (.seq (.keep [1, 3, 4] (.ops [⟨(some 4), (.move (.const (.int .i64 0))), none, []⟩]))
  (.block 0
    (.loop
      (.keep [1, 3, 4] (.seq (.keep [1, 3, 4] (.seq (.keep [1, 3, 4, 6] (.ops [⟨(some 5), (.move (.tmp 4)), none, []⟩,
        ⟨(some 6), (.bin .lss (.tmp 5) (.const (.int .i64 16))), none, []⟩]))
      (.cond (.tmp 6)
        .skip
        (.exit 0))))
      (.seq (.keep [1, 3, 4] (.block 1
        (.ops [⟨(some 9), (.move (.tmp 3)), none, []⟩,
          ⟨(some 10), (.move (.tmp 4)), none, []⟩,
          ⟨(some 11), (.indexArr 16 1 (.tmp 1) (.tmp 10)), none, []⟩,
          ⟨(some 12), (.load none (.tmp 11)), none, []⟩,
          ⟨(some 13), (.buildSlice 1 [(.int .u8 0)] [(0, 1, (.tmp 12))]), none, []⟩,
          ⟨(some 14), (.append 1 1 (.tmp 9) (.tmp 13)), none, []⟩,
          ⟨(some 3), (.move (.tmp 14)), none, []⟩])))
      (.ops [⟨(some 7), (.move (.tmp 4)), none, []⟩,
        ⟨(some 8), (.bin .add (.tmp 7) (.const (.int .i64 1))), none, []⟩,
        ⟨(some 4), (.move (.tmp 8)), none, []⟩]))))))))
  (.seq (.keep [2] (.ops [⟨(some 15), (.move (.tmp 3)), none, []⟩,
    ⟨(some 16), (.bytesStr (.tmp 15)), none, []⟩,
    ⟨(some 2), (.move (.tmp 16)), none, []⟩]))
  .ret))))
theorem t51 : trF Tryd.prog Tryd.f51 s51 = some s51 := by kernel_rfl
theorem k51 : okS s51 = true := by kernel_rfl
theorem r51 : resT Tryd.prog Tryd.f51.results.toList = some [.t 2] := by kernel_rfl

def s52 : S :=
  (.seq (.keep [0] (.ops [⟨(some 2), (.move (.const (.slice none 0 0))), none, []⟩]))
  (.seq (.keep [0, 3] (.ops [⟨(some 5), (.move (.tmp 0)), none, []⟩,
    ⟨(some 6), (.convInt .u64 (.tmp 5)), none, []⟩,
    ⟨(some 7), (.bin .mul (.tmp 6) (.const (.int .u64 2))), none, []⟩,
    ⟨(some 3), (.move (.tmp 7)), none, []⟩]))
  (.seq (.keep [3] (.seq (.keep [0, 3, 9] (.ops [⟨(some 8), (.move (.tmp 0)), none, []⟩,
    ⟨(some 9), (.bin .lss (.tmp 8) (.const (.int .i64 0))), none, []⟩]))
  (.cond (.tmp 9)
    (.ops [⟨(some 10), (.move (.tmp 0)), none, []⟩,
      ⟨(some 11), (.bin .sub (.const (.int .i64 (-1))) (.tmp 10)), none, []⟩,
      ⟨(some 12), (.convInt .u64 (.tmp 11)), none, []⟩,
      ⟨(some 13), (.bin .mul (.tmp 12) (.const (.int .u64 2))), none, []⟩,
      ⟨(some 14), (.bin .add (.tmp 13) (.const (.int .u64 1))), none, []⟩,
      ⟨(some 3), (.move (.tmp 14)), none, []⟩])
    .skip)))
  (.seq (.keep [3, 4] (.ops [⟨(some 4), (.move (.const (.slice none 0 0))), none, []⟩]))
  (.seq (.keep [3, 4] (.block 0
    (.loop
      (.keep [3, 4] (.seq (.keep [3, 4] (.seq (.keep [3, 4, 16] (.ops [⟨(some 15), (.move (.tmp 3)), none, []⟩,
        ⟨(some 16), (.bin .geq (.tmp 15) (.const (.int .u64 128))), none, []⟩]))
      (.cond (.tmp 16)
        .skip
        (.exit 0))))
      (.block 1
        (.seq (.keep [3, 4] (.ops [⟨(some 17), (.move (.tmp 4)), none, []⟩,
          ⟨(some 18), (.move (.tmp 3)), none, []⟩,
          ⟨(some 19), (.bin .rem (.tmp 18) (.const (.int .u64 128))), none, []⟩,
          ⟨(some 20), (.convInt .u8 (.tmp 19)), none, []⟩,
          ⟨(some 21), (.bin .add (.tmp 20) (.const (.int .u8 128))), none, []⟩,
          ⟨(some 22), (.buildSlice 1 [(.int .u8 0)] [(0, 1, (.tmp 21))]), none, []⟩,
          ⟨(some 23), (.append 1 1 (.tmp 17) (.tmp 22)), none, []⟩,
          ⟨(some 4), (.move (.tmp 23)), none, []⟩]))
        (.ops [⟨(some 24), (.move (.tmp 3)), none, []⟩,
          ⟨(some 25), (.bin .quo (.tmp 24) (.const (.int .u64 128))), none, []⟩,
          ⟨(some 3), (.move (.tmp 25)), none, []⟩]))))))))
  (.seq (.keep [2] (.ops [⟨(some 26), (.move (.tmp 4)), none, []⟩,
    ⟨(some 27), (.move (.tmp 3)), none, []⟩,
    ⟨(some 28), (.convInt .u8 (.tmp 27)), none, []⟩,
    ⟨(some 29), (.buildSlice 1 [(.int .u8 0)] [(0, 1, (.tmp 28))]), none, []⟩,
    ⟨(some 30), (.append 1 1 (.tmp 26) (.tmp 29)), none, []⟩,
    ⟨(some 2), (.move (.tmp 30)), none, []⟩]))
  .ret))))))
theorem t52 : trF Tryd.prog Tryd.f52 s52 = some s52 := by kernel_rfl
theorem k52 : okS s52 = true := by kernel_rfl
theorem r52 : resT Tryd.prog Tryd.f52.results.toList = some [.t 2] := by kernel_rfl

def s53 : S :=
  (.seq (.keep [0] (.ops [⟨(some 2), (.move (.const (.slice none 0 0))), none, []⟩]))
  (.seq (.keep [2] (.ops [⟨(some 3), (.move (.tmp 0)), none, []⟩,
    ⟨(some 4), (.call (.func 74) [(.tmp 3), (.func 49)]), none, []⟩,
    ⟨(some 2), (.move (.tmp 4)), none, []⟩]))
  .ret))
theorem t53 : trF Tryd.prog Tryd.f53 s53 = some s53 := by kernel_rfl
theorem k53 : okS s53 = true := by kernel_rfl
theorem r53 : resT Tryd.prog Tryd.f53.results.toList = some [.t 2] := by kernel_rfl

def s54 : S :=
  (.seq (.keep [0] (.ops [⟨(some 2), (.move (.const (.slice none 0 0))), none, []⟩]))
  (.seq (.keep [0, 3] (.ops [⟨(some 5), (.move (.tmp 0)), none, []⟩,
    ⟨(some 6), (.len (.tmp 5)), none, []⟩,
    ⟨(some 7), (.call (.func 52) [(.tmp 6)]), none, []⟩,
    ⟨(some 3), (.move (.tmp 7)), none, []⟩]))
  (.seq (.keep [3] (.seq (.keep [0, 3, 4] (.ops [⟨(some 4), (.move (.const (.int .i64 0))), none, []⟩]))
  (.block 0
    (.loop
      (.keep [0, 3, 4] (.seq (.keep [0, 3, 4] (.seq (.keep [0, 3, 4, 11] (.ops [⟨(some 8), (.move (.tmp 4)), none, []⟩,
        ⟨(some 9), (.move (.tmp 0)), none, []⟩,
        ⟨(some 10), (.len (.tmp 9)), none, []⟩,
        ⟨(some 11), (.bin .lss (.tmp 8) (.tmp 10)), none, []⟩]))
      (.cond (.tmp 11)
        .skip
        (.exit 0))))
      (.seq (.keep [0, 3, 4] (.block 1
        (.ops [⟨(some 14), (.move (.tmp 3)), none, []⟩,
          ⟨(some 15), (.move (.tmp 0)), none, []⟩,
          ⟨(some 16), (.move (.tmp 4)), none, []⟩,
          ⟨(some 17), (.indexAddr 1 (.tmp 15) (.tmp 16)), none, []⟩,
          ⟨(some 18), (.load none (.tmp 17)), none, []⟩,
          ⟨(some 19), (.call (.func 52) [(.tmp 18)]), none, []⟩,
          ⟨(some 20), (.append 1 1 (.tmp 14) (.tmp 19)), none, []⟩,
          ⟨(some 3), (.move (.tmp 20)), none, []⟩])))
      (.ops [⟨(some 12), (.move (.tmp 4)), none, []⟩,
        ⟨(some 13), (.bin .add (.tmp 12) (.const (.int .i64 1))), none, []⟩,
        ⟨(some 4), (.move (.tmp 13)), none, []⟩]))))))))
  (.seq (.keep [2] (.ops [⟨(some 21), (.move (.tmp 3)), none, []⟩,
    ⟨(some 2), (.move (.tmp 21)), none, []⟩]))
  .ret))))
theorem t54 : trF Tryd.prog Tryd.f54 s54 = some s54 := by kernel_rfl
theorem k54 : okS s54 = true := by kernel_rfl
theorem r54 : resT Tryd.prog Tryd.f54.results.toList = some [.t 2] := by kernel_rfl

def s55 : S :=
  (.seq (.keep [1] (.ops [⟨(some 1), (.box (.tmp 0)), none, []⟩,
    ⟨(some 2), (.move (.const (.int .i64 0))), none, []⟩]))
  (.seq (.keep [1] (.seq (.keep [1, 6] (.ops [⟨(some 3), (.fieldAddr 18 (.tmp 1)), none, []⟩,
    ⟨(some 4), (.load none (.tmp 3)), none, []⟩,
    ⟨(some 5), (.len (.tmp 4)), none, []⟩,
    ⟨(some 6), (.bin .eql (.tmp 5) (.const (.int .i64 0))), none, []⟩]))
  (.cond (.tmp 6)
    (.seq (.keep [2] (.ops [⟨(some 2), (.move (.const (.int .i64 0))), none, []⟩]))
    .ret)
    .skip)))
  (.seq (.keep [2] (.ops [⟨(some 7), (.fieldAddr 18 (.tmp 1)), none, []⟩,
    ⟨(some 8), (.load none (.tmp 7)), none, []⟩,
    ⟨(some 9), (.fieldAddr 18 (.tmp 1)), none, []⟩,
    ⟨(some 10), (.load none (.tmp 9)), none, []⟩,
    ⟨(some 11), (.len (.tmp 10)), none, []⟩,
    ⟨(some 12), (.bin .sub (.tmp 11) (.const (.int .i64 1))), none, []⟩,
    ⟨(some 13), (.indexAddr 33 (.tmp 8) (.tmp 12)), none, []⟩,
    ⟨(some 14), (.fieldAddr 0 (.tmp 13)), none, []⟩,
    ⟨(some 15), (.load none (.tmp 14)), none, []⟩,
    ⟨(some 2), (.move (.tmp 15)), none, []⟩]))
  .ret)))
theorem t55 : trF Tryd.prog Tryd.f55 s55 = some s55 := by kernel_rfl
theorem k55 : okS s55 = true := by kernel_rfl
theorem r55 : resT Tryd.prog Tryd.f55.results.toList = some [.t 2] := by kernel_rfl

def s56 : S :=
  (.seq (.keep [0, 2, 4, 6] (.ops [⟨(some 4), (.box (.tmp 1)), none, []⟩,
    ⟨(some 6), (.alloc (.agg (List.replicate 16 (.int .u8 0)).toArray)), none, []⟩]))
  (.seq (.keep [6] (.draw [0, 0, 2, 0, 8, 24, 63, 127, 255] [⟨0, 0, [], ⟨(some 7), (.move (.tmp 0)), none, []⟩⟩,
    ⟨1, 0, [], ⟨(some 8), (.sliceArr 16 1 (.tmp 4) none none none), none, []⟩⟩,
    ⟨2, 2, [], ⟨(some 9), (.bytesStr (.tmp 8)), none, []⟩⟩,
    ⟨3, 0, [], ⟨(some 10), (.move (.tmp 2)), none, []⟩⟩,
    ⟨4, 8, [2], ⟨(some 11), (.call (.func 49) [(.tmp 10)]), none, [((.bytesStr (.tmp 8)), none, (some 9))]⟩⟩,
    ⟨5, 24, [], ⟨(some 12), (.bytesStr (.tmp 11)), none, []⟩⟩,
    ⟨6, 63, [], ⟨(some 13), (.buildSlice 3 [(.string ⟨#[]⟩), (.string ⟨#[]⟩), (.string ⟨#[]⟩)] [(0, 1, (.tmp 7)), (1, 1, (.tmp 9)), (2, 1, (.tmp 12))]), none, []⟩⟩,
    ⟨7, 127, [], ⟨(some 14), (.call (.func 48) [(.const (.int .i64 292)), (.tmp 13)]), none, []⟩⟩,
    ⟨8, 255, [], ⟨none, (.store 16 (.tmp 6) (.tmp 14)), none, []⟩⟩]))
  .ret))
theorem t56 : trF Tryd.prog Tryd.f56 s56 = some s56 := by kernel_rfl
theorem k56 : okS s56 = true := by kernel_rfl
theorem r56 : resT Tryd.prog Tryd.f56.results.toList = some [.c 6 (some 16)] := by kernel_rfl

def s57 : S :=
  (.seq (.keep [1] (.ops [⟨(some 1), (.box (.tmp 0)), none, []⟩,
    ⟨(some 2), (.move (.const (.int .i64 0))), none, []⟩]))
  (.seq (.keep [1, 3] (.ops [⟨(some 3), (.move (.const (.int .i64 0))), none, []⟩]))
  (.seq (.keep [3] (.seq (.keep [1, 3, 4] (.ops [⟨(some 4), (.move (.const (.int .i64 0))), none, []⟩]))
  (.block 0
    (.loop
      (.keep [1, 3, 4] (.seq (.keep [1, 4] (.seq (.keep [1, 3, 4, 9] (.ops [⟨(some 5), (.move (.tmp 4)), none, []⟩,
        ⟨(some 6), (.fieldAddr 18 (.tmp 1)), none, []⟩,
        ⟨(some 7), (.load none (.tmp 6)), none, []⟩,
        ⟨(some 8), (.len (.tmp 7)), none, []⟩,
        ⟨(some 9), (.bin .lss (.tmp 5) (.tmp 8)), none, []⟩]))
      (.cond (.tmp 9)
        .skip
        (.exit 0))))
      (.seq (.keep [1, 3, 4] (.block 1
        (.ops [⟨(some 12), (.fieldAddr 18 (.tmp 1)), none, []⟩,
          ⟨(some 13), (.load none (.tmp 12)), none, []⟩,
          ⟨(some 14), (.move (.tmp 4)), none, []⟩,
          ⟨(some 15), (.indexAddr 33 (.tmp 13) (.tmp 14)), none, []⟩,
          ⟨(some 16), (.fieldAddr 0 (.tmp 15)), none, []⟩,
          ⟨(some 17), (.load none (.tmp 16)), none, []⟩,
          ⟨(some 3), (.move (.tmp 17)), none, []⟩])))
      (.ops [⟨(some 10), (.move (.tmp 4)), none, []⟩,
        ⟨(some 11), (.bin .add (.tmp 10) (.const (.int .i64 1))), none, []⟩,
        ⟨(some 4), (.move (.tmp 11)), none, []⟩]))))))))
  (.seq (.keep [2] (.ops [⟨(some 18), (.move (.tmp 3)), none, []⟩,
    ⟨(some 2), (.move (.tmp 18)), none, []⟩]))
  .ret))))
theorem t57 : trF Tryd.prog Tryd.f57 s57 = some s57 := by kernel_rfl
theorem k57 : okS s57 = true := by kernel_rfl
theorem r57 : resT Tryd.prog Tryd.f57.results.toList = some [.t 2] := by kernel_rfl

def s58 : S :=
  (.seq (.keep [0, 2, 4, 6] (.ops [⟨(some 4), (.box (.tmp 1)), none, []⟩,
    ⟨(some 6), (.alloc (.agg (List.replicate 16 (.int .u8 0)).toArray)), none, []⟩]))
  (.seq (.keep [6, 7] (.ops [⟨(some 10), (.move (.tmp 0)), none, []⟩,
    ⟨(some 11), (.load (some 16) (.tmp 4)), none, []⟩,
    ⟨(some 12), (.call (.func 51) [(.tmp 11)]), none, []⟩,
    ⟨(some 13), (.move (.tmp 2)), none, []⟩,
    ⟨(some 14), (.call (.func 52) [(.tmp 13)]), none, []⟩,
    ⟨(some 15), (.bytesStr (.tmp 14)), none, []⟩,
    ⟨(some 16), (.buildSlice 3 [(.string ⟨#[]⟩), (.string ⟨#[]⟩), (.string ⟨#[]⟩)] [(0, 1, (.tmp 10)), (1, 1, (.tmp 12)), (2, 1, (.tmp 15))]), none, []⟩,
    ⟨(some 17), (.call (.func 50) [(.const (.int .i64 292)), (.tmp 16)]), none, []⟩,
    ⟨(some 7), (.alloc (.agg (List.replicate 16 (.int .u8 0)).toArray)), none, []⟩,
    ⟨none, (.store 16 (.tmp 7) (.tmp 17)), none, []⟩]))
  (.seq (.keep [6, 7, 8] (.ops [⟨(some 18), (.build (List.replicate 16 (.int .u8 0)) []), none, []⟩,
    ⟨(some 8), (.alloc (.agg (List.replicate 16 (.int .u8 0)).toArray)), none, []⟩,
    ⟨none, (.store 16 (.tmp 8) (.tmp 18)), none, []⟩]))
  (.seq (.keep [6, 8] (.seq (.keep [6, 7, 8, 9] (.ops [⟨(some 9), (.move (.const (.int .i64 0))), none, []⟩]))
  (.block 0
    (.loop
      (.keep [6, 7, 8, 9] (.seq (.keep [6, 7, 8, 9] (.seq (.keep [6, 7, 8, 9, 20] (.ops [⟨(some 19), (.move (.tmp 9)), none, []⟩,
        ⟨(some 20), (.bin .lss (.tmp 19) (.const (.int .i64 16))), none, []⟩]))
      (.cond (.tmp 20)
        .skip
        (.exit 0))))
      (.seq (.keep [6, 7, 8, 9] (.block 1
        (.ops [⟨(some 23), (.move (.tmp 9)), none, []⟩,
          ⟨(some 24), (.move (.tmp 9)), none, []⟩,
          ⟨(some 25), (.indexArr 16 1 (.tmp 7) (.tmp 24)), none, []⟩,
          ⟨(some 26), (.load none (.tmp 25)), none, []⟩,
          ⟨(some 27), (.indexArr 16 1 (.tmp 8) (.tmp 23)), none, []⟩,
          ⟨none, (.store 1 (.tmp 27) (.tmp 26)), none, []⟩])))
      (.ops [⟨(some 21), (.move (.tmp 9)), none, []⟩,
        ⟨(some 22), (.bin .add (.tmp 21) (.const (.int .i64 1))), none, []⟩,
        ⟨(some 9), (.move (.tmp 22)), none, []⟩]))))))))
  (.seq (.keep [6] (.ops [⟨(some 28), (.load (some 16) (.tmp 8)), none, []⟩,
    ⟨none, (.store 16 (.tmp 6) (.tmp 28)), none, []⟩]))
  .ret)))))
theorem t58 : trF Tryd.prog Tryd.f58 s58 = some s58 := by kernel_rfl
theorem k58 : okS s58 = true := by kernel_rfl
theorem r58 : resT Tryd.prog Tryd.f58.results.toList = some [.c 6 (some 16)] := by kernel_rfl

def s67 : S :=
  (.seq (.keep [0, 1, 3] (.ops [⟨(some 6), (.fieldAddr 0 (.tmp 1)), none, []⟩,
    ⟨(some 7), (.load (some 16) (.tmp 6)), none, []⟩,
    ⟨(some 8), (.fieldAddr 16 (.tmp 1)), none, []⟩,
    ⟨(some 9), (.load none (.tmp 8)), none, []⟩,
    ⟨(some 10), (.call (.func 17) [(.tmp 7), (.tmp 9)]), none, []⟩,
    ⟨(some 3), (.alloc (.agg (List.replicate 16 (.int .u8 0)).toArray)), none, []⟩,
    ⟨none, (.store 16 (.tmp 3) (.tmp 10)), none, []⟩]))
  (.seq (.keep [0, 1, 3] (.seq (.keep [0, 1, 3, 12, 13, 14] (.ops [⟨(some 11), (.fieldAddr 17 (.tmp 1)), none, []⟩,
    ⟨(some 12), (.load none (.tmp 11)), none, []⟩,
    ⟨(some 13), (.len (.tmp 12)), none, []⟩,
    ⟨(some 14), (.move (.const (.int .i64 0))), none, []⟩]))
  (.block 0
    (.loop
      (.keep [0, 1, 3, 12, 13, 14] (.seq (.keep [0, 1, 3, 12, 13, 14, 15] (.ops [⟨(some 15), (.bin .lss (.tmp 14) (.tmp 13)), none, []⟩]))
      (.seq (.keep [0, 1, 3, 12, 13, 14] (.cond (.tmp 15)
        .skip
        (.exit 0)))
      (.seq (.keep [0, 1, 3, 12, 13, 14] (.block 1
        (.seq (.keep [0, 1, 3, 4, 5, 12, 13, 14] (.ops [⟨(some 16), (.move (.tmp 14)), none, []⟩,
          ⟨(some 17), (.indexAddr 5 (.tmp 12) (.tmp 14)), none, []⟩,
          ⟨(some 18), (.load (some 5) (.tmp 17)), none, []⟩,
          ⟨(some 5), (.alloc (.agg #[(.int .i64 0), (.int .i64 0), (.int .i64 0), (.int .i64 0), (.string ⟨#[]⟩)])), none, []⟩,
          ⟨(some 4), (.move (.tmp 16)), none, []⟩,
          ⟨none, (.store 5 (.tmp 5) (.tmp 18)), none, []⟩]))
        (.seq (.keep [0, 1, 3, 5, 12, 13, 14] (.seq (.keep [0, 1, 3, 5, 12, 13, 14, 23] (.ops [⟨(some 19), (.move (.tmp 0)), none, []⟩,
          ⟨(some 20), (.move (.tmp 4)), none, []⟩,
          ⟨(some 21), (.load (some 16) (.tmp 3)), none, []⟩,
          ⟨(some 22), (.call (.tmp 19) [(.tmp 20), (.tmp 21)]), none, []⟩,
          ⟨(some 23), (.un .not (.tmp 22)), none, []⟩]))
        (.cond (.tmp 23)
          .ret
          .skip)))
        (.ops [⟨(some 24), (.load (some 16) (.tmp 3)), none, []⟩,
          ⟨(some 25), (.load (some 5) (.tmp 5)), none, []⟩,
          ⟨(some 26), (.call (.func 19) [(.tmp 24), (.tmp 25)]), none, []⟩,
          ⟨none, (.store 16 (.tmp 3) (.tmp 26)), none, []⟩])))))
      (.ops [⟨(some 27), (.bin .add (.tmp 14) (.const (.int .i64 1))), none, []⟩,
        ⟨(some 14), (.move (.tmp 27)), none, []⟩])))))))))
  (.ops [⟨(some 28), (.move (.tmp 0)), none, []⟩,
    ⟨(some 29), (.fieldAddr 17 (.tmp 1)), none, []⟩,
    ⟨(some 30), (.load none (.tmp 29)), none, []⟩,
    ⟨(some 31), (.len (.tmp 30)), none, []⟩,
    ⟨(some 32), (.load (some 16) (.tmp 3)), none, []⟩,
    ⟨(some 33), (.call (.tmp 28) [(.tmp 31), (.tmp 32)]), none, []⟩])))
theorem t67 : trF Tryd.prog Tryd.f67 s67 = some s67 := by kernel_rfl
theorem k67 : okS s67 = true := by kernel_rfl
theorem r67 : resT Tryd.prog Tryd.f67.results.toList = some [] := by kernel_rfl

def s68 : S :=
  (.seq (.keep [0] (.ops [⟨(some 0), (.alloc (.agg #[(.int .u32 0), (.int .u32 0), (.int .u32 0), (.int .u32 0), (.int .u32 0), (.int .u32 0), (.int .u32 0), (.int .u32 0), (.int .u8 0), (.int .u8 0), (.int .u8 0), (.int .u8 0), (.int .u8 0), (.int .u8 0), (.int .u8 0), (.int .u8 0), (.int .u8 0), (.int .u8 0), (.int .u8 0), (.int .u8 0), (.int .u8 0), (.int .u8 0), (.int .u8 0), (.int .u8 0), (.int .u8 0), (.int .u8 0), (.int .u8 0), (.int .u8 0), (.int .u8 0), (.int .u8 0), (.int .u8 0), (.int .u8 0), (.int .u8 0), (.int .u8 0), (.int .u8 0), (.int .u8 0), (.int .u8 0), (.int .u8 0), (.int .u8 0), (.int .u8 0), (.int .u8 0), (.int .u8 0), (.int .u8 0), (.int .u8 0), (.int .u8 0), (.int .u8 0), (.int .u8 0), (.int .u8 0), (.int .u8 0), (.int .u8 0), (.int .u8 0), (.int .u8 0), (.int .u8 0), (.int .u8 0), (.int .u8 0), (.int .u8 0), (.int .u8 0), (.int .u8 0), (.int .u8 0), (.int .u8 0), (.int .u8 0), (.int .u8 0), (.int .u8 0), (.int .u8 0), (.int .u8 0), (.int .u8 0), (.int .u8 0), (.int .u8 0), (.int .u8 0), (.int .u8 0), (.int .u8 0), (.int .u8 0), (.int .u64 0)])), none, []⟩]))
  (.seq (.keep [0] (.ops [⟨(some 1), (.build (List.replicate 8 (.int .u32 0)) [(0, 1, (.const (.int .u32 1779033703))), (1, 1, (.const (.int .u32 3144134277))), (2, 1, (.const (.int .u32 1013904242))), (3, 1, (.const (.int .u32 2773480762))), (4, 1, (.const (.int .u32 1359893119))), (5, 1, (.const (.int .u32 2600822924))), (6, 1, (.const (.int .u32 528734635))), (7, 1, (.const (.int .u32 1541459225)))]), none, []⟩,
    ⟨(some 2), (.build [(.int .u32 0), (.int .u32 0), (.int .u32 0), (.int .u32 0), (.int .u32 0), (.int .u32 0), (.int .u32 0), (.int .u32 0), (.int .u8 0), (.int .u8 0), (.int .u8 0), (.int .u8 0), (.int .u8 0), (.int .u8 0), (.int .u8 0), (.int .u8 0), (.int .u8 0), (.int .u8 0), (.int .u8 0), (.int .u8 0), (.int .u8 0), (.int .u8 0), (.int .u8 0), (.int .u8 0), (.int .u8 0), (.int .u8 0), (.int .u8 0), (.int .u8 0), (.int .u8 0), (.int .u8 0), (.int .u8 0), (.int .u8 0), (.int .u8 0), (.int .u8 0), (.int .u8 0), (.int .u8 0), (.int .u8 0), (.int .u8 0), (.int .u8 0), (.int .u8 0), (.int .u8 0), (.int .u8 0), (.int .u8 0), (.int .u8 0), (.int .u8 0), (.int .u8 0), (.int .u8 0), (.int .u8 0), (.int .u8 0), (.int .u8 0), (.int .u8 0), (.int .u8 0), (.int .u8 0), (.int .u8 0), (.int .u8 0), (.int .u8 0), (.int .u8 0), (.int .u8 0), (.int .u8 0), (.int .u8 0), (.int .u8 0), (.int .u8 0), (.int .u8 0), (.int .u8 0), (.int .u8 0), (.int .u8 0), (.int .u8 0), (.int .u8 0), (.int .u8 0), (.int .u8 0), (.int .u8 0), (.int .u8 0), (.int .u64 0)] [(0, 8, (.tmp 1))]), none, []⟩,
    ⟨none, (.store 73 (.tmp 0) (.tmp 2)), none, []⟩]))
  .ret))
theorem t68 : trF Tryd.prog Tryd.f68 s68 = some s68 := by kernel_rfl
theorem k68 : okS s68 = true := by kernel_rfl
theorem r68 : resT Tryd.prog Tryd.f68.results.toList = some [.c 0 (some 73)] := by kernel_rfl

def s69 : S :=
  (.seq (.keep [1, 2, 4] (.ops [⟨(some 2), (.box (.tmp 0)), none, []⟩,
    ⟨(some 4), (.alloc (.agg #[(.int .u32 0), (.int .u32 0), (.int .u32 0), (.int .u32 0), (.int .u32 0), (.int .u32 0), (.int .u32 0), (.int .u32 0), (.int .u8 0), (.int .u8 0), (.int .u8 0), (.int .u8 0), (.int .u8 0), (.int .u8 0), (.int .u8 0), (.int .u8 0), (.int .u8 0), (.int .u8 0), (.int .u8 0), (.int .u8 0), (.int .u8 0), (.int .u8 0), (.int .u8 0), (.int .u8 0), (.int .u8 0), (.int .u8 0), (.int .u8 0), (.int .u8 0), (.int .u8 0), (.int .u8 0), (.int .u8 0), (.int .u8 0), (.int .u8 0), (.int .u8 0), (.int .u8 0), (.int .u8 0), (.int .u8 0), (.int .u8 0), (.int .u8 0), (.int .u8 0), (.int .u8 0), (.int .u8 0), (.int .u8 0), (.int .u8 0), (.int .u8 0), (.int .u8 0), (.int .u8 0), (.int .u8 0), (.int .u8 0), (.int .u8 0), (.int .u8 0), (.int .u8 0), (.int .u8 0), (.int .u8 0), (.int .u8 0), (.int .u8 0), (.int .u8 0), (.int .u8 0), (.int .u8 0), (.int .u8 0), (.int .u8 0), (.int .u8 0), (.int .u8 0), (.int .u8 0), (.int .u8 0), (.int .u8 0), (.int .u8 0), (.int .u8 0), (.int .u8 0), (.int .u8 0), (.int .u8 0), (.int .u8 0), (.int .u64 0)])), none, []⟩]))
  (.seq (.keep [2, 4] (.block 0
    (.loop
      (.keep [1, 2, 4] (.seq (.keep [1, 2, 4] (.seq (.keep [1, 2, 4, 8] (.ops [⟨(some 7), (.move (.tmp 1)), none, []⟩,
        ⟨(some 8), (.bin .neq (.tmp 7) (.const (.string ⟨#[]⟩))), none, []⟩]))
      (.cond (.tmp 8)
        .skip
        (.exit 0))))
      (.block 1
        (.seq (.keep [1, 2, 4, 5] (.ops [⟨(some 9), (.fieldAddr 72 (.tmp 2)), none, []⟩,
          ⟨(some 10), (.load none (.tmp 9)), none, []⟩,
          ⟨(some 11), (.bin .rem (.tmp 10) (.const (.int .u64 64))), none, []⟩,
          ⟨(some 12), (.convInt .i64 (.tmp 11)), none, []⟩,
          ⟨(some 5), (.move (.tmp 12)), none, []⟩]))
        (.seq (.keep [1, 2, 4, 5, 6] (.ops [⟨(some 13), (.fieldAddr 8 (.tmp 2)), none, []⟩,
          ⟨(some 14), (.move (.tmp 5)), none, []⟩,
          ⟨(some 15), (.sliceArr 64 1 (.tmp 13) (some (.tmp 14)) none none), none, []⟩,
          ⟨(some 16), (.move (.tmp 1)), none, []⟩,
          ⟨(some 17), (.copy 1 (.tmp 15) (.tmp 16)), none, []⟩,
          ⟨(some 6), (.move (.tmp 17)), none, []⟩]))
        (.seq (.keep [1, 2, 4, 5, 6] (.ops [⟨(some 18), (.move (.tmp 1)), none, []⟩,
          ⟨(some 19), (.move (.tmp 6)), none, []⟩,
          ⟨(some 20), (.sliceStr (.tmp 18) (some (.tmp 19)) none), none, []⟩,
          ⟨(some 1), (.move (.tmp 20)), none, []⟩]))
        (.seq (.keep [1, 2, 4, 5, 6] (.ops [⟨(some 21), (.fieldAddr 72 (.tmp 2)), none, []⟩,
          ⟨(some 22), (.load none (.tmp 21)), none, []⟩,
          ⟨(some 23), (.move (.tmp 6)), none, []⟩,
          ⟨(some 24), (.convInt .u64 (.tmp 23)), none, []⟩,
          ⟨(some 25), (.bin .add (.tmp 22) (.tmp 24)), none, []⟩,
          ⟨(some 26), (.fieldAddr 72 (.tmp 2)), none, []⟩,
          ⟨none, (.store 1 (.tmp 26) (.tmp 25)), none, []⟩]))
        (.seq (.keep [1, 2, 4, 30] (.ops [⟨(some 27), (.move (.tmp 5)), none, []⟩,
          ⟨(some 28), (.move (.tmp 6)), none, []⟩,
          ⟨(some 29), (.bin .add (.tmp 27) (.tmp 28)), none, []⟩,
          ⟨(some 30), (.bin .eql (.tmp 29) (.const (.int .i64 64))), none, []⟩]))
        (.cond (.tmp 30)
          (.draw [0, 1, 0, 4, 15, 31, 63] [⟨0, 0, [], ⟨(some 31), (.fieldAddr 0 (.tmp 2)), none, []⟩⟩,
            ⟨1, 1, [], ⟨(some 32), (.load (some 8) (.tmp 31)), none, []⟩⟩,
            ⟨2, 0, [], ⟨(some 33), (.fieldAddr 8 (.tmp 2)), none, []⟩⟩,
            ⟨3, 4, [], ⟨(some 34), (.sliceArr 64 1 (.tmp 33) none none none), none, []⟩⟩,
            ⟨4, 15, [], ⟨(some 35), (.call (.func 84) [(.tmp 32), (.tmp 34)]), none, []⟩⟩,
            ⟨5, 31, [], ⟨(some 36), (.fieldAddr 0 (.tmp 2)), none, []⟩⟩,
            ⟨6, 63, [], ⟨none, (.store 8 (.tmp 36) (.tmp 35)), none, []⟩⟩])
          .skip))))))))))))
  (.seq (.keep [4] (.ops [⟨(some 37), (.load (some 73) (.tmp 2)), none, []⟩,
    ⟨none, (.store 73 (.tmp 4) (.tmp 37)), none, []⟩]))
  .ret)))
theorem t69 : trF Tryd.prog Tryd.f69 s69 = some s69 := by kernel_rfl
theorem k69 : okS s69 = true := by kernel_rfl
theorem r69 : resT Tryd.prog Tryd.f69.results.toList = some [.c 4 (some 73)] := by kernel_rfl

def s70 : S :=
  (.seq (.keep [0] (.ops [⟨(some 2), (.move (.const (.slice none 0 0))), none, []⟩]))
  (.seq (.keep [2] (.ops [⟨(some 3), (.move (.tmp 0)), none, []⟩,
    ⟨(some 4), (.lenStr (.tmp 3)), none, []⟩,
    ⟨(some 5), (.call (.func 49) [(.tmp 4)]), none, []⟩,
    ⟨(some 6), (.move (.tmp 0)), none, []⟩,
    ⟨(some 7), (.append 1 1 (.tmp 5) (.tmp 6)), none, []⟩,
    ⟨(some 2), (.move (.tmp 7)), none, []⟩]))
  .ret))
theorem t70 : trF Tryd.prog Tryd.f70 s70 = some s70 := by kernel_rfl
theorem k70 : okS s70 = true := by kernel_rfl
theorem r70 : resT Tryd.prog Tryd.f70.results.toList = some [.t 2] := by kernel_rfl

def s71 : S :=
  (.seq (.keep [1, 2] (.ops [⟨(some 1), (.box (.tmp 0)), none, []⟩,
    ⟨(some 2), (.alloc (.agg (List.replicate 32 (.int .u8 0)).toArray)), none, []⟩]))
  (.seq (.keep [1, 2, 3] (.ops [⟨(some 8), (.fieldAddr 72 (.tmp 1)), none, []⟩,
    ⟨(some 9), (.load none (.tmp 8)), none, []⟩,
    ⟨(some 10), (.bin .mul (.const (.int .u64 8)) (.tmp 9)), none, []⟩,
    ⟨(some 3), (.move (.tmp 10)), none, []⟩]))
  (.seq (.keep [1, 2, 3, 4] (.ops [⟨(some 11), (.buildSlice 1 [(.int .u8 0)] [(0, 1, (.const (.int .u8 128)))]), none, []⟩,
    ⟨(some 4), (.move (.tmp 11)), none, []⟩]))
  (.seq (.keep [1, 2, 3, 4] (.block 0
    (.loop
      (.keep [1, 2, 3, 4] (.seq (.keep [1, 2, 3, 4] (.seq (.keep [1, 2, 3, 4, 19] (.ops [⟨(some 12), (.fieldAddr 72 (.tmp 1)), none, []⟩,
        ⟨(some 13), (.load none (.tmp 12)), none, []⟩,
        ⟨(some 14), (.convInt .i64 (.tmp 13)), none, []⟩,
        ⟨(some 15), (.move (.tmp 4)), none, []⟩,
        ⟨(some 16), (.len (.tmp 15)), none, []⟩,
        ⟨(some 17), (.bin .add (.tmp 14) (.tmp 16)), none, []⟩,
        ⟨(some 18), (.bin .rem (.tmp 17) (.const (.int .i64 64))), none, []⟩,
        ⟨(some 19), (.bin .neq (.tmp 18) (.const (.int .i64 56))), none, []⟩]))
      (.cond (.tmp 19)
        .skip
        (.exit 0))))
      (.block 1
        (.ops [⟨(some 20), (.move (.tmp 4)), none, []⟩,
          ⟨(some 21), (.buildSlice 1 [(.int .u8 0)] [(0, 1, (.const (.int .u8 0)))]), none, []⟩,
          ⟨(some 22), (.append 1 1 (.tmp 20) (.tmp 21)), none, []⟩,
          ⟨(some 4), (.move (.tmp 22)), none, []⟩])))))))
  (.seq (.keep [1, 2, 4] (.seq (.keep [1, 2, 3, 4, 23] (.ops [⟨(some 23), (.move (.const (.int .i64 0))), none, []⟩]))
  (.block 2
    (.loop
      (.keep [1, 2, 3, 4, 23] (.seq (.keep [1, 2, 3, 4, 23, 24] (.ops [⟨(some 24), (.bin .lss (.tmp 23) (.const (.int .i64 8))), none, []⟩]))
      (.seq (.keep [1, 2, 3, 4, 23] (.cond (.tmp 24)
        .skip
        (.exit 2)))
      (.seq (.keep [1, 2, 3, 4, 23] (.block 3
        (.seq (.keep [1, 2, 3, 4, 5, 23] (.ops [⟨(some 25), (.move (.tmp 23)), none, []⟩,
          ⟨(some 5), (.move (.tmp 25)), none, []⟩]))
        (.ops [⟨(some 26), (.move (.tmp 4)), none, []⟩,
          ⟨(some 27), (.move (.tmp 3)), none, []⟩,
          ⟨(some 28), (.move (.tmp 5)), none, []⟩,
          ⟨(some 29), (.bin .mul (.const (.int .i64 8)) (.tmp 28)), none, []⟩,
          ⟨(some 30), (.bin .sub (.const (.int .i64 56)) (.tmp 29)), none, []⟩,
          ⟨(some 31), (.bin .shr (.tmp 27) (.tmp 30)), none, []⟩,
          ⟨(some 32), (.convInt .u8 (.tmp 31)), none, []⟩,
          ⟨(some 33), (.buildSlice 1 [(.int .u8 0)] [(0, 1, (.tmp 32))]), none, []⟩,
          ⟨(some 34), (.append 1 1 (.tmp 26) (.tmp 33)), none, []⟩,
          ⟨(some 4), (.move (.tmp 34)), none, []⟩]))))
      (.ops [⟨(some 35), (.bin .add (.tmp 23) (.const (.int .i64 1))), none, []⟩,
        ⟨(some 23), (.move (.tmp 35)), none, []⟩])))))))))
  (.seq (.keep [1, 2] (.ops [⟨(some 36), (.load (some 73) (.tmp 1)), none, []⟩,
    ⟨(some 37), (.move (.tmp 4)), none, []⟩,
    ⟨(some 38), (.bytesStr (.tmp 37)), none, []⟩,
    ⟨(some 39), (.call (.func 69) [(.tmp 36), (.tmp 38)]), none, []⟩,
    ⟨none, (.store 73 (.tmp 1) (.tmp 39)), none, []⟩]))
  (.seq (.keep [1, 2, 6] (.ops [⟨(some 6), (.alloc (.agg (List.replicate 32 (.int .u8 0)).toArray)), none, []⟩]))
  (.seq (.keep [2, 6] (.seq (.keep [1, 2, 6, 40] (.ops [⟨(some 40), (.move (.const (.int .i64 0))), none, []⟩]))
  (.block 4
    (.loop
      (.keep [1, 2, 6, 40] (.seq (.keep [1, 2, 6, 40, 41] (.ops [⟨(some 41), (.bin .lss (.tmp 40) (.const (.int .i64 32))), none, []⟩]))
      (.seq (.keep [1, 2, 6, 40] (.cond (.tmp 41)
        .skip
        (.exit 4)))
      (.seq (.keep [1, 2, 6, 40] (.block 5
        (.seq (.keep [1, 2, 6, 7, 40] (.ops [⟨(some 42), (.move (.tmp 40)), none, []⟩,
          ⟨(some 7), (.move (.tmp 42)), none, []⟩]))
        (.ops [⟨(some 43), (.move (.tmp 7)), none, []⟩,
          ⟨(some 44), (.move (.tmp 7)), none, []⟩,
          ⟨(some 45), (.bin .quo (.tmp 44) (.const (.int .i64 4))), none, []⟩,
          ⟨(some 46), (.fieldAddr 0 (.tmp 1)), none, []⟩,
          ⟨(some 47), (.indexArr 8 1 (.tmp 46) (.tmp 45)), none, []⟩,
          ⟨(some 48), (.load none (.tmp 47)), none, []⟩,
          ⟨(some 49), (.move (.tmp 7)), none, []⟩,
          ⟨(some 50), (.bin .rem (.tmp 49) (.const (.int .i64 4))), none, []⟩,
          ⟨(some 51), (.bin .mul (.const (.int .i64 8)) (.tmp 50)), none, []⟩,
          ⟨(some 52), (.bin .sub (.const (.int .i64 24)) (.tmp 51)), none, []⟩,
          ⟨(some 53), (.bin .shr (.tmp 48) (.tmp 52)), none, []⟩,
          ⟨(some 54), (.convInt .u8 (.tmp 53)), none, []⟩,
          ⟨(some 55), (.indexArr 32 1 (.tmp 6) (.tmp 43)), none, []⟩,
          ⟨none, (.store 1 (.tmp 55) (.tmp 54)), none, []⟩]))))
      (.ops [⟨(some 56), (.bin .add (.tmp 40) (.const (.int .i64 1))), none, []⟩,
        ⟨(some 40), (.move (.tmp 56)), none, []⟩])))))))))
  (.seq (.keep [2] (.ops [⟨(some 57), (.load (some 32) (.tmp 6)), none, []⟩,
    ⟨none, (.store 32 (.tmp 2) (.tmp 57)), none, []⟩]))
  .ret)))))))))
theorem t71 : trF Tryd.prog Tryd.f71 s71 = some s71 := by kernel_rfl
theorem k71 : okS s71 = true := by kernel_rfl
theorem r71 : resT Tryd.prog Tryd.f71.results.toList = some [.c 2 (some 32)] := by kernel_rfl

def s72 : S :=
  (.seq (.keep [0, 2] (.ops [⟨(some 2), (.alloc (.agg (List.replicate 16 (.int .u8 0)).toArray)), none, []⟩]))
  (.seq (.keep [2, 3] (.ops [⟨(some 6), (.move (.tmp 0)), none, []⟩,
    ⟨(some 7), (.call (.func 85) [(.tmp 6)]), none, []⟩,
    ⟨(some 3), (.alloc (.agg (List.replicate 32 (.int .u8 0)).toArray)), none, []⟩,
    ⟨none, (.store 32 (.tmp 3) (.tmp 7)), none, []⟩]))
  (.seq (.keep [2, 3, 4] (.ops [⟨(some 8), (.build (List.replicate 16 (.int .u8 0)) []), none, []⟩,
    ⟨(some 4), (.alloc (.agg (List.replicate 16 (.int .u8 0)).toArray)), none, []⟩,
    ⟨none, (.store 16 (.tmp 4) (.tmp 8)), none, []⟩]))
  (.seq (.keep [2, 4] (.seq (.keep [2, 3, 4, 5] (.ops [⟨(some 5), (.move (.const (.int .i64 0))), none, []⟩]))
  (.block 0
    (.loop
      (.keep [2, 3, 4, 5] (.seq (.keep [2, 3, 4, 5] (.seq (.keep [2, 3, 4, 5, 10] (.ops [⟨(some 9), (.move (.tmp 5)), none, []⟩,
        ⟨(some 10), (.bin .lss (.tmp 9) (.const (.int .i64 16))), none, []⟩]))
      (.cond (.tmp 10)
        .skip
        (.exit 0))))
      (.seq (.keep [2, 3, 4, 5] (.block 1
        (.ops [⟨(some 13), (.move (.tmp 5)), none, []⟩,
          ⟨(some 14), (.move (.tmp 5)), none, []⟩,
          ⟨(some 15), (.indexArr 32 1 (.tmp 3) (.tmp 14)), none, []⟩,
          ⟨(some 16), (.load none (.tmp 15)), none, []⟩,
          ⟨(some 17), (.indexArr 16 1 (.tmp 4) (.tmp 13)), none, []⟩,
          ⟨none, (.store 1 (.tmp 17) (.tmp 16)), none, []⟩])))
      (.ops [⟨(some 11), (.move (.tmp 5)), none, []⟩,
        ⟨(some 12), (.bin .add (.tmp 11) (.const (.int .i64 1))), none, []⟩,
        ⟨(some 5), (.move (.tmp 12)), none, []⟩]))))))))
  (.seq (.keep [2] (.ops [⟨(some 18), (.load (some 16) (.tmp 4)), none, []⟩,
    ⟨none, (.store 16 (.tmp 2) (.tmp 18)), none, []⟩]))
  .ret)))))
theorem t72 : trF Tryd.prog Tryd.f72 s72 = some s72 := by kernel_rfl
theorem k72 : okS s72 = true := by kernel_rfl
theorem r72 : resT Tryd.prog Tryd.f72.results.toList = some [.c 2 (some 16)] := by kernel_rfl

def s73 : S :=
  (.seq (.keep [0, 1] (.ops [⟨(some 4), (.move (.const (.slice none 0 0))), none, []⟩]))
  (.seq (.keep [1, 5] (.ops [⟨(some 7), (.move (.tmp 0)), none, []⟩,
    ⟨(some 8), (.convInt .u8 (.tmp 7)), none, []⟩,
    ⟨(some 9), (.buildSlice 1 [(.int .u8 0)] [(0, 1, (.tmp 8))]), none, []⟩,
    ⟨(some 5), (.move (.tmp 9)), none, []⟩]))
  (.seq (.keep [5] (.seq (.keep [1, 5, 6] (.ops [⟨(some 6), (.move (.const (.int .i64 0))), none, []⟩]))
  (.block 0
    (.loop
      (.keep [1, 5, 6] (.seq (.keep [1, 5, 6] (.seq (.keep [1, 5, 6, 13] (.ops [⟨(some 10), (.move (.tmp 6)), none, []⟩,
        ⟨(some 11), (.move (.tmp 1)), none, []⟩,
        ⟨(some 12), (.len (.tmp 11)), none, []⟩,
        ⟨(some 13), (.bin .lss (.tmp 10) (.tmp 12)), none, []⟩]))
      (.cond (.tmp 13)
        .skip
        (.exit 0))))
      (.seq (.keep [1, 5, 6] (.block 1
        (.ops [⟨(some 16), (.move (.tmp 5)), none, []⟩,
          ⟨(some 17), (.move (.tmp 1)), none, []⟩,
          ⟨(some 18), (.move (.tmp 6)), none, []⟩,
          ⟨(some 19), (.indexAddr 1 (.tmp 17) (.tmp 18)), none, []⟩,
          ⟨(some 20), (.load none (.tmp 19)), none, []⟩,
          ⟨(some 21), (.call (.func 83) [(.tmp 20)]), none, []⟩,
          ⟨(some 22), (.append 1 1 (.tmp 16) (.tmp 21)), none, []⟩,
          ⟨(some 5), (.move (.tmp 22)), none, []⟩])))
      (.ops [⟨(some 14), (.move (.tmp 6)), none, []⟩,
        ⟨(some 15), (.bin .add (.tmp 14) (.const (.int .i64 1))), none, []⟩,
        ⟨(some 6), (.move (.tmp 15)), none, []⟩]))))))))
  (.seq (.keep [4] (.ops [⟨(some 23), (.move (.tmp 5)), none, []⟩,
    ⟨(some 4), (.move (.tmp 23)), none, []⟩]))
  .ret))))
theorem t73 : trF Tryd.prog Tryd.f73 s73 = some s73 := by kernel_rfl
theorem k73 : okS s73 = true := by kernel_rfl
theorem r73 : resT Tryd.prog Tryd.f73.results.toList = some [.t 4] := by kernel_rfl

def s74 : S :=
  (.seq (.keep [0, 1] (.ops [⟨(some 4), (.move (.const (.slice none 0 0))), none, []⟩]))
  (.seq (.keep [0, 1, 5] (.ops [⟨(some 8), (.move (.tmp 0)), none, []⟩,
    ⟨(some 9), (.len (.tmp 8)), none, []⟩,
    ⟨(some 10), (.call (.func 49) [(.tmp 9)]), none, []⟩,
    ⟨(some 5), (.move (.tmp 10)), none, []⟩]))
  (.seq (.keep [5] (.seq (.keep [1, 5, 11, 12, 13] (.ops [⟨(some 11), (.move (.tmp 0)), none, []⟩,
    ⟨(some 12), (.len (.tmp 11)), none, []⟩,
    ⟨(some 13), (.move (.const (.int .i64 0))), none, []⟩]))
  (.block 0
    (.loop
      (.keep [1, 5, 11, 12, 13] (.seq (.keep [1, 5, 11, 12, 13, 14] (.ops [⟨(some 14), (.bin .lss (.tmp 13) (.tmp 12)), none, []⟩]))
      (.seq (.keep [1, 5, 11, 12, 13] (.cond (.tmp 14)
        .skip
        (.exit 0)))
      (.seq (.keep [1, 5, 11, 12, 13] (.block 1
        (.seq (.keep [1, 5, 7, 11, 12, 13] (.ops [⟨(some 15), (.indexAddr 1 (.tmp 11) (.tmp 13)), none, []⟩,
          ⟨(some 16), (.load none (.tmp 15)), none, []⟩,
          ⟨(some 7), (.move (.tmp 16)), none, []⟩]))
        (.ops [⟨(some 17), (.move (.tmp 5)), none, []⟩,
          ⟨(some 18), (.move (.tmp 1)), none, []⟩,
          ⟨(some 19), (.move (.tmp 7)), none, []⟩,
          ⟨(some 20), (.call (.tmp 18) [(.tmp 19)]), none, []⟩,
          ⟨(some 21), (.append 1 1 (.tmp 17) (.tmp 20)), none, []⟩,
          ⟨(some 5), (.move (.tmp 21)), none, []⟩]))))
      (.ops [⟨(some 22), (.bin .add (.tmp 13) (.const (.int .i64 1))), none, []⟩,
        ⟨(some 13), (.move (.tmp 22)), none, []⟩])))))))))
  (.seq (.keep [4] (.ops [⟨(some 23), (.move (.tmp 5)), none, []⟩,
    ⟨(some 4), (.move (.tmp 23)), none, []⟩]))
  .ret))))
theorem t74 : trF Tryd.prog Tryd.f74 s74 = some s74 := by kernel_rfl
theorem k74 : okS s74 = true := by kernel_rfl
theorem r74 : resT Tryd.prog Tryd.f74.results.toList = some [.t 4] := by kernel_rfl

def s79 : S :=
  (.seq (.keep [0, 1] (.ops [⟨(some 4), (.move (.const (.int .i64 0))), none, []⟩,
    ⟨(some 5), (.move (.const (.int .i64 0))), none, []⟩,
    ⟨(some 6), (.move (.const (.int .i64 0))), none, []⟩]))
  (.seq (.keep [0, 1, 7, 8, 9] (.ops [⟨(some 11), (.move (.tmp 0)), none, []⟩,
    ⟨(some 12), (.call (.func 80) [(.tmp 11)]), none, []⟩,
    ⟨(some 10), (.move (.tmp 12)), none, []⟩,
    ⟨(some 13), (.extract (.tmp 10) 0), none, []⟩,
    ⟨(some 14), (.extract (.tmp 10) 1), none, []⟩,
    ⟨(some 15), (.extract (.tmp 10) 2), none, []⟩,
    ⟨(some 7), (.move (.tmp 13)), none, []⟩,
    ⟨(some 8), (.move (.tmp 14)), none, []⟩,
    ⟨(some 9), (.move (.tmp 15)), none, []⟩]))
  (.seq (.keep [0, 1, 7, 8] (.seq (.keep [0, 1, 7, 8, 9, 17] (.ops [⟨(some 16), (.move (.tmp 9)), none, []⟩,
    ⟨(some 17), (.bin .neq (.tmp 16) (.const (.int .i64 0))), none, []⟩]))
  (.cond (.tmp 17)
    (.seq (.keep [4, 5, 6] (.ops [⟨(some 18), (.move (.tmp 9)), none, []⟩,
      ⟨(some 4), (.move (.const (.int .i64 0))), none, []⟩,
      ⟨(some 5), (.move (.const (.int .i64 0))), none, []⟩,
      ⟨(some 6), (.move (.tmp 18)), none, []⟩]))
    .ret)
    .skip)))
  (.seq (.keep [0, 1, 7, 8] (.seq (.keep [0, 1, 7, 8, 20] (.ops [⟨(some 19), (.move (.tmp 7)), none, []⟩,
    ⟨(some 20), (.bin .lss (.tmp 19) (.const (.int .i64 0))), none, []⟩]))
  (.cond (.tmp 20)
    (.seq (.keep [4, 5, 6] (.ops [⟨(some 4), (.move (.const (.int .i64 0))), none, []⟩,
      ⟨(some 5), (.move (.const (.int .i64 0))), none, []⟩,
      ⟨(some 6), (.move (.const (.int .i64 11))), none, []⟩]))
    .ret)
    .skip)))
  (.seq (.keep [7, 8] (.seq (.keep [7, 8, 28] (.ops [⟨(some 21), (.move (.tmp 7)), none, []⟩,
    ⟨(some 22), (.move (.tmp 0)), none, []⟩,
    ⟨(some 23), (.len (.tmp 22)), none, []⟩,
    ⟨(some 24), (.move (.tmp 8)), none, []⟩,
    ⟨(some 25), (.bin .sub (.tmp 23) (.tmp 24)), none, []⟩,
    ⟨(some 26), (.move (.tmp 1)), none, []⟩,
    ⟨(some 27), (.bin .quo (.tmp 25) (.tmp 26)), none, []⟩,
    ⟨(some 28), (.bin .gtr (.tmp 21) (.tmp 27)), none, []⟩]))
  (.cond (.tmp 28)
    (.seq (.keep [4, 5, 6] (.ops [⟨(some 4), (.move (.const (.int .i64 0))), none, []⟩,
      ⟨(some 5), (.move (.const (.int .i64 0))), none, []⟩,
      ⟨(some 6), (.move (.const (.int .i64 10))), none, []⟩]))
    .ret)
    .skip)))
  (.seq (.keep [4, 5, 6] (.ops [⟨(some 29), (.move (.tmp 7)), none, []⟩,
    ⟨(some 30), (.move (.tmp 8)), none, []⟩,
    ⟨(some 4), (.move (.tmp 29)), none, []⟩,
    ⟨(some 5), (.move (.tmp 30)), none, []⟩,
    ⟨(some 6), (.move (.const (.int .i64 0))), none, []⟩]))
  .ret))))))
theorem t79 : trF Tryd.prog Tryd.f79 s79 = some s79 := by kernel_rfl
theorem k79 : okS s79 = true := by kernel_rfl
theorem r79 : resT Tryd.prog Tryd.f79.results.toList = some [.t 4, .t 5, .t 6] := by kernel_rfl

def s82 : S :=
  (.seq (.keep [0, 1] (.ops [⟨(some 4), (.move (.const (.slice none 0 0))), none, []⟩]))
  (.seq (.keep [0, 1, 5] (.ops [⟨(some 8), (.move (.tmp 0)), none, []⟩,
    ⟨(some 9), (.len (.tmp 8)), none, []⟩,
    ⟨(some 10), (.call (.func 49) [(.tmp 9)]), none, []⟩,
    ⟨(some 5), (.move (.tmp 10)), none, []⟩]))
  (.seq (.keep [5] (.seq (.keep [1, 5, 11, 12, 13] (.ops [⟨(some 11), (.move (.tmp 0)), none, []⟩,
    ⟨(some 12), (.len (.tmp 11)), none, []⟩,
    ⟨(some 13), (.move (.const (.int .i64 0))), none, []⟩]))
  (.block 0
    (.loop
      (.keep [1, 5, 11, 12, 13] (.seq (.keep [1, 5, 11, 12, 13, 14] (.ops [⟨(some 14), (.bin .lss (.tmp 13) (.tmp 12)), none, []⟩]))
      (.seq (.keep [1, 5, 11, 12, 13] (.cond (.tmp 14)
        .skip
        (.exit 0)))
      (.seq (.keep [1, 5, 11, 12, 13] (.block 1
        (.seq (.keep [1, 5, 7, 11, 12, 13] (.ops [⟨(some 15), (.indexAddr 1 (.tmp 11) (.tmp 13)), none, []⟩,
          ⟨(some 16), (.load none (.tmp 15)), none, []⟩,
          ⟨(some 7), (.move (.tmp 16)), none, []⟩]))
        (.ops [⟨(some 17), (.move (.tmp 5)), none, []⟩,
          ⟨(some 18), (.move (.tmp 1)), none, []⟩,
          ⟨(some 19), (.move (.tmp 7)), none, []⟩,
          ⟨(some 20), (.call (.tmp 18) [(.tmp 19)]), none, []⟩,
          ⟨(some 21), (.append 1 1 (.tmp 17) (.tmp 20)), none, []⟩,
          ⟨(some 5), (.move (.tmp 21)), none, []⟩]))))
      (.ops [⟨(some 22), (.bin .add (.tmp 13) (.const (.int .i64 1))), none, []⟩,
        ⟨(some 13), (.move (.tmp 22)), none, []⟩])))))))))
  (.seq (.keep [4] (.ops [⟨(some 23), (.move (.tmp 5)), none, []⟩,
    ⟨(some 4), (.move (.tmp 23)), none, []⟩]))
  .ret))))
theorem t82 : trF Tryd.prog Tryd.f82 s82 = some s82 := by kernel_rfl
theorem k82 : okS s82 = true := by kernel_rfl
theorem r82 : resT Tryd.prog Tryd.f82.results.toList = some [.t 4] := by kernel_rfl

def s83 : S :=
  (.seq (.keep [0] (.ops [⟨(some 2), (.move (.const (.slice none 0 0))), none, []⟩]))
  (.seq (.keep [2] (.ops [⟨(some 3), (.move (.tmp 0)), none, []⟩,
    ⟨(some 4), (.lenStr (.tmp 3)), none, []⟩,
    ⟨(some 5), (.call (.func 52) [(.tmp 4)]), none, []⟩,
    ⟨(some 6), (.move (.tmp 0)), none, []⟩,
    ⟨(some 7), (.append 1 1 (.tmp 5) (.tmp 6)), none, []⟩,
    ⟨(some 2), (.move (.tmp 7)), none, []⟩]))
  .ret))
theorem t83 : trF Tryd.prog Tryd.f83 s83 = some s83 := by kernel_rfl
theorem k83 : okS s83 = true := by kernel_rfl
theorem r83 : resT Tryd.prog Tryd.f83.results.toList = some [.t 2] := by kernel_rfl

def s84 : S :=
  (.seq (.keep [1, 2, 4] (.ops [⟨(some 2), (.box (.tmp 0)), none, []⟩,
    ⟨(some 4), (.alloc (.agg (List.replicate 8 (.int .u32 0)).toArray)), none, []⟩]))
  (.seq (.keep [2, 4, 5] (.ops [⟨(some 13), (.move (.tmp 1)), none, []⟩,
    ⟨(some 14), (.call (.func 87) [(.tmp 13)]), none, []⟩,
    ⟨(some 5), (.alloc (.agg (List.replicate 64 (.int .u32 0)).toArray)), none, []⟩,
    ⟨none, (.store 64 (.tmp 5) (.tmp 14)), none, []⟩]))
  (.seq (.keep [2, 4, 5, 6, 7] (.draw [0, 1, 3, 0, 8, 24, 0, 0, 199, 511] [⟨0, 0, [], ⟨(some 15), (.sliceArr 8 1 (.tmp 2) none (some (.const (.int .i64 4))) none), none, []⟩⟩,
    ⟨1, 1, [], ⟨(some 16), (.s2ap 4 (.tmp 15)), none, []⟩⟩,
    ⟨2, 3, [], ⟨(some 17), (.load (some 4) (.tmp 16)), none, []⟩⟩,
    ⟨3, 0, [], ⟨(some 18), (.sliceArr 8 1 (.tmp 2) (some (.const (.int .i64 4))) none none), none, []⟩⟩,
    ⟨4, 8, [], ⟨(some 19), (.s2ap 4 (.tmp 18)), none, []⟩⟩,
    ⟨5, 24, [], ⟨(some 20), (.load (some 4) (.tmp 19)), none, []⟩⟩,
    ⟨6, 0, [], ⟨(some 6), (.alloc (.agg (List.replicate 4 (.int .u32 0)).toArray)), none, []⟩⟩,
    ⟨7, 0, [], ⟨(some 7), (.alloc (.agg (List.replicate 4 (.int .u32 0)).toArray)), none, []⟩⟩,
    ⟨8, 199, [5], ⟨none, (.store 4 (.tmp 6) (.tmp 17)), none, [((.load (some 4) (.tmp 19)), none, (some 20))]⟩⟩,
    ⟨9, 511, [], ⟨none, (.store 4 (.tmp 7) (.tmp 20)), none, []⟩⟩]))
  (.seq (.keep [2, 4, 6, 7] (.seq (.keep [2, 4, 5, 6, 7, 21, 22] (.ops [⟨(some 21), (.load (some 64) (.global 0)), none, []⟩,
    ⟨(some 22), (.move (.const (.int .i64 0))), none, []⟩]))
  (.block 0
    (.loop
      (.keep [2, 4, 5, 6, 7, 21, 22] (.seq (.keep [2, 4, 5, 6, 7, 21, 22, 23] (.ops [⟨(some 23), (.bin .lss (.tmp 22) (.const (.int .i64 64))), none, []⟩]))
      (.seq (.keep [2, 4, 5, 6, 7, 21, 22] (.cond (.tmp 23)
        .skip
        (.exit 0)))
      (.seq (.keep [2, 4, 5, 6, 7, 21, 22] (.block 1
        (.seq (.keep [2, 4, 5, 6, 7, 8, 9, 21, 22] (.ops [⟨(some 24), (.move (.tmp 22)), none, []⟩,
          ⟨(some 25), (.indexAgg 64 1 none (.tmp 21) (.tmp 22)), none, []⟩,
          ⟨(some 8), (.move (.tmp 24)), none, []⟩,
          ⟨(some 9), (.move (.tmp 25)), none, []⟩]))
        (.seq (.keep [2, 4, 5, 6, 7, 10, 21, 22] (.draw [0, 1, 0, 4, 12, 31, 0, 64, 0, 256, 960, 0, 2048, 6144, 0, 16384, 63488, 131008, 262143, 0, 1048575, 0, 2097152, 6291456, 16777215, 33554431] [⟨0, 0, [], ⟨(some 26), (.indexArr 4 1 (.tmp 7) (.const (.int .i64 3))), none, []⟩⟩,
          ⟨1, 1, [], ⟨(some 27), (.load none (.tmp 26)), none, []⟩⟩,
          ⟨2, 0, [], ⟨(some 28), (.indexArr 4 1 (.tmp 7) (.const (.int .i64 0))), none, []⟩⟩,
          ⟨3, 4, [], ⟨(some 29), (.load none (.tmp 28)), none, []⟩⟩,
          ⟨6, 0, [], ⟨(some 32), (.indexArr 4 1 (.tmp 7) (.const (.int .i64 0))), none, []⟩⟩,
          ⟨7, 64, [], ⟨(some 33), (.load none (.tmp 32)), none, []⟩⟩,
          ⟨8, 0, [], ⟨(some 34), (.indexArr 4 1 (.tmp 7) (.const (.int .i64 1))), none, []⟩⟩,
          ⟨9, 256, [], ⟨(some 35), (.load none (.tmp 34)), none, []⟩⟩,
          ⟨10, 960, [], ⟨(some 36), (.bin .and (.tmp 33) (.tmp 35)), none, []⟩⟩,
          ⟨11, 0, [], ⟨(some 37), (.indexArr 4 1 (.tmp 7) (.const (.int .i64 0))), none, []⟩⟩,
          ⟨12, 2048, [], ⟨(some 38), (.load none (.tmp 37)), none, []⟩⟩,
          ⟨13, 6144, [], ⟨(some 39), (.un .xor (.tmp 38)), none, []⟩⟩,
          ⟨14, 0, [], ⟨(some 40), (.indexArr 4 1 (.tmp 7) (.const (.int .i64 2))), none, []⟩⟩,
          ⟨15, 16384, [], ⟨(some 41), (.load none (.tmp 40)), none, []⟩⟩,
          ⟨16, 63488, [], ⟨(some 42), (.bin .and (.tmp 39) (.tmp 41)), none, []⟩⟩,
          ⟨17, 131008, [], ⟨(some 43), (.bin .xor (.tmp 36) (.tmp 42)), none, []⟩⟩,
          ⟨19, 0, [], ⟨(some 45), (.move (.tmp 9)), none, []⟩⟩,
          ⟨21, 0, [], ⟨(some 47), (.move (.tmp 8)), none, []⟩⟩,
          ⟨22, 2097152, [], ⟨(some 48), (.indexArr 64 1 (.tmp 5) (.tmp 47)), none, []⟩⟩,
          ⟨23, 6291456, [], ⟨(some 49), (.load none (.tmp 48)), none, []⟩⟩,
          ⟨4, 12, [1, 7, 9, 12, 15, 23], ⟨(some 30), (.call (.func 88) [(.tmp 29), (.const (.int .i64 6)), (.const (.int .i64 11)), (.const (.int .i64 25))]), none, [((.load none (.tmp 26)), none, (some 27)), ((.load none (.tmp 32)), none, (some 33)), ((.load none (.tmp 34)), none, (some 35)), ((.load none (.tmp 37)), none, (some 38)), ((.load none (.tmp 40)), none, (some 41)), ((.load none (.tmp 48)), none, (some 49))]⟩⟩,
          ⟨5, 31, [], ⟨(some 31), (.bin .add (.tmp 27) (.tmp 30)), none, []⟩⟩,
          ⟨18, 262143, [], ⟨(some 44), (.bin .add (.tmp 31) (.tmp 43)), none, []⟩⟩,
          ⟨20, 1048575, [], ⟨(some 46), (.bin .add (.tmp 44) (.tmp 45)), none, []⟩⟩,
          ⟨24, 16777215, [], ⟨(some 50), (.bin .add (.tmp 46) (.tmp 49)), none, []⟩⟩,
          ⟨25, 33554431, [], ⟨(some 10), (.move (.tmp 50)), none, []⟩⟩]))
        (.seq (.keep [2, 4, 5, 6, 7, 10, 11, 21, 22] (.draw [0, 1, 3, 0, 8, 0, 32, 120, 0, 256, 0, 1024, 3840, 8184, 0, 16384, 0, 65536, 245760, 524280, 1048575, 2097151] [⟨0, 0, [], ⟨(some 51), (.indexArr 4 1 (.tmp 6) (.const (.int .i64 0))), none, []⟩⟩,
          ⟨1, 1, [], ⟨(some 52), (.load none (.tmp 51)), none, []⟩⟩,
          ⟨3, 0, [], ⟨(some 54), (.indexArr 4 1 (.tmp 6) (.const (.int .i64 0))), none, []⟩⟩,
          ⟨4, 8, [], ⟨(some 55), (.load none (.tmp 54)), none, []⟩⟩,
          ⟨5, 0, [], ⟨(some 56), (.indexArr 4 1 (.tmp 6) (.const (.int .i64 1))), none, []⟩⟩,
          ⟨6, 32, [], ⟨(some 57), (.load none (.tmp 56)), none, []⟩⟩,
          ⟨7, 120, [], ⟨(some 58), (.bin .and (.tmp 55) (.tmp 57)), none, []⟩⟩,
          ⟨8, 0, [], ⟨(some 59), (.indexArr 4 1 (.tmp 6) (.const (.int .i64 0))), none, []⟩⟩,
          ⟨9, 256, [], ⟨(some 60), (.load none (.tmp 59)), none, []⟩⟩,
          ⟨10, 0, [], ⟨(some 61), (.indexArr 4 1 (.tmp 6) (.const (.int .i64 2))), none, []⟩⟩,
          ⟨11, 1024, [], ⟨(some 62), (.load none (.tmp 61)), none, []⟩⟩,
          ⟨12, 3840, [], ⟨(some 63), (.bin .and (.tmp 60) (.tmp 62)), none, []⟩⟩,
          ⟨13, 8184, [], ⟨(some 64), (.bin .xor (.tmp 58) (.tmp 63)), none, []⟩⟩,
          ⟨14, 0, [], ⟨(some 65), (.indexArr 4 1 (.tmp 6) (.const (.int .i64 1))), none, []⟩⟩,
          ⟨15, 16384, [], ⟨(some 66), (.load none (.tmp 65)), none, []⟩⟩,
          ⟨16, 0, [], ⟨(some 67), (.indexArr 4 1 (.tmp 6) (.const (.int .i64 2))), none, []⟩⟩,
          ⟨17, 65536, [], ⟨(some 68), (.load none (.tmp 67)), none, []⟩⟩,
          ⟨18, 245760, [], ⟨(some 69), (.bin .and (.tmp 66) (.tmp 68)), none, []⟩⟩,
          ⟨19, 524280, [], ⟨(some 70), (.bin .xor (.tmp 64) (.tmp 69)), none, []⟩⟩,
          ⟨2, 3, [4, 6, 9, 11, 15, 17], ⟨(some 53), (.call (.func 88) [(.tmp 52), (.const (.int .i64 2)), (.const (.int .i64 13)), (.const (.int .i64 22))]), none, [((.load none (.tmp 54)), none, (some 55)), ((.load none (.tmp 56)), none, (some 57)), ((.load none (.tmp 59)), none, (some 60)), ((.load none (.tmp 61)), none, (some 62)), ((.load none (.tmp 65)), none, (some 66)), ((.load none (.tmp 67)), none, (some 68))]⟩⟩,
          ⟨20, 1048575, [], ⟨(some 71), (.bin .add (.tmp 53) (.tmp 70)), none, []⟩⟩,
          ⟨21, 2097151, [], ⟨(some 11), (.move (.tmp 71)), none, []⟩⟩]))
        (.seq (.keep [2, 4, 5, 6, 7, 10, 11, 21, 22] (.ops [⟨(some 72), (.indexArr 4 1 (.tmp 6) (.const (.int .i64 3))), none, []⟩,
          ⟨(some 73), (.load none (.tmp 72)), none, []⟩,
          ⟨(some 74), (.move (.tmp 10)), none, []⟩,
          ⟨(some 75), (.bin .add (.tmp 73) (.tmp 74)), none, []⟩,
          ⟨(some 76), (.indexArr 4 1 (.tmp 7) (.const (.int .i64 0))), none, []⟩,
          ⟨(some 77), (.load none (.tmp 76)), none, []⟩,
          ⟨(some 78), (.indexArr 4 1 (.tmp 7) (.const (.int .i64 1))), none, []⟩,
          ⟨(some 79), (.load none (.tmp 78)), none, []⟩,
          ⟨(some 80), (.indexArr 4 1 (.tmp 7) (.const (.int .i64 2))), none, []⟩,
          ⟨(some 81), (.load none (.tmp 80)), none, []⟩,
          ⟨(some 82), (.build (List.replicate 4 (.int .u32 0)) [(0, 1, (.tmp 75)), (1, 1, (.tmp 77)), (2, 1, (.tmp 79)), (3, 1, (.tmp 81))]), none, []⟩,
          ⟨none, (.store 4 (.tmp 7) (.tmp 82)), none, []⟩]))
        (.ops [⟨(some 83), (.move (.tmp 10)), none, []⟩,
          ⟨(some 84), (.move (.tmp 11)), none, []⟩,
          ⟨(some 85), (.bin .add (.tmp 83) (.tmp 84)), none, []⟩,
          ⟨(some 86), (.indexArr 4 1 (.tmp 6) (.const (.int .i64 0))), none, []⟩,
          ⟨(some 87), (.load none (.tmp 86)), none, []⟩,
          ⟨(some 88), (.indexArr 4 1 (.tmp 6) (.const (.int .i64 1))), none, []⟩,
          ⟨(some 89), (.load none (.tmp 88)), none, []⟩,
          ⟨(some 90), (.indexArr 4 1 (.tmp 6) (.const (.int .i64 2))), none, []⟩,
          ⟨(some 91), (.load none (.tmp 90)), none, []⟩,
          ⟨(some 92), (.build (List.replicate 4 (.int .u32 0)) [(0, 1, (.tmp 85)), (1, 1, (.tmp 87)), (2, 1, (.tmp 89)), (3, 1, (.tmp 91))]), none, []⟩,
          ⟨none, (.store 4 (.tmp 6) (.tmp 92)), none, []⟩])))))))
      (.ops [⟨(some 93), (.bin .add (.tmp 22) (.const (.int .i64 1))), none, []⟩,
        ⟨(some 22), (.move (.tmp 93)), none, []⟩])))))))))
  (.seq (.keep [2, 4] (.seq (.keep [2, 4, 6, 7, 94] (.ops [⟨(some 94), (.move (.const (.int .i64 0))), none, []⟩]))
  (.block 2
    (.loop
      (.keep [2, 4, 6, 7, 94] (.seq (.keep [2, 4, 6, 7, 94, 95] (.ops [⟨(some 95), (.bin .lss (.tmp 94) (.const (.int .i64 4))), none, []⟩]))
      (.seq (.keep [2, 4, 6, 7, 94] (.cond (.tmp 95)
        .skip
        (.exit 2)))
      (.seq (.keep [2, 4, 6, 7, 94] (.block 3
        (.seq (.keep [2, 4, 6, 7, 12, 94] (.ops [⟨(some 96), (.move (.tmp 94)), none, []⟩,
          ⟨(some 12), (.move (.tmp 96)), none, []⟩]))
        (.seq (.keep [2, 4, 6, 7, 12, 94] (.draw [0, 1, 3, 0, 8, 24, 63, 127, 255] [⟨0, 0, [], ⟨(some 97), (.move (.tmp 12)), none, []⟩⟩,
          ⟨1, 1, [], ⟨(some 98), (.indexArr 8 1 (.tmp 2) (.tmp 97)), none, []⟩⟩,
          ⟨2, 3, [], ⟨(some 99), (.load none (.tmp 98)), none, []⟩⟩,
          ⟨3, 0, [], ⟨(some 100), (.move (.tmp 12)), none, []⟩⟩,
          ⟨4, 8, [], ⟨(some 101), (.indexArr 4 1 (.tmp 6) (.tmp 100)), none, []⟩⟩,
          ⟨5, 24, [], ⟨(some 102), (.load none (.tmp 101)), none, []⟩⟩,
          ⟨6, 63, [], ⟨(some 103), (.bin .add (.tmp 99) (.tmp 102)), none, []⟩⟩,
          ⟨7, 127, [], ⟨(some 104), (.indexArr 8 1 (.tmp 2) (.tmp 97)), none, []⟩⟩,
          ⟨8, 255, [], ⟨none, (.store 1 (.tmp 104) (.tmp 103)), none, []⟩⟩]))
        (.draw [0, 1, 3, 7, 0, 16, 48, 127, 255, 511] [⟨0, 0, [], ⟨(some 105), (.move (.tmp 12)), none, []⟩⟩,
          ⟨1, 1, [], ⟨(some 106), (.bin .add (.tmp 105) (.const (.int .i64 4))), none, []⟩⟩,
          ⟨2, 3, [], ⟨(some 107), (.indexArr 8 1 (.tmp 2) (.tmp 106)), none, []⟩⟩,
          ⟨3, 7, [], ⟨(some 108), (.load none (.tmp 107)), none, []⟩⟩,
          ⟨4, 0, [], ⟨(some 109), (.move (.tmp 12)), none, []⟩⟩,
          ⟨5, 16, [], ⟨(some 110), (.indexArr 4 1 (.tmp 7) (.tmp 109)), none, []⟩⟩,
          ⟨6, 48, [], ⟨(some 111), (.load none (.tmp 110)), none, []⟩⟩,
          ⟨7, 127, [], ⟨(some 112), (.bin .add (.tmp 108) (.tmp 111)), none, []⟩⟩,
          ⟨8, 255, [], ⟨(some 113), (.indexArr 8 1 (.tmp 2) (.tmp 106)), none, []⟩⟩,
          ⟨9, 511, [], ⟨none, (.store 1 (.tmp 113) (.tmp 112)), none, []⟩⟩])))))
      (.ops [⟨(some 114), (.bin .add (.tmp 94) (.const (.int .i64 1))), none, []⟩,
        ⟨(some 94), (.move (.tmp 114)), none, []⟩])))))))))
  (.seq (.keep [4] (.ops [⟨(some 115), (.load (some 8) (.tmp 2)), none, []⟩,
    ⟨none, (.store 8 (.tmp 4) (.tmp 115)), none, []⟩]))
  .ret))))))
theorem t84 : trF Tryd.prog Tryd.f84 s84 = some s84 := by kernel_rfl
theorem k84 : okS s84 = true := by kernel_rfl
theorem r84 : resT Tryd.prog Tryd.f84.results.toList = some [.c 4 (some 8)] := by kernel_rfl

def s85 : S :=
  (.seq (.keep [0, 2] (.ops [⟨(some 2), (.alloc (.agg (List.replicate 32 (.int .u8 0)).toArray)), none, []⟩]))
  (.seq (.keep [0, 2, 3] (.ops [⟨(some 14), (.build (List.replicate 8 (.int .u32 0)) [(0, 1, (.const (.int .u32 1779033703))), (1, 1, (.const (.int .u32 3144134277))), (2, 1, (.const (.int .u32 1013904242))), (3, 1, (.const (.int .u32 2773480762))), (4, 1, (.const (.int .u32 1359893119))), (5, 1, (.const (.int .u32 2600822924))), (6, 1, (.const (.int .u32 528734635))), (7, 1, (.const (.int .u32 1541459225)))]), none, []⟩,
    ⟨(some 3), (.alloc (.agg (List.replicate 8 (.int .u32 0)).toArray)), none, []⟩,
    ⟨none, (.store 8 (.tmp 3) (.tmp 14)), none, []⟩]))
  (.seq (.keep [2, 3, 4] (.ops [⟨(some 15), (.move (.tmp 0)), none, []⟩,
    ⟨(some 16), (.call (.func 89) [(.tmp 15)]), none, []⟩,
    ⟨(some 4), (.move (.tmp 16)), none, []⟩]))
  (.seq (.keep [2, 3] (.seq (.keep [2, 3, 4, 5] (.ops [⟨(some 5), (.move (.const (.int .i64 0))), none, []⟩]))
  (.block 0
    (.loop
      (.keep [2, 3, 4, 5] (.seq (.keep [2, 3, 4, 5] (.seq (.keep [2, 3, 4, 5, 20] (.ops [⟨(some 17), (.move (.tmp 5)), none, []⟩,
        ⟨(some 18), (.move (.tmp 4)), none, []⟩,
        ⟨(some 19), (.len (.tmp 18)), none, []⟩,
        ⟨(some 20), (.bin .lss (.tmp 17) (.tmp 19)), none, []⟩]))
      (.cond (.tmp 20)
        .skip
        (.exit 0))))
      (.seq (.keep [2, 3, 4, 5] (.block 1
        (.seq (.keep [2, 3, 4, 5, 6] (.ops [⟨(some 23), (.move (.tmp 4)), none, []⟩,
          ⟨(some 24), (.move (.tmp 5)), none, []⟩,
          ⟨(some 25), (.move (.tmp 5)), none, []⟩,
          ⟨(some 26), (.bin .add (.tmp 25) (.const (.int .i64 64))), none, []⟩,
          ⟨(some 27), (.slice 1 (.tmp 23) (some (.tmp 24)) (some (.tmp 26)) none), none, []⟩,
          ⟨(some 28), (.call (.func 90) [(.tmp 27)]), none, []⟩,
          ⟨(some 6), (.alloc (.agg (List.replicate 64 (.int .u32 0)).toArray)), none, []⟩,
          ⟨none, (.store 64 (.tmp 6) (.tmp 28)), none, []⟩]))
        (.seq (.keep [2, 3, 4, 5, 6, 7] (.ops [⟨(some 29), (.load (some 8) (.tmp 3)), none, []⟩,
          ⟨(some 7), (.alloc (.agg (List.replicate 8 (.int .u32 0)).toArray)), none, []⟩,
          ⟨none, (.store 8 (.tmp 7) (.tmp 29)), none, []⟩]))
        (.seq (.keep [2, 3, 4, 5, 7] (.seq (.keep [2, 3, 4, 5, 6, 7, 8] (.ops [⟨(some 8), (.move (.const (.int .i64 0))), none, []⟩]))
        (.block 2
          (.loop
            (.keep [2, 3, 4, 5, 6, 7, 8] (.seq (.keep [2, 3, 4, 5, 6, 7, 8] (.seq (.keep [2, 3, 4, 5, 6, 7, 8, 31] (.ops [⟨(some 30), (.move (.tmp 8)), none, []⟩,
              ⟨(some 31), (.bin .lss (.tmp 30) (.const (.int .i64 64))), none, []⟩]))
            (.cond (.tmp 31)
              .skip
              (.exit 2))))
            (.seq (.keep [2, 3, 4, 5, 6, 7, 8] (.block 3
              (.seq (.keep [2, 3, 4, 5, 6, 7, 8, 9] (.draw [0, 1, 0, 4, 12, 0, 32, 124, 252, 0, 512, 1788, 4092, 8191, 0, 16384, 0, 65536, 245760, 0, 524288, 1572864, 0, 4194304, 16252928, 33538048, 67108863, 0, 134217728, 402653184, 1073741823, 0, 2147483648, 6442450944, 17179869183, 34359738367] [⟨0, 0, [], ⟨(some 34), (.indexArr 8 1 (.tmp 7) (.const (.int .i64 7))), none, []⟩⟩,
                ⟨1, 1, [], ⟨(some 35), (.load none (.tmp 34)), none, []⟩⟩,
                ⟨2, 0, [], ⟨(some 36), (.indexArr 8 1 (.tmp 7) (.const (.int .i64 4))), none, []⟩⟩,
                ⟨3, 4, [], ⟨(some 37), (.load none (.tmp 36)), none, []⟩⟩,
                ⟨5, 0, [], ⟨(some 39), (.indexArr 8 1 (.tmp 7) (.const (.int .i64 4))), none, []⟩⟩,
                ⟨6, 32, [], ⟨(some 40), (.load none (.tmp 39)), none, []⟩⟩,
                ⟨9, 0, [], ⟨(some 43), (.indexArr 8 1 (.tmp 7) (.const (.int .i64 4))), none, []⟩⟩,
                ⟨10, 512, [], ⟨(some 44), (.load none (.tmp 43)), none, []⟩⟩,
                ⟨14, 0, [], ⟨(some 48), (.indexArr 8 1 (.tmp 7) (.const (.int .i64 4))), none, []⟩⟩,
                ⟨15, 16384, [], ⟨(some 49), (.load none (.tmp 48)), none, []⟩⟩,
                ⟨16, 0, [], ⟨(some 50), (.indexArr 8 1 (.tmp 7) (.const (.int .i64 5))), none, []⟩⟩,
                ⟨17, 65536, [], ⟨(some 51), (.load none (.tmp 50)), none, []⟩⟩,
                ⟨18, 245760, [], ⟨(some 52), (.bin .and (.tmp 49) (.tmp 51)), none, []⟩⟩,
                ⟨19, 0, [], ⟨(some 53), (.indexArr 8 1 (.tmp 7) (.const (.int .i64 4))), none, []⟩⟩,
                ⟨20, 524288, [], ⟨(some 54), (.load none (.tmp 53)), none, []⟩⟩,
                ⟨21, 1572864, [], ⟨(some 55), (.bin .xor (.tmp 54) (.const (.int .u32 4294967295))), none, []⟩⟩,
                ⟨22, 0, [], ⟨(some 56), (.indexArr 8 1 (.tmp 7) (.const (.int .i64 6))), none, []⟩⟩,
                ⟨23, 4194304, [], ⟨(some 57), (.load none (.tmp 56)), none, []⟩⟩,
                ⟨24, 16252928, [], ⟨(some 58), (.bin .and (.tmp 55) (.tmp 57)), none, []⟩⟩,
                ⟨25, 33538048, [], ⟨(some 59), (.bin .xor (.tmp 52) (.tmp 58)), none, []⟩⟩,
                ⟨27, 0, [], ⟨(some 61), (.move (.tmp 8)), none, []⟩⟩,
                ⟨28, 134217728, [], ⟨(some 62), (.indexArr 64 1 (.global 1) (.tmp 61)), none, []⟩⟩,
                ⟨29, 402653184, [], ⟨(some 63), (.load none (.tmp 62)), none, []⟩⟩,
                ⟨31, 0, [], ⟨(some 65), (.move (.tmp 8)), none, []⟩⟩,
                ⟨32, 2147483648, [], ⟨(some 66), (.indexArr 64 1 (.tmp 6) (.tmp 65)), none, []⟩⟩,
                ⟨33, 6442450944, [], ⟨(some 67), (.load none (.tmp 66)), none, []⟩⟩,
                ⟨4, 12, [1, 6, 10, 15, 17, 20, 23, 29, 33], ⟨(some 38), (.call (.func 91) [(.tmp 37), (.const (.int .i64 6))]), none, [((.load none (.tmp 34)), none, (some 35)), ((.load none (.tmp 39)), none, (some 40)), ((.load none (.tmp 43)), none, (some 44)), ((.load none (.tmp 48)), none, (some 49)), ((.load none (.tmp 50)), none, (some 51)), ((.load none (.tmp 53)), none, (some 54)), ((.load none (.tmp 56)), none, (some 57)), ((.load none (.tmp 62)), none, (some 63)), ((.load none (.tmp 66)), none, (some 67))]⟩⟩,
                ⟨7, 124, [1, 10, 15, 17, 20, 23, 29, 33], ⟨(some 41), (.call (.func 91) [(.tmp 40), (.const (.int .i64 11))]), none, [((.load none (.tmp 34)), none, (some 35)), ((.load none (.tmp 43)), none, (some 44)), ((.load none (.tmp 48)), none, (some 49)), ((.load none (.tmp 50)), none, (some 51)), ((.load none (.tmp 53)), none, (some 54)), ((.load none (.tmp 56)), none, (some 57)), ((.load none (.tmp 62)), none, (some 63)), ((.load none (.tmp 66)), none, (some 67))]⟩⟩,
                ⟨8, 252, [], ⟨(some 42), (.bin .xor (.tmp 38) (.tmp 41)), none, []⟩⟩,
                ⟨11, 1788, [1, 15, 17, 20, 23, 29, 33], ⟨(some 45), (.call (.func 91) [(.tmp 44), (.const (.int .i64 25))]), none, [((.load none (.tmp 34)), none, (some 35)), ((.load none (.tmp 48)), none, (some 49)), ((.load none (.tmp 50)), none, (some 51)), ((.load none (.tmp 53)), none, (some 54)), ((.load none (.tmp 56)), none, (some 57)), ((.load none (.tmp 62)), none, (some 63)), ((.load none (.tmp 66)), none, (some 67))]⟩⟩,
                ⟨12, 4092, [], ⟨(some 46), (.bin .xor (.tmp 42) (.tmp 45)), none, []⟩⟩,
                ⟨13, 8191, [], ⟨(some 47), (.bin .add (.tmp 35) (.tmp 46)), none, []⟩⟩,
                ⟨26, 67108863, [], ⟨(some 60), (.bin .add (.tmp 47) (.tmp 59)), none, []⟩⟩,
                ⟨30, 1073741823, [], ⟨(some 64), (.bin .add (.tmp 60) (.tmp 63)), none, []⟩⟩,
                ⟨34, 17179869183, [], ⟨(some 68), (.bin .add (.tmp 64) (.tmp 67)), none, []⟩⟩,
                ⟨35, 34359738367, [], ⟨(some 9), (.move (.tmp 68)), none, []⟩⟩]))
              (.seq (.keep [2, 3, 4, 5, 6, 7, 8, 9, 10] (.draw [0, 1, 3, 0, 8, 31, 63, 0, 128, 447, 1023, 0, 2048, 0, 8192, 30720, 0, 65536, 0, 262144, 983040, 2095104, 0, 4194304, 0, 16777216, 62914560, 134215680, 268435455, 536870911] [⟨0, 0, [], ⟨(some 69), (.indexArr 8 1 (.tmp 7) (.const (.int .i64 0))), none, []⟩⟩,
                ⟨1, 1, [], ⟨(some 70), (.load none (.tmp 69)), none, []⟩⟩,
                ⟨3, 0, [], ⟨(some 72), (.indexArr 8 1 (.tmp 7) (.const (.int .i64 0))), none, []⟩⟩,
                ⟨4, 8, [], ⟨(some 73), (.load none (.tmp 72)), none, []⟩⟩,
                ⟨7, 0, [], ⟨(some 76), (.indexArr 8 1 (.tmp 7) (.const (.int .i64 0))), none, []⟩⟩,
                ⟨8, 128, [], ⟨(some 77), (.load none (.tmp 76)), none, []⟩⟩,
                ⟨11, 0, [], ⟨(some 80), (.indexArr 8 1 (.tmp 7) (.const (.int .i64 0))), none, []⟩⟩,
                ⟨12, 2048, [], ⟨(some 81), (.load none (.tmp 80)), none, []⟩⟩,
                ⟨13, 0, [], ⟨(some 82), (.indexArr 8 1 (.tmp 7) (.const (.int .i64 1))), none, []⟩⟩,
                ⟨14, 8192, [], ⟨(some 83), (.load none (.tmp 82)), none, []⟩⟩,
                ⟨15, 30720, [], ⟨(some 84), (.bin .and (.tmp 81) (.tmp 83)), none, []⟩⟩,
                ⟨16, 0, [], ⟨(some 85), (.indexArr 8 1 (.tmp 7) (.const (.int .i64 0))), none, []⟩⟩,
                ⟨17, 65536, [], ⟨(some 86), (.load none (.tmp 85)), none, []⟩⟩,
                ⟨18, 0, [], ⟨(some 87), (.indexArr 8 1 (.tmp 7) (.const (.int .i64 2))), none, []⟩⟩,
                ⟨19, 262144, [], ⟨(some 88), (.load none (.tmp 87)), none, []⟩⟩,
                ⟨20, 983040, [], ⟨(some 89), (.bin .and (.tmp 86) (.tmp 88)), none, []⟩⟩,
                ⟨21, 2095104, [], ⟨(some 90), (.bin .xor (.tmp 84) (.tmp 89)), none, []⟩⟩,
                ⟨22, 0, [], ⟨(some 91), (.indexArr 8 1 (.tmp 7) (.const (.int .i64 1))), none, []⟩⟩,
                ⟨23, 4194304, [], ⟨(some 92), (.load none (.tmp 91)), none, []⟩⟩,
                ⟨24, 0, [], ⟨(some 93), (.indexArr 8 1 (.tmp 7) (.const (.int .i64 2))), none, []⟩⟩,
                ⟨25, 16777216, [], ⟨(some 94), (.load none (.tmp 93)), none, []⟩⟩,
                ⟨26, 62914560, [], ⟨(some 95), (.bin .and (.tmp 92) (.tmp 94)), none, []⟩⟩,
                ⟨27, 134215680, [], ⟨(some 96), (.bin .xor (.tmp 90) (.tmp 95)), none, []⟩⟩,
                ⟨2, 3, [4, 8, 12, 14, 17, 19, 23, 25], ⟨(some 71), (.call (.func 91) [(.tmp 70), (.const (.int .i64 2))]), none, [((.load none (.tmp 72)), none, (some 73)), ((.load none (.tmp 76)), none, (some 77)), ((.load none (.tmp 80)), none, (some 81)), ((.load none (.tmp 82)), none, (some 83)), ((.load none (.tmp 85)), none, (some 86)), ((.load none (.tmp 87)), none, (some 88)), ((.load none (.tmp 91)), none, (some 92)), ((.load none (.tmp 93)), none, (some 94))]⟩⟩,
                ⟨5, 31, [8, 12, 14, 17, 19, 23, 25], ⟨(some 74), (.call (.func 91) [(.tmp 73), (.const (.int .i64 13))]), none, [((.load none (.tmp 76)), none, (some 77)), ((.load none (.tmp 80)), none, (some 81)), ((.load none (.tmp 82)), none, (some 83)), ((.load none (.tmp 85)), none, (some 86)), ((.load none (.tmp 87)), none, (some 88)), ((.load none (.tmp 91)), none, (some 92)), ((.load none (.tmp 93)), none, (some 94))]⟩⟩,
                ⟨6, 63, [], ⟨(some 75), (.bin .xor (.tmp 71) (.tmp 74)), none, []⟩⟩,
                ⟨9, 447, [12, 14, 17, 19, 23, 25], ⟨(some 78), (.call (.func 91) [(.tmp 77), (.const (.int .i64 22))]), none, [((.load none (.tmp 80)), none, (some 81)), ((.load none (.tmp 82)), none, (some 83)), ((.load none (.tmp 85)), none, (some 86)), ((.load none (.tmp 87)), none, (some 88)), ((.load none (.tmp 91)), none, (some 92)), ((.load none (.tmp 93)), none, (some 94))]⟩⟩,
                ⟨10, 1023, [], ⟨(some 79), (.bin .xor (.tmp 75) (.tmp 78)), none, []⟩⟩,
                ⟨28, 268435455, [], ⟨(some 97), (.bin .add (.tmp 79) (.tmp 96)), none, []⟩⟩,
                ⟨29, 536870911, [], ⟨(some 10), (.move (.tmp 97)), none, []⟩⟩]))
              (.ops [⟨(some 98), (.move (.tmp 9)), none, []⟩,
                ⟨(some 99), (.move (.tmp 10)), none, []⟩,
                ⟨(some 100), (.bin .add (.tmp 98) (.tmp 99)), none, []⟩,
                ⟨(some 101), (.indexArr 8 1 (.tmp 7) (.const (.int .i64 0))), none, []⟩,
                ⟨(some 102), (.load none (.tmp 101)), none, []⟩,
                ⟨(some 103), (.indexArr 8 1 (.tmp 7) (.const (.int .i64 1))), none, []⟩,
                ⟨(some 104), (.load none (.tmp 103)), none, []⟩,
                ⟨(some 105), (.indexArr 8 1 (.tmp 7) (.const (.int .i64 2))), none, []⟩,
                ⟨(some 106), (.load none (.tmp 105)), none, []⟩,
                ⟨(some 107), (.indexArr 8 1 (.tmp 7) (.const (.int .i64 3))), none, []⟩,
                ⟨(some 108), (.load none (.tmp 107)), none, []⟩,
                ⟨(some 109), (.move (.tmp 9)), none, []⟩,
                ⟨(some 110), (.bin .add (.tmp 108) (.tmp 109)), none, []⟩,
                ⟨(some 111), (.indexArr 8 1 (.tmp 7) (.const (.int .i64 4))), none, []⟩,
                ⟨(some 112), (.load none (.tmp 111)), none, []⟩,
                ⟨(some 113), (.indexArr 8 1 (.tmp 7) (.const (.int .i64 5))), none, []⟩,
                ⟨(some 114), (.load none (.tmp 113)), none, []⟩,
                ⟨(some 115), (.indexArr 8 1 (.tmp 7) (.const (.int .i64 6))), none, []⟩,
                ⟨(some 116), (.load none (.tmp 115)), none, []⟩,
                ⟨(some 117), (.build (List.replicate 8 (.int .u32 0)) [(0, 1, (.tmp 100)), (1, 1, (.tmp 102)), (2, 1, (.tmp 104)), (3, 1, (.tmp 106)), (4, 1, (.tmp 110)), (5, 1, (.tmp 112)), (6, 1, (.tmp 114)), (7, 1, (.tmp 116))]), none, []⟩,
                ⟨none, (.store 8 (.tmp 7) (.tmp 117)), none, []⟩])))))
            (.ops [⟨(some 32), (.move (.tmp 8)), none, []⟩,
              ⟨(some 33), (.bin .add (.tmp 32) (.const (.int .i64 1))), none, []⟩,
              ⟨(some 8), (.move (.tmp 33)), none, []⟩]))))))))
        (.seq (.keep [2, 3, 4, 5, 7, 11] (.ops [⟨(some 11), (.move (.const (.int .i64 0))), none, []⟩]))
        (.block 4
          (.loop
            (.keep [2, 3, 4, 5, 7, 11] (.seq (.keep [2, 3, 4, 5, 7, 11] (.seq (.keep [2, 3, 4, 5, 7, 11, 119] (.ops [⟨(some 118), (.move (.tmp 11)), none, []⟩,
              ⟨(some 119), (.bin .lss (.tmp 118) (.const (.int .i64 8))), none, []⟩]))
            (.cond (.tmp 119)
              .skip
              (.exit 4))))
            (.seq (.keep [2, 3, 4, 5, 7, 11] (.block 5
              (.draw [0, 0, 2, 6, 0, 16, 48, 126, 255, 511] [⟨0, 0, [], ⟨(some 122), (.move (.tmp 11)), none, []⟩⟩,
                ⟨1, 0, [], ⟨(some 123), (.move (.tmp 11)), none, []⟩⟩,
                ⟨2, 2, [], ⟨(some 124), (.indexArr 8 1 (.tmp 3) (.tmp 123)), none, []⟩⟩,
                ⟨3, 6, [], ⟨(some 125), (.load none (.tmp 124)), none, []⟩⟩,
                ⟨4, 0, [], ⟨(some 126), (.move (.tmp 11)), none, []⟩⟩,
                ⟨5, 16, [], ⟨(some 127), (.indexArr 8 1 (.tmp 7) (.tmp 126)), none, []⟩⟩,
                ⟨6, 48, [], ⟨(some 128), (.load none (.tmp 127)), none, []⟩⟩,
                ⟨7, 126, [], ⟨(some 129), (.bin .add (.tmp 125) (.tmp 128)), none, []⟩⟩,
                ⟨8, 255, [], ⟨(some 130), (.indexArr 8 1 (.tmp 3) (.tmp 122)), none, []⟩⟩,
                ⟨9, 511, [], ⟨none, (.store 1 (.tmp 130) (.tmp 129)), none, []⟩⟩])))
            (.ops [⟨(some 120), (.move (.tmp 11)), none, []⟩,
              ⟨(some 121), (.bin .add (.tmp 120) (.const (.int .i64 1))), none, []⟩,
              ⟨(some 11), (.move (.tmp 121)), none, []⟩]))))))))))))
      (.ops [⟨(some 21), (.move (.tmp 5)), none, []⟩,
        ⟨(some 22), (.bin .add (.tmp 21) (.const (.int .i64 64))), none, []⟩,
        ⟨(some 5), (.move (.tmp 22)), none, []⟩]))))))))
  (.seq (.keep [2, 3, 12] (.ops [⟨(some 12), (.alloc (.agg (List.replicate 32 (.int .u8 0)).toArray)), none, []⟩]))
  (.seq (.keep [2, 12] (.seq (.keep [2, 3, 12, 13] (.ops [⟨(some 13), (.move (.const (.int .i64 0))), none, []⟩]))
  (.block 6
    (.loop
      (.keep [2, 3, 12, 13] (.seq (.keep [2, 3, 12, 13] (.seq (.keep [2, 3, 12, 13, 132] (.ops [⟨(some 131), (.move (.tmp 13)), none, []⟩,
        ⟨(some 132), (.bin .lss (.tmp 131) (.const (.int .i64 32))), none, []⟩]))
      (.cond (.tmp 132)
        .skip
        (.exit 6))))
      (.seq (.keep [2, 3, 12, 13] (.block 7
        (.ops [⟨(some 135), (.move (.tmp 13)), none, []⟩,
          ⟨(some 136), (.move (.tmp 13)), none, []⟩,
          ⟨(some 137), (.bin .quo (.tmp 136) (.const (.int .i64 4))), none, []⟩,
          ⟨(some 138), (.indexArr 8 1 (.tmp 3) (.tmp 137)), none, []⟩,
          ⟨(some 139), (.load none (.tmp 138)), none, []⟩,
          ⟨(some 140), (.move (.tmp 13)), none, []⟩,
          ⟨(some 141), (.bin .rem (.tmp 140) (.const (.int .i64 4))), none, []⟩,
          ⟨(some 142), (.bin .mul (.const (.int .i64 8)) (.tmp 141)), none, []⟩,
          ⟨(some 143), (.bin .sub (.const (.int .i64 24)) (.tmp 142)), none, []⟩,
          ⟨(some 144), (.bin .shr (.tmp 139) (.tmp 143)), none, []⟩,
          ⟨(some 145), (.convInt .u8 (.tmp 144)), none, []⟩,
          ⟨(some 146), (.indexArr 32 1 (.tmp 12) (.tmp 135)), none, []⟩,
          ⟨none, (.store 1 (.tmp 146) (.tmp 145)), none, []⟩])))
      (.ops [⟨(some 133), (.move (.tmp 13)), none, []⟩,
        ⟨(some 134), (.bin .add (.tmp 133) (.const (.int .i64 1))), none, []⟩,
        ⟨(some 13), (.move (.tmp 134)), none, []⟩]))))))))
  (.seq (.keep [2] (.ops [⟨(some 147), (.load (some 32) (.tmp 12)), none, []⟩,
    ⟨none, (.store 32 (.tmp 2) (.tmp 147)), none, []⟩]))
  .ret)))))))
theorem t85 : trF Tryd.prog Tryd.f85 s85 = some s85 := by kernel_rfl
theorem k85 : okS s85 = true := by kernel_rfl
theorem r85 : resT Tryd.prog Tryd.f85.results.toList = some [.c 2 (some 32)] := by kernel_rfl

def s86 : S :=
  (.seq (.keep [0, 1] (.ops [⟨(some 4), (.move (.const (.int .i64 0))), none, []⟩,
    ⟨(some 5), (.move (.const (.int .i64 0))), none, []⟩,
    ⟨(some 6), (.move (.const (.int .i64 0))), none, []⟩]))
  (.seq (.keep [0, 1, 7, 8, 9] (.ops [⟨(some 11), (.move (.tmp 0)), none, []⟩,
    ⟨(some 12), (.call (.func 76) [(.tmp 11)]), none, []⟩,
    ⟨(some 10), (.move (.tmp 12)), none, []⟩,
    ⟨(some 13), (.extract (.tmp 10) 0), none, []⟩,
    ⟨(some 14), (.extract (.tmp 10) 1), none, []⟩,
    ⟨(some 15), (.extract (.tmp 10) 2), none, []⟩,
    ⟨(some 7), (.move (.tmp 13)), none, []⟩,
    ⟨(some 8), (.move (.tmp 14)), none, []⟩,
    ⟨(some 9), (.move (.tmp 15)), none, []⟩]))
  (.seq (.keep [7, 8] (.block 0
    (.seq (.keep [0, 1, 7, 8, 9, 16] (.ops [⟨(some 17), (.move (.tmp 9)), none, []⟩,
      ⟨(some 18), (.bin .neq (.tmp 17) (.const (.int .i64 0))), none, []⟩,
      ⟨(some 16), (.move (.tmp 18)), none, []⟩]))
    (.cond (.tmp 16)
      (.seq (.keep [4, 5, 6] (.ops [⟨(some 19), (.move (.tmp 9)), none, []⟩,
        ⟨(some 4), (.move (.const (.int .i64 0))), none, []⟩,
        ⟨(some 5), (.move (.const (.int .i64 0))), none, []⟩,
        ⟨(some 6), (.move (.tmp 19)), none, []⟩]))
      .ret)
      (.seq (.keep [0, 1, 7, 8, 20] (.ops [⟨(some 21), (.move (.tmp 7)), none, []⟩,
        ⟨(some 22), (.bin .lss (.tmp 21) (.const (.int .i64 0))), none, []⟩,
        ⟨(some 20), (.move (.tmp 22)), none, []⟩]))
      (.cond (.tmp 20)
        (.seq (.keep [4, 5, 6] (.ops [⟨(some 4), (.move (.const (.int .i64 0))), none, []⟩,
          ⟨(some 5), (.move (.const (.int .i64 0))), none, []⟩,
          ⟨(some 6), (.move (.const (.int .i64 11))), none, []⟩]))
        .ret)
        (.seq (.keep [7, 8, 23] (.ops [⟨(some 24), (.move (.tmp 7)), none, []⟩,
          ⟨(some 25), (.move (.tmp 0)), none, []⟩,
          ⟨(some 26), (.len (.tmp 25)), none, []⟩,
          ⟨(some 27), (.move (.tmp 8)), none, []⟩,
          ⟨(some 28), (.bin .sub (.tmp 26) (.tmp 27)), none, []⟩,
          ⟨(some 29), (.move (.tmp 1)), none, []⟩,
          ⟨(some 30), (.bin .quo (.tmp 28) (.tmp 29)), none, []⟩,
          ⟨(some 31), (.bin .gtr (.tmp 24) (.tmp 30)), none, []⟩,
          ⟨(some 23), (.move (.tmp 31)), none, []⟩]))
        (.cond (.tmp 23)
          (.seq (.keep [4, 5, 6] (.ops [⟨(some 4), (.move (.const (.int .i64 0))), none, []⟩,
            ⟨(some 5), (.move (.const (.int .i64 0))), none, []⟩,
            ⟨(some 6), (.move (.const (.int .i64 10))), none, []⟩]))
          .ret)
          .skip))))))))
  (.seq (.keep [4, 5, 6] (.ops [⟨(some 32), (.move (.tmp 7)), none, []⟩,
    ⟨(some 33), (.move (.tmp 8)), none, []⟩,
    ⟨(some 4), (.move (.tmp 32)), none, []⟩,
    ⟨(some 5), (.move (.tmp 33)), none, []⟩,
    ⟨(some 6), (.move (.const (.int .i64 0))), none, []⟩]))
  .ret))))
theorem t86 : trF Tryd.prog Tryd.f86 s86 = some s86 := by kernel_rfl
theorem k86 : okS s86 = true := by kernel_rfl
theorem r86 : resT Tryd.prog Tryd.f86.results.toList = some [.t 4, .t 5, .t 6] := by kernel_rfl

def s87 : S :=
  (.seq (.keep [0, 2] (.ops [⟨(some 2), (.alloc (.agg (List.replicate 64 (.int .u32 0)).toArray)), none, []⟩]))
  (.seq (.keep [0, 2, 3] (.ops [⟨(some 3), (.alloc (.agg (List.replicate 64 (.int .u32 0)).toArray)), none, []⟩]))
  (.seq (.keep [2, 3] (.seq (.keep [0, 2, 3, 11] (.ops [⟨(some 11), (.move (.const (.int .i64 0))), none, []⟩]))
  (.block 0
    (.loop
      (.keep [0, 2, 3, 11] (.seq (.keep [0, 2, 3, 11, 12] (.ops [⟨(some 12), (.bin .lss (.tmp 11) (.const (.int .i64 64))), none, []⟩]))
      (.seq (.keep [0, 2, 3, 11] (.cond (.tmp 12)
        .skip
        (.exit 0)))
      (.seq (.keep [0, 2, 3, 11] (.block 1
        (.seq (.keep [0, 2, 3, 4, 11] (.ops [⟨(some 13), (.move (.tmp 11)), none, []⟩,
          ⟨(some 4), (.move (.tmp 13)), none, []⟩]))
        (.seq (.keep [0, 2, 3, 4, 11] (.seq (.keep [0, 2, 3, 4, 11, 15] (.ops [⟨(some 14), (.move (.tmp 4)), none, []⟩,
          ⟨(some 15), (.bin .lss (.tmp 14) (.const (.int .i64 16))), none, []⟩]))
        (.cond (.tmp 15)
          (.seq (.keep [0, 2, 3, 11] (.seq (.keep [0, 2, 3, 4, 11, 22, 23, 24] (.ops [⟨(some 16), (.move (.tmp 0)), none, []⟩,
            ⟨(some 17), (.move (.tmp 4)), none, []⟩,
            ⟨(some 18), (.bin .mul (.const (.int .i64 4)) (.tmp 17)), none, []⟩,
            ⟨(some 19), (.move (.tmp 4)), none, []⟩,
            ⟨(some 20), (.bin .mul (.const (.int .i64 4)) (.tmp 19)), none, []⟩,
            ⟨(some 21), (.bin .add (.tmp 20) (.const (.int .i64 4))), none, []⟩,
            ⟨(some 22), (.slice 1 (.tmp 16) (some (.tmp 18)) (some (.tmp 21)) none), none, []⟩,
            ⟨(some 23), (.len (.tmp 22)), none, []⟩,
            ⟨(some 24), (.move (.const (.int .i64 0))), none, []⟩]))
          (.block 2
            (.loop
              (.keep [0, 2, 3, 4, 11, 22, 23, 24] (.seq (.keep [0, 2, 3, 4, 11, 22, 23, 24, 25] (.ops [⟨(some 25), (.bin .lss (.tmp 24) (.tmp 23)), none, []⟩]))
              (.seq (.keep [0, 2, 3, 4, 11, 22, 23, 24] (.cond (.tmp 25)
                .skip
                (.exit 2)))
              (.seq (.keep [0, 2, 3, 4, 11, 22, 23, 24] (.block 3
                (.seq (.keep [0, 2, 3, 4, 6, 11, 22, 23, 24] (.ops [⟨(some 26), (.indexAddr 1 (.tmp 22) (.tmp 24)), none, []⟩,
                  ⟨(some 27), (.load none (.tmp 26)), none, []⟩,
                  ⟨(some 6), (.move (.tmp 27)), none, []⟩]))
                (.ops [⟨(some 28), (.move (.tmp 4)), none, []⟩,
                  ⟨(some 29), (.move (.tmp 4)), none, []⟩,
                  ⟨(some 30), (.indexArr 64 1 (.tmp 3) (.tmp 29)), none, []⟩,
                  ⟨(some 31), (.load none (.tmp 30)), none, []⟩,
                  ⟨(some 32), (.bin .shl (.tmp 31) (.const (.int .u64 8))), none, []⟩,
                  ⟨(some 33), (.move (.tmp 6)), none, []⟩,
                  ⟨(some 34), (.convInt .u32 (.tmp 33)), none, []⟩,
                  ⟨(some 35), (.bin .or (.tmp 32) (.tmp 34)), none, []⟩,
                  ⟨(some 36), (.indexArr 64 1 (.tmp 3) (.tmp 28)), none, []⟩,
                  ⟨none, (.store 1 (.tmp 36) (.tmp 35)), none, []⟩]))))
              (.ops [⟨(some 37), (.bin .add (.tmp 24) (.const (.int .i64 1))), none, []⟩,
                ⟨(some 24), (.move (.tmp 37)), none, []⟩])))))))))
          (.exit 1))
          .skip)))
        (.seq (.keep [0, 2, 3, 4, 7, 8, 11] (.draw [0, 1, 3, 7, 0, 16, 48, 112, 15, 511] [⟨0, 0, [], ⟨(some 38), (.move (.tmp 4)), none, []⟩⟩,
          ⟨1, 1, [], ⟨(some 39), (.bin .sub (.tmp 38) (.const (.int .i64 15))), none, []⟩⟩,
          ⟨2, 3, [], ⟨(some 40), (.indexArr 64 1 (.tmp 3) (.tmp 39)), none, []⟩⟩,
          ⟨3, 7, [], ⟨(some 41), (.load none (.tmp 40)), none, []⟩⟩,
          ⟨4, 0, [], ⟨(some 42), (.move (.tmp 4)), none, []⟩⟩,
          ⟨5, 16, [], ⟨(some 43), (.bin .sub (.tmp 42) (.const (.int .i64 2))), none, []⟩⟩,
          ⟨6, 48, [], ⟨(some 44), (.indexArr 64 1 (.tmp 3) (.tmp 43)), none, []⟩⟩,
          ⟨7, 112, [], ⟨(some 45), (.load none (.tmp 44)), none, []⟩⟩,
          ⟨8, 15, [], ⟨(some 7), (.move (.tmp 41)), none, []⟩⟩,
          ⟨9, 511, [], ⟨(some 8), (.move (.tmp 45)), none, []⟩⟩]))
        (.seq (.keep [0, 2, 3, 4, 8, 9, 11] (.ops [⟨(some 46), (.move (.tmp 7)), none, []⟩,
          ⟨(some 47), (.call (.func 92) [(.tmp 46), (.const (.int .i64 (-7)))]), none, []⟩,
          ⟨(some 48), (.move (.tmp 7)), none, []⟩,
          ⟨(some 49), (.call (.func 92) [(.tmp 48), (.const (.int .i64 (-18)))]), none, []⟩,
          ⟨(some 50), (.bin .xor (.tmp 47) (.tmp 49)), none, []⟩,
          ⟨(some 51), (.move (.tmp 7)), none, []⟩,
          ⟨(some 52), (.bin .shr (.tmp 51) (.const (.int .u64 3))), none, []⟩,
          ⟨(some 53), (.bin .xor (.tmp 50) (.tmp 52)), none, []⟩,
          ⟨(some 9), (.move (.tmp 53)), none, []⟩]))
        (.seq (.keep [0, 2, 3, 4, 9, 10, 11] (.ops [⟨(some 54), (.move (.tmp 8)), none, []⟩,
          ⟨(some 55), (.call (.func 92) [(.tmp 54), (.const (.int .i64 (-17)))]), none, []⟩,
          ⟨(some 56), (.move (.tmp 8)), none, []⟩,
          ⟨(some 57), (.call (.func 92) [(.tmp 56), (.const (.int .i64 (-19)))]), none, []⟩,
          ⟨(some 58), (.bin .xor (.tmp 55) (.tmp 57)), none, []⟩,
          ⟨(some 59), (.move (.tmp 8)), none, []⟩,
          ⟨(some 60), (.bin .shr (.tmp 59) (.const (.int .u64 10))), none, []⟩,
          ⟨(some 61), (.bin .xor (.tmp 58) (.tmp 60)), none, []⟩,
          ⟨(some 10), (.move (.tmp 61)), none, []⟩]))
        (.draw [0, 0, 2, 6, 14, 0, 62, 0, 128, 384, 896, 2046, 0, 8190, 16383, 32767] [⟨0, 0, [], ⟨(some 62), (.move (.tmp 4)), none, []⟩⟩,
          ⟨1, 0, [], ⟨(some 63), (.move (.tmp 4)), none, []⟩⟩,
          ⟨2, 2, [], ⟨(some 64), (.bin .sub (.tmp 63) (.const (.int .i64 16))), none, []⟩⟩,
          ⟨3, 6, [], ⟨(some 65), (.indexArr 64 1 (.tmp 3) (.tmp 64)), none, []⟩⟩,
          ⟨4, 14, [], ⟨(some 66), (.load none (.tmp 65)), none, []⟩⟩,
          ⟨5, 0, [], ⟨(some 67), (.move (.tmp 9)), none, []⟩⟩,
          ⟨6, 62, [], ⟨(some 68), (.bin .add (.tmp 66) (.tmp 67)), none, []⟩⟩,
          ⟨7, 0, [], ⟨(some 69), (.move (.tmp 4)), none, []⟩⟩,
          ⟨8, 128, [], ⟨(some 70), (.bin .sub (.tmp 69) (.const (.int .i64 7))), none, []⟩⟩,
          ⟨9, 384, [], ⟨(some 71), (.indexArr 64 1 (.tmp 3) (.tmp 70)), none, []⟩⟩,
          ⟨10, 896, [], ⟨(some 72), (.load none (.tmp 71)), none, []⟩⟩,
          ⟨11, 2046, [], ⟨(some 73), (.bin .add (.tmp 68) (.tmp 72)), none, []⟩⟩,
          ⟨12, 0, [], ⟨(some 74), (.move (.tmp 10)), none, []⟩⟩,
          ⟨13, 8190, [], ⟨(some 75), (.bin .add (.tmp 73) (.tmp 74)), none, []⟩⟩,
          ⟨14, 16383, [], ⟨(some 76), (.indexArr 64 1 (.tmp 3) (.tmp 62)), none, []⟩⟩,
          ⟨15, 32767, [], ⟨none, (.store 1 (.tmp 76) (.tmp 75)), none, []⟩⟩]))))))))
      (.ops [⟨(some 77), (.bin .add (.tmp 11) (.const (.int .i64 1))), none, []⟩,
        ⟨(some 11), (.move (.tmp 77)), none, []⟩])))))))))
  (.seq (.keep [2] (.ops [⟨(some 78), (.load (some 64) (.tmp 3)), none, []⟩,
    ⟨none, (.store 64 (.tmp 2) (.tmp 78)), none, []⟩]))
  .ret))))
theorem t87 : trF Tryd.prog Tryd.f87 s87 = some s87 := by kernel_rfl
theorem k87 : okS s87 = true := by kernel_rfl
theorem r87 : resT Tryd.prog Tryd.f87.results.toList = some [.c 2 (some 64)] := by kernel_rfl

def s88 : S :=
  (.seq (.keep [0, 1, 2, 3] (.ops [⟨(some 8), (.move (.const (.int .u32 0))), none, []⟩]))
  (.seq (.keep [8] (.ops [⟨(some 9), (.move (.tmp 0)), none, []⟩,
    ⟨(some 10), (.move (.tmp 1)), none, []⟩,
    ⟨(some 11), (.un .neg (.tmp 10)), none, []⟩,
    ⟨(some 12), (.call (.func 92) [(.tmp 9), (.tmp 11)]), none, []⟩,
    ⟨(some 13), (.move (.tmp 0)), none, []⟩,
    ⟨(some 14), (.move (.tmp 2)), none, []⟩,
    ⟨(some 15), (.un .neg (.tmp 14)), none, []⟩,
    ⟨(some 16), (.call (.func 92) [(.tmp 13), (.tmp 15)]), none, []⟩,
    ⟨(some 17), (.bin .xor (.tmp 12) (.tmp 16)), none, []⟩,
    ⟨(some 18), (.move (.tmp 0)), none, []⟩,
    ⟨(some 19), (.move (.tmp 3)), none, []⟩,
    ⟨(some 20), (.un .neg (.tmp 19)), none, []⟩,
    ⟨(some 21), (.call (.func 92) [(.tmp 18), (.tmp 20)]), none, []⟩,
    ⟨(some 22), (.bin .xor (.tmp 17) (.tmp 21)), none, []⟩,
    ⟨(some 8), (.move (.tmp 22)), none, []⟩]))
  .ret))
theorem t88 : trF Tryd.prog Tryd.f88 s88 = some s88 := by kernel_rfl
theorem k88 : okS s88 = true := by kernel_rfl
theorem r88 : resT Tryd.prog Tryd.f88.results.toList = some [.t 8] := by kernel_rfl

def s89 : S :=
  (.seq (.keep [0] (.ops [⟨(some 2), (.move (.const (.slice none 0 0))), none, []⟩]))
  (.seq (.keep [0, 3] (.ops [⟨(some 6), (.buildSlice 0 [] []), none, []⟩,
    ⟨(some 7), (.move (.tmp 0)), none, []⟩,
    ⟨(some 8), (.append 1 1 (.tmp 6) (.tmp 7)), none, []⟩,
    ⟨(some 3), (.move (.tmp 8)), none, []⟩]))
  (.seq (.keep [0, 3] (.ops [⟨(some 9), (.move (.tmp 3)), none, []⟩,
    ⟨(some 10), (.buildSlice 1 [(.int .u8 0)] [(0, 1, (.const (.int .u8 128)))]), none, []⟩,
    ⟨(some 11), (.append 1 1 (.tmp 9) (.tmp 10)), none, []⟩,
    ⟨(some 3), (.move (.tmp 11)), none, []⟩]))
  (.seq (.keep [0, 3] (.block 0
    (.loop
      (.keep [0, 3] (.seq (.keep [0, 3] (.seq (.keep [0, 3, 15] (.ops [⟨(some 12), (.move (.tmp 3)), none, []⟩,
        ⟨(some 13), (.len (.tmp 12)), none, []⟩,
        ⟨(some 14), (.bin .rem (.tmp 13) (.const (.int .i64 64))), none, []⟩,
        ⟨(some 15), (.bin .neq (.tmp 14) (.const (.int .i64 56))), none, []⟩]))
      (.cond (.tmp 15)
        .skip
        (.exit 0))))
      (.block 1
        (.ops [⟨(some 16), (.move (.tmp 3)), none, []⟩,
          ⟨(some 17), (.buildSlice 1 [(.int .u8 0)] [(0, 1, (.const (.int .u8 0)))]), none, []⟩,
          ⟨(some 18), (.append 1 1 (.tmp 16) (.tmp 17)), none, []⟩,
          ⟨(some 3), (.move (.tmp 18)), none, []⟩])))))))
  (.seq (.keep [3, 4] (.ops [⟨(some 19), (.move (.tmp 0)), none, []⟩,
    ⟨(some 20), (.len (.tmp 19)), none, []⟩,
    ⟨(some 21), (.convInt .u64 (.tmp 20)), none, []⟩,
    ⟨(some 22), (.bin .mul (.const (.int .u64 8)) (.tmp 21)), none, []⟩,
    ⟨(some 4), (.move (.tmp 22)), none, []⟩]))
  (.seq (.keep [3] (.seq (.keep [3, 4, 5] (.ops [⟨(some 5), (.move (.const (.int .i64 0))), none, []⟩]))
  (.block 2
    (.loop
      (.keep [3, 4, 5] (.seq (.keep [3, 4, 5] (.seq (.keep [3, 4, 5, 24] (.ops [⟨(some 23), (.move (.tmp 5)), none, []⟩,
        ⟨(some 24), (.bin .lss (.tmp 23) (.const (.int .i64 8))), none, []⟩]))
      (.cond (.tmp 24)
        .skip
        (.exit 2))))
      (.seq (.keep [3, 4, 5] (.block 3
        (.ops [⟨(some 27), (.move (.tmp 3)), none, []⟩,
          ⟨(some 28), (.move (.tmp 4)), none, []⟩,
          ⟨(some 29), (.move (.tmp 5)), none, []⟩,
          ⟨(some 30), (.bin .mul (.const (.int .i64 8)) (.tmp 29)), none, []⟩,
          ⟨(some 31), (.bin .sub (.const (.int .i64 56)) (.tmp 30)), none, []⟩,
          ⟨(some 32), (.bin .shr (.tmp 28) (.tmp 31)), none, []⟩,
          ⟨(some 33), (.convInt .u8 (.tmp 32)), none, []⟩,
          ⟨(some 34), (.buildSlice 1 [(.int .u8 0)] [(0, 1, (.tmp 33))]), none, []⟩,
          ⟨(some 35), (.append 1 1 (.tmp 27) (.tmp 34)), none, []⟩,
          ⟨(some 3), (.move (.tmp 35)), none, []⟩])))
      (.ops [⟨(some 25), (.move (.tmp 5)), none, []⟩,
        ⟨(some 26), (.bin .add (.tmp 25) (.const (.int .i64 1))), none, []⟩,
        ⟨(some 5), (.move (.tmp 26)), none, []⟩]))))))))
  (.seq (.keep [2] (.ops [⟨(some 36), (.move (.tmp 3)), none, []⟩,
    ⟨(some 2), (.move (.tmp 36)), none, []⟩]))
  .ret)))))))
theorem t89 : trF Tryd.prog Tryd.f89 s89 = some s89 := by kernel_rfl
theorem k89 : okS s89 = true := by kernel_rfl
theorem r89 : resT Tryd.prog Tryd.f89.results.toList = some [.t 2] := by kernel_rfl

def s90 : S :=
  (.seq (.keep [0, 2] (.ops [⟨(some 2), (.alloc (.agg (List.replicate 64 (.int .u32 0)).toArray)), none, []⟩]))
  (.seq (.keep [0, 2, 3] (.ops [⟨(some 3), (.alloc (.agg (List.replicate 64 (.int .u32 0)).toArray)), none, []⟩]))
  (.seq (.keep [2, 3] (.seq (.keep [0, 2, 3, 4] (.ops [⟨(some 4), (.move (.const (.int .i64 0))), none, []⟩]))
  (.block 0
    (.loop
      (.keep [0, 2, 3, 4] (.seq (.keep [0, 2, 3, 4] (.seq (.keep [0, 2, 3, 4, 9] (.ops [⟨(some 8), (.move (.tmp 4)), none, []⟩,
        ⟨(some 9), (.bin .lss (.tmp 8) (.const (.int .i64 16))), none, []⟩]))
      (.cond (.tmp 9)
        .skip
        (.exit 0))))
      (.seq (.keep [0, 2, 3, 4] (.block 1
        (.draw [0, 0, 0, 4, 14, 30, 62, 126, 0, 0, 512, 1536, 3840, 7936, 16128, 32512, 65534, 0, 0, 262144, 786432, 1966080, 4063232, 8257536, 16646144, 33554430, 0, 0, 134217728, 402653184, 1006632960, 2080374784, 4227858432, 8589934590, 17179869183, 34359738367] [⟨0, 0, [], ⟨(some 12), (.move (.tmp 4)), none, []⟩⟩,
          ⟨1, 0, [], ⟨(some 13), (.move (.tmp 0)), none, []⟩⟩,
          ⟨2, 0, [], ⟨(some 14), (.move (.tmp 4)), none, []⟩⟩,
          ⟨3, 4, [], ⟨(some 15), (.bin .mul (.const (.int .i64 4)) (.tmp 14)), none, []⟩⟩,
          ⟨4, 14, [], ⟨(some 16), (.indexAddr 1 (.tmp 13) (.tmp 15)), none, []⟩⟩,
          ⟨5, 30, [], ⟨(some 17), (.load none (.tmp 16)), none, []⟩⟩,
          ⟨6, 62, [], ⟨(some 18), (.convInt .u32 (.tmp 17)), none, []⟩⟩,
          ⟨7, 126, [], ⟨(some 19), (.bin .shl (.tmp 18) (.const (.int .u64 24))), none, []⟩⟩,
          ⟨8, 0, [], ⟨(some 20), (.move (.tmp 0)), none, []⟩⟩,
          ⟨9, 0, [], ⟨(some 21), (.move (.tmp 4)), none, []⟩⟩,
          ⟨10, 512, [], ⟨(some 22), (.bin .mul (.const (.int .i64 4)) (.tmp 21)), none, []⟩⟩,
          ⟨11, 1536, [], ⟨(some 23), (.bin .add (.tmp 22) (.const (.int .i64 1))), none, []⟩⟩,
          ⟨12, 3840, [], ⟨(some 24), (.indexAddr 1 (.tmp 20) (.tmp 23)), none, []⟩⟩,
          ⟨13, 7936, [], ⟨(some 25), (.load none (.tmp 24)), none, []⟩⟩,
          ⟨14, 16128, [], ⟨(some 26), (.convInt .u32 (.tmp 25)), none, []⟩⟩,
          ⟨15, 32512, [], ⟨(some 27), (.bin .shl (.tmp 26) (.const (.int .u64 16))), none, []⟩⟩,
          ⟨16, 65534, [], ⟨(some 28), (.bin .or (.tmp 19) (.tmp 27)), none, []⟩⟩,
          ⟨17, 0, [], ⟨(some 29), (.move (.tmp 0)), none, []⟩⟩,
          ⟨18, 0, [], ⟨(some 30), (.move (.tmp 4)), none, []⟩⟩,
          ⟨19, 262144, [], ⟨(some 31), (.bin .mul (.const (.int .i64 4)) (.tmp 30)), none, []⟩⟩,
          ⟨20, 786432, [], ⟨(some 32), (.bin .add (.tmp 31) (.const (.int .i64 2))), none, []⟩⟩,
          ⟨21, 1966080, [], ⟨(some 33), (.indexAddr 1 (.tmp 29) (.tmp 32)), none, []⟩⟩,
          ⟨22, 4063232, [], ⟨(some 34), (.load none (.tmp 33)), none, []⟩⟩,
          ⟨23, 8257536, [], ⟨(some 35), (.convInt .u32 (.tmp 34)), none, []⟩⟩,
          ⟨24, 16646144, [], ⟨(some 36), (.bin .shl (.tmp 35) (.const (.int .u64 8))), none, []⟩⟩,
          ⟨25, 33554430, [], ⟨(some 37), (.bin .or (.tmp 28) (.tmp 36)), none, []⟩⟩,
          ⟨26, 0, [], ⟨(some 38), (.move (.tmp 0)), none, []⟩⟩,
          ⟨27, 0, [], ⟨(some 39), (.move (.tmp 4)), none, []⟩⟩,
          ⟨28, 134217728, [], ⟨(some 40), (.bin .mul (.const (.int .i64 4)) (.tmp 39)), none, []⟩⟩,
          ⟨29, 402653184, [], ⟨(some 41), (.bin .add (.tmp 40) (.const (.int .i64 3))), none, []⟩⟩,
          ⟨30, 1006632960, [], ⟨(some 42), (.indexAddr 1 (.tmp 38) (.tmp 41)), none, []⟩⟩,
          ⟨31, 2080374784, [], ⟨(some 43), (.load none (.tmp 42)), none, []⟩⟩,
          ⟨32, 4227858432, [], ⟨(some 44), (.convInt .u32 (.tmp 43)), none, []⟩⟩,
          ⟨33, 8589934590, [], ⟨(some 45), (.bin .or (.tmp 37) (.tmp 44)), none, []⟩⟩,
          ⟨34, 17179869183, [], ⟨(some 46), (.indexArr 64 1 (.tmp 3) (.tmp 12)), none, []⟩⟩,
          ⟨35, 34359738367, [], ⟨none, (.store 1 (.tmp 46) (.tmp 45)), none, []⟩⟩])))
      (.ops [⟨(some 10), (.move (.tmp 4)), none, []⟩,
        ⟨(some 11), (.bin .add (.tmp 10) (.const (.int .i64 1))), none, []⟩,
        ⟨(some 4), (.move (.tmp 11)), none, []⟩]))))))))
  (.seq (.keep [2, 3] (.seq (.keep [2, 3, 5] (.ops [⟨(some 5), (.move (.const (.int .i64 16))), none, []⟩]))
  (.block 2
    (.loop
      (.keep [2, 3, 5] (.seq (.keep [2, 3, 5] (.seq (.keep [2, 3, 5, 48] (.ops [⟨(some 47), (.move (.tmp 5)), none, []⟩,
        ⟨(some 48), (.bin .lss (.tmp 47) (.const (.int .i64 64))), none, []⟩]))
      (.cond (.tmp 48)
        .skip
        (.exit 2))))
      (.seq (.keep [2, 3, 5] (.block 3
        (.seq (.keep [2, 3, 5, 6] (.draw [0, 1, 3, 7, 15, 0, 32, 96, 224, 511, 1023, 0, 2048, 6144, 14336, 30720, 65535, 131071] [⟨0, 0, [], ⟨(some 51), (.move (.tmp 5)), none, []⟩⟩,
          ⟨1, 1, [], ⟨(some 52), (.bin .sub (.tmp 51) (.const (.int .i64 15))), none, []⟩⟩,
          ⟨2, 3, [], ⟨(some 53), (.indexArr 64 1 (.tmp 3) (.tmp 52)), none, []⟩⟩,
          ⟨3, 7, [], ⟨(some 54), (.load none (.tmp 53)), none, []⟩⟩,
          ⟨5, 0, [], ⟨(some 56), (.move (.tmp 5)), none, []⟩⟩,
          ⟨6, 32, [], ⟨(some 57), (.bin .sub (.tmp 56) (.const (.int .i64 15))), none, []⟩⟩,
          ⟨7, 96, [], ⟨(some 58), (.indexArr 64 1 (.tmp 3) (.tmp 57)), none, []⟩⟩,
          ⟨8, 224, [], ⟨(some 59), (.load none (.tmp 58)), none, []⟩⟩,
          ⟨11, 0, [], ⟨(some 62), (.move (.tmp 5)), none, []⟩⟩,
          ⟨12, 2048, [], ⟨(some 63), (.bin .sub (.tmp 62) (.const (.int .i64 15))), none, []⟩⟩,
          ⟨13, 6144, [], ⟨(some 64), (.indexArr 64 1 (.tmp 3) (.tmp 63)), none, []⟩⟩,
          ⟨14, 14336, [], ⟨(some 65), (.load none (.tmp 64)), none, []⟩⟩,
          ⟨15, 30720, [], ⟨(some 66), (.bin .shr (.tmp 65) (.const (.int .u64 3))), none, []⟩⟩,
          ⟨4, 15, [8, 14], ⟨(some 55), (.call (.func 91) [(.tmp 54), (.const (.int .i64 7))]), none, [((.load none (.tmp 58)), none, (some 59)), ((.load none (.tmp 64)), none, (some 65))]⟩⟩,
          ⟨9, 511, [14], ⟨(some 60), (.call (.func 91) [(.tmp 59), (.const (.int .i64 18))]), none, [((.load none (.tmp 64)), none, (some 65))]⟩⟩,
          ⟨10, 1023, [], ⟨(some 61), (.bin .xor (.tmp 55) (.tmp 60)), none, []⟩⟩,
          ⟨16, 65535, [], ⟨(some 67), (.bin .xor (.tmp 61) (.tmp 66)), none, []⟩⟩,
          ⟨17, 131071, [], ⟨(some 6), (.move (.tmp 67)), none, []⟩⟩]))
        (.seq (.keep [2, 3, 5, 6, 7] (.draw [0, 1, 3, 7, 15, 0, 32, 96, 224, 511, 1023, 0, 2048, 6144, 14336, 30720, 65535, 131071] [⟨0, 0, [], ⟨(some 68), (.move (.tmp 5)), none, []⟩⟩,
          ⟨1, 1, [], ⟨(some 69), (.bin .sub (.tmp 68) (.const (.int .i64 2))), none, []⟩⟩,
          ⟨2, 3, [], ⟨(some 70), (.indexArr 64 1 (.tmp 3) (.tmp 69)), none, []⟩⟩,
          ⟨3, 7, [], ⟨(some 71), (.load none (.tmp 70)), none, []⟩⟩,
          ⟨5, 0, [], ⟨(some 73), (.move (.tmp 5)), none, []⟩⟩,
          ⟨6, 32, [], ⟨(some 74), (.bin .sub (.tmp 73) (.const (.int .i64 2))), none, []⟩⟩,
          ⟨7, 96, [], ⟨(some 75), (.indexArr 64 1 (.tmp 3) (.tmp 74)), none, []⟩⟩,
          ⟨8, 224, [], ⟨(some 76), (.load none (.tmp 75)), none, []⟩⟩,
          ⟨11, 0, [], ⟨(some 79), (.move (.tmp 5)), none, []⟩⟩,
          ⟨12, 2048, [], ⟨(some 80), (.bin .sub (.tmp 79) (.const (.int .i64 2))), none, []⟩⟩,
          ⟨13, 6144, [], ⟨(some 81), (.indexArr 64 1 (.tmp 3) (.tmp 80)), none, []⟩⟩,
          ⟨14, 14336, [], ⟨(some 82), (.load none (.tmp 81)), none, []⟩⟩,
          ⟨15, 30720, [], ⟨(some 83), (.bin .shr (.tmp 82) (.const (.int .u64 10))), none, []⟩⟩,
          ⟨4, 15, [8, 14], ⟨(some 72), (.call (.func 91) [(.tmp 71), (.const (.int .i64 17))]), none, [((.load none (.tmp 75)), none, (some 76)), ((.load none (.tmp 81)), none, (some 82))]⟩⟩,
          ⟨9, 511, [14], ⟨(some 77), (.call (.func 91) [(.tmp 76), (.const (.int .i64 19))]), none, [((.load none (.tmp 81)), none, (some 82))]⟩⟩,
          ⟨10, 1023, [], ⟨(some 78), (.bin .xor (.tmp 72) (.tmp 77)), none, []⟩⟩,
          ⟨16, 65535, [], ⟨(some 84), (.bin .xor (.tmp 78) (.tmp 83)), none, []⟩⟩,
          ⟨17, 131071, [], ⟨(some 7), (.move (.tmp 84)), none, []⟩⟩]))
        (.draw [0, 0, 2, 6, 14, 0, 62, 0, 128, 384, 896, 2046, 0, 8190, 16383, 32767] [⟨0, 0, [], ⟨(some 85), (.move (.tmp 5)), none, []⟩⟩,
          ⟨1, 0, [], ⟨(some 86), (.move (.tmp 5)), none, []⟩⟩,
          ⟨2, 2, [], ⟨(some 87), (.bin .sub (.tmp 86) (.const (.int .i64 16))), none, []⟩⟩,
          ⟨3, 6, [], ⟨(some 88), (.indexArr 64 1 (.tmp 3) (.tmp 87)), none, []⟩⟩,
          ⟨4, 14, [], ⟨(some 89), (.load none (.tmp 88)), none, []⟩⟩,
          ⟨5, 0, [], ⟨(some 90), (.move (.tmp 6)), none, []⟩⟩,
          ⟨6, 62, [], ⟨(some 91), (.bin .add (.tmp 89) (.tmp 90)), none, []⟩⟩,
          ⟨7, 0, [], ⟨(some 92), (.move (.tmp 5)), none, []⟩⟩,
          ⟨8, 128, [], ⟨(some 93), (.bin .sub (.tmp 92) (.const (.int .i64 7))), none, []⟩⟩,
          ⟨9, 384, [], ⟨(some 94), (.indexArr 64 1 (.tmp 3) (.tmp 93)), none, []⟩⟩,
          ⟨10, 896, [], ⟨(some 95), (.load none (.tmp 94)), none, []⟩⟩,
          ⟨11, 2046, [], ⟨(some 96), (.bin .add (.tmp 91) (.tmp 95)), none, []⟩⟩,
          ⟨12, 0, [], ⟨(some 97), (.move (.tmp 7)), none, []⟩⟩,
          ⟨13, 8190, [], ⟨(some 98), (.bin .add (.tmp 96) (.tmp 97)), none, []⟩⟩,
          ⟨14, 16383, [], ⟨(some 99), (.indexArr 64 1 (.tmp 3) (.tmp 85)), none, []⟩⟩,
          ⟨15, 32767, [], ⟨none, (.store 1 (.tmp 99) (.tmp 98)), none, []⟩⟩])))))
      (.ops [⟨(some 49), (.move (.tmp 5)), none, []⟩,
        ⟨(some 50), (.bin .add (.tmp 49) (.const (.int .i64 1))), none, []⟩,
        ⟨(some 5), (.move (.tmp 50)), none, []⟩]))))))))
  (.seq (.keep [2] (.ops [⟨(some 100), (.load (some 64) (.tmp 3)), none, []⟩,
    ⟨none, (.store 64 (.tmp 2) (.tmp 100)), none, []⟩]))
  .ret)))))
theorem t90 : trF Tryd.prog Tryd.f90 s90 = some s90 := by kernel_rfl
theorem k90 : okS s90 = true := by kernel_rfl
theorem r90 : resT Tryd.prog Tryd.f90.results.toList = some [.c 2 (some 64)] := by kernel_rfl

def s91 : S :=
  (.seq (.keep [0, 1] (.ops [⟨(some 4), (.move (.const (.int .u32 0))), none, []⟩]))
  (.seq (.keep [4] (.draw [0, 0, 3, 0, 0, 16, 56, 127, 255] [⟨0, 0, [], ⟨(some 5), (.move (.tmp 0)), none, []⟩⟩,
    ⟨1, 0, [], ⟨(some 6), (.move (.tmp 1)), none, []⟩⟩,
    ⟨2, 3, [], ⟨(some 7), (.bin .shr (.tmp 5) (.tmp 6)), none, []⟩⟩,
    ⟨3, 0, [], ⟨(some 8), (.move (.tmp 0)), none, []⟩⟩,
    ⟨4, 0, [], ⟨(some 9), (.move (.tmp 1)), none, []⟩⟩,
    ⟨5, 16, [], ⟨(some 10), (.bin .sub (.const (.int .i64 32)) (.tmp 9)), none, []⟩⟩,
    ⟨6, 56, [], ⟨(some 11), (.bin .shl (.tmp 8) (.tmp 10)), none, []⟩⟩,
    ⟨7, 127, [], ⟨(some 12), (.bin .or (.tmp 7) (.tmp 11)), none, []⟩⟩,
    ⟨8, 255, [], ⟨(some 4), (.move (.tmp 12)), none, []⟩⟩]))
  .ret))
theorem t91 : trF Tryd.prog Tryd.f91 s91 = some s91 := by kernel_rfl
theorem k91 : okS s91 = true := by kernel_rfl
theorem r91 : resT Tryd.prog Tryd.f91.results.toList = some [.t 4] := by kernel_rfl

def s92 : S :=
  (.seq (.keep [0, 1] (.ops [⟨(some 4), (.move (.const (.int .u32 0))), none, []⟩]))
  (.seq (.keep [0, 5] (.ops [⟨(some 6), (.move (.tmp 1)), none, []⟩,
    ⟨(some 7), (.convInt .u64 (.tmp 6)), none, []⟩,
    ⟨(some 8), (.bin .and (.tmp 7) (.const (.int .u64 31))), none, []⟩,
    ⟨(some 5), (.move (.tmp 8)), none, []⟩]))
  (.seq (.keep [4] (.ops [⟨(some 9), (.move (.tmp 0)), none, []⟩,
    ⟨(some 10), (.move (.tmp 5)), none, []⟩,
    ⟨(some 11), (.bin .shl (.tmp 9) (.tmp 10)), none, []⟩,
    ⟨(some 12), (.move (.tmp 0)), none, []⟩,
    ⟨(some 13), (.move (.tmp 5)), none, []⟩,
    ⟨(some 14), (.bin .sub (.const (.int .u64 32)) (.tmp 13)), none, []⟩,
    ⟨(some 15), (.bin .shr (.tmp 12) (.tmp 14)), none, []⟩,
    ⟨(some 16), (.bin .or (.tmp 11) (.tmp 15)), none, []⟩,
    ⟨(some 4), (.move (.tmp 16)), none, []⟩]))
  .ret)))
theorem t92 : trF Tryd.prog Tryd.f92 s92 = some s92 := by kernel_rfl
theorem k92 : okS s92 = true := by kernel_rfl
theorem r92 : resT Tryd.prog Tryd.f92.results.toList = some [.t 4] := by kernel_rfl


end Go.Proofs.YtopnlllipkockaaDoor
