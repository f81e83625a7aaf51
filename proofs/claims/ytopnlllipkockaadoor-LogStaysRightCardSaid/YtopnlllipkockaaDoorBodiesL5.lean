/- The bodies of the law's function, resolved, checked by the kernel. Conditions: none. -/
import Derived.Test.YtopnlllipkockaaDoorHr
set_option linter.all false
namespace Go.Proofs.YtopnlllipkockaaDoor
open Go Go.Cn
def s5 : S :=
  (.seq (.keep [1, 2, 3, 4] (.ops [⟨(some 4), (.box (.tmp 0)), none, []⟩,
    ⟨(some 8), (.move (.const (.bool false))), none, []⟩]))
  (.seq (.keep [1, 2, 3, 4] (.seq (.keep [1, 2, 3, 4, 30] (.ops [⟨(some 23), (.move (.tmp 2)), none, []⟩,
    ⟨(some 24), (.len (.tmp 23)), none, []⟩,
    ⟨(some 25), (.bin .gtr (.tmp 24) (.const (.int .i64 40))), none, []⟩,
    ⟨(some 26), (.move (.tmp 25)), none, []⟩,
    ⟨(some 27), (.move (.tmp 3)), (some (26, false)), []⟩,
    ⟨(some 28), (.lenStr (.tmp 27)), (some (26, false)), []⟩,
    ⟨(some 29), (.bin .gtr (.tmp 28) (.const (.int .i64 200))), (some (26, false)), []⟩,
    ⟨(some 30), (.pick (.tmp 26) (.const (.bool true)) (.tmp 29)), none, []⟩]))
  (.cond (.tmp 30)
    (.seq (.keep [8] (.ops [⟨(some 31), (.call (.func 10) []), none, []⟩,
      ⟨(some 8), (.move (.tmp 31)), none, []⟩]))
    .ret)
    .skip)))
  (.seq (.keep [2, 3, 9, 10] (.ops [⟨(some 33), (.load (some 16) (.tmp 4)), none, []⟩,
    ⟨(some 34), (.move (.tmp 1)), none, []⟩,
    ⟨(some 35), (.bin .rem (.tmp 34) (.const (.int .u8 4))), none, []⟩,
    ⟨(some 36), (.convInt .i64 (.tmp 35)), none, []⟩,
    ⟨(some 37), (.bin .add (.const (.int .i64 1)) (.tmp 36)), none, []⟩,
    ⟨(some 38), (.call (.func 11) [(.tmp 33), (.tmp 37)]), none, []⟩,
    ⟨(some 32), (.move (.tmp 38)), none, []⟩,
    ⟨(some 39), (.extract (.tmp 32) 0), none, []⟩,
    ⟨(some 40), (.extract (.tmp 32) 1), none, []⟩,
    ⟨(some 9), (.alloc (.agg #[(.int .u8 0), (.int .u8 0), (.int .u8 0), (.int .u8 0), (.int .u8 0), (.int .u8 0), (.int .u8 0), (.int .u8 0), (.int .u8 0), (.int .u8 0), (.int .u8 0), (.int .u8 0), (.int .u8 0), (.int .u8 0), (.int .u8 0), (.int .u8 0), (.int .i64 0), (.slice none 0 0), (.slice none 0 0)])), none, []⟩,
    ⟨none, (.store 19 (.tmp 9) (.tmp 39)), none, []⟩,
    ⟨(some 10), (.move (.tmp 40)), none, []⟩]))
  (.seq (.keep [2, 3, 9] (.seq (.keep [2, 3, 9, 42] (.ops [⟨(some 41), (.move (.tmp 10)), none, []⟩,
    ⟨(some 42), (.bin .neq (.tmp 41) (.const (.int .i64 0))), none, []⟩]))
  (.cond (.tmp 42)
    (.seq (.keep [8] (.ops [⟨(some 8), (.move (.const (.bool false))), none, []⟩]))
    .ret)
    .skip)))
  (.seq (.keep [] (.seq (.keep [2, 3, 9, 11] (.ops [⟨(some 11), (.move (.const (.int .i64 0))), none, []⟩]))
  (.block 0
    (.loop
      (.keep [2, 3, 9, 11] (.seq (.keep [2, 3, 9, 11] (.seq (.keep [2, 3, 9, 11, 46] (.ops [⟨(some 43), (.move (.tmp 11)), none, []⟩,
        ⟨(some 44), (.move (.tmp 2)), none, []⟩,
        ⟨(some 45), (.len (.tmp 44)), none, []⟩,
        ⟨(some 46), (.bin .lss (.tmp 43) (.tmp 45)), none, []⟩]))
      (.cond (.tmp 46)
        .skip
        (.exit 0))))
      (.seq (.keep [2, 3, 9, 11] (.block 1
        (.seq (.keep [2, 3, 9, 11] (.seq (.keep [2, 3, 9, 11, 56] (.ops [⟨(some 49), (.move (.tmp 2)), none, []⟩,
          ⟨(some 50), (.move (.tmp 11)), none, []⟩,
          ⟨(some 51), (.indexAddr 7 (.tmp 49) (.tmp 50)), none, []⟩,
          ⟨(some 52), (.fieldAddr 1 (.tmp 51)), none, []⟩,
          ⟨(some 53), (.fieldAddr 4 (.tmp 52)), none, []⟩,
          ⟨(some 54), (.load none (.tmp 53)), none, []⟩,
          ⟨(some 55), (.lenStr (.tmp 54)), none, []⟩,
          ⟨(some 56), (.bin .gtr (.tmp 55) (.const (.int .i64 600))), none, []⟩]))
        (.cond (.tmp 56)
          (.seq (.keep [8] (.ops [⟨(some 57), (.call (.func 10) []), none, []⟩,
            ⟨(some 8), (.move (.tmp 57)), none, []⟩]))
          .ret)
          .skip)))
        (.seq (.keep [2, 3, 9, 11, 12] (.ops [⟨(some 58), (.load (some 19) (.tmp 9)), none, []⟩,
          ⟨(some 12), (.alloc (.agg #[(.int .u8 0), (.int .u8 0), (.int .u8 0), (.int .u8 0), (.int .u8 0), (.int .u8 0), (.int .u8 0), (.int .u8 0), (.int .u8 0), (.int .u8 0), (.int .u8 0), (.int .u8 0), (.int .u8 0), (.int .u8 0), (.int .u8 0), (.int .u8 0), (.int .i64 0), (.slice none 0 0), (.slice none 0 0)])), none, []⟩,
          ⟨none, (.store 19 (.tmp 12) (.tmp 58)), none, []⟩]))
        (.seq (.keep [2, 3, 9, 11, 12] (.seq (.keep [2, 3, 9, 11, 12, 64] (.ops [⟨(some 59), (.move (.tmp 2)), none, []⟩,
          ⟨(some 60), (.move (.tmp 11)), none, []⟩,
          ⟨(some 61), (.indexAddr 7 (.tmp 59) (.tmp 60)), none, []⟩,
          ⟨(some 62), (.fieldAddr 0 (.tmp 61)), none, []⟩,
          ⟨(some 63), (.load none (.tmp 62)), none, []⟩,
          ⟨(some 64), (.bin .rem (.tmp 63) (.const (.int .u8 3))), none, []⟩]))
        (.block 2
          (.seq (.keep [2, 3, 9, 11, 12, 64, 65] (.ops [⟨(some 66), (.bin .eql (.tmp 64) (.const (.int .u8 0))), none, []⟩,
            ⟨(some 65), (.move (.tmp 66)), none, []⟩]))
          (.cond (.tmp 65)
            (.seq (.keep [2, 3, 9, 11, 12, 13, 14] (.draw [0, 0, 0, 6, 14, 30, 63, 127, 255, 255, 0, 1535, 4095] [⟨0, 0, [], ⟨(some 68), (.load (some 19) (.tmp 9)), none, []⟩⟩,
              ⟨1, 0, [], ⟨(some 69), (.move (.tmp 2)), none, []⟩⟩,
              ⟨2, 0, [], ⟨(some 70), (.move (.tmp 11)), none, []⟩⟩,
              ⟨3, 6, [], ⟨(some 71), (.indexAddr 7 (.tmp 69) (.tmp 70)), none, []⟩⟩,
              ⟨4, 14, [], ⟨(some 72), (.fieldAddr 1 (.tmp 71)), none, []⟩⟩,
              ⟨5, 30, [], ⟨(some 73), (.load (some 5) (.tmp 72)), none, []⟩⟩,
              ⟨10, 0, [], ⟨(some 13), (.alloc (.agg #[(.int .u8 0), (.int .u8 0), (.int .u8 0), (.int .u8 0), (.int .u8 0), (.int .u8 0), (.int .u8 0), (.int .u8 0), (.int .u8 0), (.int .u8 0), (.int .u8 0), (.int .u8 0), (.int .u8 0), (.int .u8 0), (.int .u8 0), (.int .u8 0), (.int .i64 0), (.slice none 0 0), (.slice none 0 0)])), none, []⟩⟩,
              ⟨6, 63, [], ⟨(some 74), (.call (.func 22) [(.tmp 68), (.tmp 73)]), none, []⟩⟩,
              ⟨7, 127, [], ⟨(some 67), (.move (.tmp 74)), none, []⟩⟩,
              ⟨8, 255, [], ⟨(some 75), (.extract (.tmp 67) 0), none, []⟩⟩,
              ⟨9, 255, [], ⟨(some 76), (.extract (.tmp 67) 1), none, []⟩⟩,
              ⟨11, 1535, [], ⟨none, (.store 19 (.tmp 13) (.tmp 75)), none, []⟩⟩,
              ⟨12, 4095, [], ⟨(some 14), (.move (.tmp 76)), none, []⟩⟩]))
            (.seq (.keep [2, 3, 9, 11, 12, 13, 14] (.ops [⟨(some 77), (.load (some 19) (.tmp 13)), none, []⟩,
              ⟨none, (.store 19 (.tmp 12) (.tmp 77)), none, []⟩]))
            (.seq (.keep [2, 3, 9, 11, 12, 108] (.ops [⟨(some 78), (.move (.tmp 14)), none, []⟩,
              ⟨(some 79), (.bin .eql (.tmp 78) (.const (.int .i64 0))), none, []⟩,
              ⟨(some 80), (.move (.tmp 79)), none, []⟩,
              ⟨(some 81), (.fieldAddr 17 (.tmp 13)), (some (80, true)), []⟩,
              ⟨(some 82), (.load none (.tmp 81)), (some (80, true)), []⟩,
              ⟨(some 83), (.len (.tmp 82)), (some (80, true)), []⟩,
              ⟨(some 84), (.fieldAddr 17 (.tmp 9)), (some (80, true)), []⟩,
              ⟨(some 85), (.load none (.tmp 84)), (some (80, true)), []⟩,
              ⟨(some 86), (.len (.tmp 85)), (some (80, true)), []⟩,
              ⟨(some 87), (.bin .add (.tmp 86) (.const (.int .i64 1))), (some (80, true)), []⟩,
              ⟨(some 88), (.bin .neq (.tmp 83) (.tmp 87)), (some (80, true)), []⟩,
              ⟨(some 89), (.pick (.tmp 80) (.tmp 88) (.const (.bool false))), none, []⟩,
              ⟨(some 90), (.move (.tmp 89)), none, []⟩,
              ⟨(some 91), (.move (.tmp 14)), (some (90, false)), []⟩,
              ⟨(some 92), (.bin .neq (.tmp 91) (.const (.int .i64 0))), (some (90, false)), []⟩,
              ⟨(some 93), (.move (.tmp 92)), (some (90, false)), []⟩,
              ⟨(some 94), (.fieldAddr 17 (.tmp 13)), (some (93, true)), []⟩,
              ⟨(some 95), (.load none (.tmp 94)), (some (93, true)), []⟩,
              ⟨(some 96), (.len (.tmp 95)), (some (93, true)), []⟩,
              ⟨(some 97), (.fieldAddr 17 (.tmp 9)), (some (93, true)), []⟩,
              ⟨(some 98), (.load none (.tmp 97)), (some (93, true)), []⟩,
              ⟨(some 99), (.len (.tmp 98)), (some (93, true)), []⟩,
              ⟨(some 100), (.bin .neq (.tmp 96) (.tmp 99)), (some (93, true)), []⟩,
              ⟨(some 101), (.pick (.tmp 93) (.tmp 100) (.const (.bool false))), (some (90, false)), []⟩,
              ⟨(some 102), (.pick (.tmp 90) (.const (.bool true)) (.tmp 101)), none, []⟩,
              ⟨(some 103), (.move (.tmp 102)), none, []⟩,
              ⟨(some 104), (.load (some 19) (.tmp 9)), (some (103, false)), []⟩,
              ⟨(some 105), (.load (some 19) (.tmp 13)), (some (103, false)), []⟩,
              ⟨(some 106), (.call (.func 32) [(.tmp 104), (.tmp 105)]), (some (103, false)), []⟩,
              ⟨(some 107), (.un .not (.tmp 106)), (some (103, false)), []⟩,
              ⟨(some 108), (.pick (.tmp 103) (.const (.bool true)) (.tmp 107)), none, []⟩]))
            (.cond (.tmp 108)
              (.seq (.keep [8] (.ops [⟨(some 8), (.move (.const (.bool false))), none, []⟩]))
              .ret)
              .skip))))
            (.seq (.keep [2, 3, 9, 11, 12, 64, 109] (.ops [⟨(some 110), (.bin .eql (.tmp 64) (.const (.int .u8 1))), none, []⟩,
              ⟨(some 109), (.move (.tmp 110)), none, []⟩]))
            (.cond (.tmp 109)
              (.seq (.keep [2, 3, 9, 11, 12, 15, 16] (.ops [⟨(some 112), (.load (some 19) (.tmp 9)), none, []⟩,
                ⟨(some 113), (.move (.tmp 3)), none, []⟩,
                ⟨(some 114), (.call (.func 23) [(.tmp 112), (.tmp 113)]), none, []⟩,
                ⟨(some 111), (.move (.tmp 114)), none, []⟩,
                ⟨(some 115), (.extract (.tmp 111) 0), none, []⟩,
                ⟨(some 116), (.extract (.tmp 111) 1), none, []⟩,
                ⟨(some 15), (.alloc (.agg #[(.int .u8 0), (.int .u8 0), (.int .u8 0), (.int .u8 0), (.int .u8 0), (.int .u8 0), (.int .u8 0), (.int .u8 0), (.int .u8 0), (.int .u8 0), (.int .u8 0), (.int .u8 0), (.int .u8 0), (.int .u8 0), (.int .u8 0), (.int .u8 0), (.int .i64 0), (.slice none 0 0), (.slice none 0 0)])), none, []⟩,
                ⟨none, (.store 19 (.tmp 15) (.tmp 115)), none, []⟩,
                ⟨(some 16), (.move (.tmp 116)), none, []⟩]))
              (.seq (.keep [2, 3, 9, 11, 12, 15, 118] (.ops [⟨(some 117), (.move (.tmp 16)), none, []⟩,
                ⟨(some 118), (.bin .eql (.tmp 117) (.const (.int .i64 0))), none, []⟩]))
              (.cond (.tmp 118)
                (.seq (.keep [2, 3, 9, 11, 12, 15, 17, 18] (.ops [⟨(some 120), (.load (some 19) (.tmp 15)), none, []⟩,
                  ⟨(some 121), (.move (.tmp 3)), none, []⟩,
                  ⟨(some 122), (.call (.func 24) [(.tmp 120), (.tmp 121)]), none, []⟩,
                  ⟨(some 119), (.move (.tmp 122)), none, []⟩,
                  ⟨(some 123), (.extract (.tmp 119) 0), none, []⟩,
                  ⟨(some 124), (.extract (.tmp 119) 1), none, []⟩,
                  ⟨(some 17), (.move (.tmp 123)), none, []⟩,
                  ⟨(some 18), (.move (.tmp 124)), none, []⟩]))
                (.seq (.keep [2, 3, 9, 11, 12, 15] (.seq (.keep [2, 3, 9, 11, 12, 15, 145] (.ops [⟨(some 125), (.move (.tmp 18)), none, []⟩,
                  ⟨(some 126), (.bin .neq (.tmp 125) (.const (.int .i64 0))), none, []⟩,
                  ⟨(some 127), (.move (.tmp 126)), none, []⟩,
                  ⟨(some 128), (.move (.tmp 17)), (some (127, false)), []⟩,
                  ⟨(some 129), (.fieldAddr 17 (.tmp 9)), (some (127, false)), []⟩,
                  ⟨(some 130), (.load none (.tmp 129)), (some (127, false)), []⟩,
                  ⟨(some 131), (.len (.tmp 130)), (some (127, false)), []⟩,
                  ⟨(some 132), (.bin .neq (.tmp 128) (.tmp 131)), (some (127, false)), []⟩,
                  ⟨(some 133), (.pick (.tmp 127) (.const (.bool true)) (.tmp 132)), none, []⟩,
                  ⟨(some 134), (.move (.tmp 133)), none, []⟩,
                  ⟨(some 135), (.load (some 19) (.tmp 9)), (some (134, false)), []⟩,
                  ⟨(some 136), (.load (some 19) (.tmp 15)), (some (134, false)), []⟩,
                  ⟨(some 137), (.call (.func 32) [(.tmp 135), (.tmp 136)]), (some (134, false)), []⟩,
                  ⟨(some 138), (.un .not (.tmp 137)), (some (134, false)), []⟩,
                  ⟨(some 139), (.pick (.tmp 134) (.const (.bool true)) (.tmp 138)), none, []⟩,
                  ⟨(some 140), (.move (.tmp 139)), none, []⟩,
                  ⟨(some 141), (.load (some 19) (.tmp 15)), (some (140, false)), []⟩,
                  ⟨(some 142), (.load (some 19) (.tmp 9)), (some (140, false)), []⟩,
                  ⟨(some 143), (.call (.func 32) [(.tmp 141), (.tmp 142)]), (some (140, false)), []⟩,
                  ⟨(some 144), (.un .not (.tmp 143)), (some (140, false)), []⟩,
                  ⟨(some 145), (.pick (.tmp 140) (.const (.bool true)) (.tmp 144)), none, []⟩]))
                (.cond (.tmp 145)
                  (.seq (.keep [8] (.ops [⟨(some 8), (.move (.const (.bool false))), none, []⟩]))
                  .ret)
                  .skip)))
                (.ops [⟨(some 146), (.load (some 19) (.tmp 15)), none, []⟩,
                  ⟨none, (.store 19 (.tmp 12) (.tmp 146)), none, []⟩])))
                .skip)))
              (.seq (.keep [2, 3, 9, 11, 12, 147] (.ops [⟨(some 148), (.bin .eql (.tmp 64) (.const (.int .u8 2))), none, []⟩,
                ⟨(some 147), (.move (.tmp 148)), none, []⟩]))
              (.cond (.tmp 147)
                (.seq (.keep [2, 3, 9, 11, 12, 19, 20] (.draw [0, 0, 0, 6, 14, 30, 62, 0, 128, 384, 896, 2046, 4095, 8191, 16383, 16383, 0, 98303, 262143] [⟨0, 0, [], ⟨(some 150), (.load (some 19) (.tmp 9)), none, []⟩⟩,
                  ⟨1, 0, [], ⟨(some 151), (.move (.tmp 2)), none, []⟩⟩,
                  ⟨2, 0, [], ⟨(some 152), (.move (.tmp 11)), none, []⟩⟩,
                  ⟨3, 6, [], ⟨(some 153), (.indexAddr 7 (.tmp 151) (.tmp 152)), none, []⟩⟩,
                  ⟨4, 14, [], ⟨(some 154), (.fieldAddr 6 (.tmp 153)), none, []⟩⟩,
                  ⟨5, 30, [], ⟨(some 155), (.load none (.tmp 154)), none, []⟩⟩,
                  ⟨6, 62, [], ⟨(some 156), (.convInt .i64 (.tmp 155)), none, []⟩⟩,
                  ⟨7, 0, [], ⟨(some 157), (.fieldAddr 17 (.tmp 9)), none, []⟩⟩,
                  ⟨8, 128, [], ⟨(some 158), (.load none (.tmp 157)), none, []⟩⟩,
                  ⟨9, 384, [], ⟨(some 159), (.len (.tmp 158)), none, []⟩⟩,
                  ⟨10, 896, [], ⟨(some 160), (.bin .add (.tmp 159) (.const (.int .i64 1))), none, []⟩⟩,
                  ⟨11, 2046, [], ⟨(some 161), (.bin .rem (.tmp 156) (.tmp 160)), none, []⟩⟩,
                  ⟨16, 0, [], ⟨(some 19), (.alloc (.agg #[(.int .u8 0), (.int .u8 0), (.int .u8 0), (.int .u8 0), (.int .u8 0), (.int .u8 0), (.int .u8 0), (.int .u8 0), (.int .u8 0), (.int .u8 0), (.int .u8 0), (.int .u8 0), (.int .u8 0), (.int .u8 0), (.int .u8 0), (.int .u8 0), (.int .i64 0), (.slice none 0 0), (.slice none 0 0)])), none, []⟩⟩,
                  ⟨12, 4095, [], ⟨(some 162), (.call (.func 25) [(.tmp 150), (.tmp 161)]), none, []⟩⟩,
                  ⟨13, 8191, [], ⟨(some 149), (.move (.tmp 162)), none, []⟩⟩,
                  ⟨14, 16383, [], ⟨(some 163), (.extract (.tmp 149) 0), none, []⟩⟩,
                  ⟨15, 16383, [], ⟨(some 164), (.extract (.tmp 149) 1), none, []⟩⟩,
                  ⟨17, 98303, [], ⟨none, (.store 19 (.tmp 19) (.tmp 163)), none, []⟩⟩,
                  ⟨18, 262143, [], ⟨(some 20), (.move (.tmp 164)), none, []⟩⟩]))
                (.seq (.keep [2, 3, 9, 11, 12, 19] (.seq (.keep [2, 3, 9, 11, 12, 19, 172] (.ops [⟨(some 165), (.move (.tmp 20)), none, []⟩,
                  ⟨(some 166), (.bin .neq (.tmp 165) (.const (.int .i64 0))), none, []⟩,
                  ⟨(some 167), (.move (.tmp 166)), none, []⟩,
                  ⟨(some 168), (.load (some 19) (.tmp 19)), (some (167, false)), []⟩,
                  ⟨(some 169), (.load (some 19) (.tmp 9)), (some (167, false)), []⟩,
                  ⟨(some 170), (.call (.func 32) [(.tmp 168), (.tmp 169)]), (some (167, false)), []⟩,
                  ⟨(some 171), (.un .not (.tmp 170)), (some (167, false)), []⟩,
                  ⟨(some 172), (.pick (.tmp 167) (.const (.bool true)) (.tmp 171)), none, []⟩]))
                (.cond (.tmp 172)
                  (.seq (.keep [8] (.ops [⟨(some 8), (.move (.const (.bool false))), none, []⟩]))
                  .ret)
                  .skip)))
                (.ops [⟨(some 173), (.load (some 19) (.tmp 19)), none, []⟩,
                  ⟨none, (.store 19 (.tmp 12) (.tmp 173)), none, []⟩])))
                .skip)))))))))
        (.seq (.keep [2, 3, 9, 11] (.ops [⟨(some 174), (.load (some 19) (.tmp 12)), none, []⟩,
          ⟨none, (.store 19 (.tmp 9) (.tmp 174)), none, []⟩]))
        (.seq (.keep [2, 3, 9, 11, 22] (.ops [⟨(some 176), (.load (some 19) (.tmp 9)), none, []⟩,
          ⟨(some 177), (.move (.tmp 3)), none, []⟩,
          ⟨(some 178), (.call (.func 24) [(.tmp 176), (.tmp 177)]), none, []⟩,
          ⟨(some 175), (.move (.tmp 178)), none, []⟩,
          ⟨(some 179), (.extract (.tmp 175) 0), none, []⟩,
          ⟨(some 180), (.extract (.tmp 175) 1), none, []⟩,
          ⟨(some 21), (.move (.tmp 179)), none, []⟩,
          ⟨(some 22), (.move (.tmp 180)), none, []⟩]))
        (.seq (.keep [2, 3, 9, 11, 187] (.ops [⟨(some 181), (.load (some 19) (.tmp 9)), none, []⟩,
          ⟨(some 182), (.call (.func 15) [(.tmp 181)]), none, []⟩,
          ⟨(some 183), (.bin .neq (.tmp 182) (.const (.int .i64 0))), none, []⟩,
          ⟨(some 184), (.move (.tmp 183)), none, []⟩,
          ⟨(some 185), (.move (.tmp 22)), (some (184, false)), []⟩,
          ⟨(some 186), (.bin .neq (.tmp 185) (.const (.int .i64 0))), (some (184, false)), []⟩,
          ⟨(some 187), (.pick (.tmp 184) (.const (.bool true)) (.tmp 186)), none, []⟩]))
        (.cond (.tmp 187)
          (.seq (.keep [8] (.ops [⟨(some 8), (.move (.const (.bool false))), none, []⟩]))
          .ret)
          .skip)))))))))
      (.ops [⟨(some 47), (.move (.tmp 11)), none, []⟩,
        ⟨(some 48), (.bin .add (.tmp 47) (.const (.int .i64 1))), none, []⟩,
        ⟨(some 11), (.move (.tmp 48)), none, []⟩]))))))))
  (.seq (.keep [8] (.ops [⟨(some 188), (.call (.func 10) []), none, []⟩,
    ⟨(some 8), (.move (.tmp 188)), none, []⟩]))
  .ret))))))
theorem t5 : trF Tryd.prog Tryd.f5 s5 = some s5 := by kernel_rfl
theorem k5 : okS s5 = true := by kernel_rfl
theorem r5 : resT Tryd.prog Tryd.f5.results.toList = some [.t 8] := by kernel_rfl

end Go.Proofs.YtopnlllipkockaaDoor
