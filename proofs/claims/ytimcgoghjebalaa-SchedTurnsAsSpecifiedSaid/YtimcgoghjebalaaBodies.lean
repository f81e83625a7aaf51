/- The bodies of the functions, resolved, checked by the kernel. Conditions: none. -/
import Derived.Test.YtimcgoghjebalaaProg
import Derived.KernelRfl
import Derived.Test.YtimcgoghjebalaaCn28
set_option linter.all false
namespace Go.Proofs.Ytimcgoghjebalaa
open Go Go.Cn

def s3 : S :=
  (.seq (.keep [0, 1] (.ops [⟨(some 4), (.move (.const (.bool false))), none, []⟩]))
  (.seq (.keep [0, 1] (.seq (.keep [0, 1, 25] (.ops [⟨(some 17), (.move (.tmp 0)), none, []⟩,
    ⟨(some 18), (.len (.tmp 17)), none, []⟩,
    ⟨(some 19), (.bin .gtr (.tmp 18) (.const (.int .i64 32))), none, []⟩,
    ⟨(some 20), (.move (.tmp 19)), none, []⟩,
    ⟨(some 21), (.move (.tmp 0)), (some (20, false)), []⟩,
    ⟨(some 22), (.move (.tmp 1)), (some (20, false)), []⟩,
    ⟨(some 23), (.call (.func 10) [(.tmp 21), (.tmp 22)]), (some (20, false)), []⟩,
    ⟨(some 24), (.bin .lss (.tmp 23) (.const (.int .i64 0))), (some (20, false)), []⟩,
    ⟨(some 25), (.pick (.tmp 20) (.const (.bool true)) (.tmp 24)), none, []⟩]))
  (.cond (.tmp 25)
    (.seq (.keep [4] (.ops [⟨(some 26), (.call (.func 11) []), none, []⟩,
      ⟨(some 4), (.move (.tmp 26)), none, []⟩]))
    .ret)
    .skip)))
  (.seq (.keep [0, 1, 5] (.ops [⟨(some 27), (.move (.tmp 0)), none, []⟩,
    ⟨(some 28), (.move (.tmp 1)), none, []⟩,
    ⟨(some 29), (.call (.func 12) [(.tmp 27), (.tmp 28)]), none, []⟩,
    ⟨(some 5), (.move (.tmp 29)), none, []⟩]))
  (.seq (.keep [0, 5] (.seq (.keep [0, 5, 35] (.ops [⟨(some 30), (.move (.tmp 5)), none, []⟩,
    ⟨(some 31), (.move (.tmp 0)), none, []⟩,
    ⟨(some 32), (.move (.tmp 1)), none, []⟩,
    ⟨(some 33), (.call (.func 14) [(.tmp 31), (.tmp 32)]), none, []⟩,
    ⟨(some 34), (.call (.func 13) [(.tmp 30), (.tmp 33)]), none, []⟩,
    ⟨(some 35), (.un .not (.tmp 34)), none, []⟩]))
  (.cond (.tmp 35)
    (.seq (.keep [4] (.ops [⟨(some 4), (.move (.const (.bool false))), none, []⟩]))
    .ret)
    .skip)))
  (.seq (.keep [0, 5, 6] (.ops [⟨(some 36), .makeMap, none, []⟩,
    ⟨(some 6), (.move (.tmp 36)), none, []⟩]))
  (.seq (.keep [5, 6] (.seq (.keep [5, 6, 37, 38, 39] (.ops [⟨(some 37), (.move (.tmp 0)), none, []⟩,
    ⟨(some 38), (.len (.tmp 37)), none, []⟩,
    ⟨(some 39), (.move (.const (.int .i64 0))), none, []⟩]))
  (.block 0
    (.loop
      (.keep [5, 6, 37, 38, 39] (.seq (.keep [5, 6, 37, 38, 39, 40] (.ops [⟨(some 40), (.bin .lss (.tmp 39) (.tmp 38)), none, []⟩]))
      (.seq (.keep [5, 6, 37, 38, 39] (.cond (.tmp 40)
        .skip
        (.exit 0)))
      (.seq (.keep [5, 6, 37, 38, 39] (.block 1
        (.seq (.keep [5, 6, 8, 37, 38, 39] (.ops [⟨(some 41), (.indexAddr 3 (.tmp 37) (.tmp 39)), none, []⟩,
          ⟨(some 42), (.load (some 3) (.tmp 41)), none, []⟩,
          ⟨(some 8), (.alloc (.agg #[(.int .i64 0), (.int .i64 0), (.int .i64 0)])), none, []⟩,
          ⟨none, (.store 3 (.tmp 8) (.tmp 42)), none, []⟩]))
        (.seq (.keep [5, 6, 8, 37, 38, 39] (.seq (.keep [5, 6, 8, 10, 37, 38, 39] (.ops [⟨(some 44), (.move (.tmp 6)), none, []⟩,
          ⟨(some 45), (.fieldAddr 0 (.tmp 8)), none, []⟩,
          ⟨(some 46), (.load none (.tmp 45)), none, []⟩,
          ⟨(some 47), (.lookup (.int .i64) (.int .i64 0) true (.tmp 44) (.tmp 46)), none, []⟩,
          ⟨(some 43), (.move (.tmp 47)), none, []⟩,
          ⟨(some 48), (.extract (.tmp 43) 0), none, []⟩,
          ⟨(some 49), (.extract (.tmp 43) 1), none, []⟩,
          ⟨(some 9), (.move (.tmp 48)), none, []⟩,
          ⟨(some 10), (.move (.tmp 49)), none, []⟩]))
        (.seq (.keep [5, 6, 8, 37, 38, 39, 50] (.ops [⟨(some 50), (.move (.tmp 10)), none, []⟩]))
        (.cond (.tmp 50)
          (.seq (.keep [4] (.ops [⟨(some 51), (.call (.func 11) []), none, []⟩,
            ⟨(some 4), (.move (.tmp 51)), none, []⟩]))
          .ret)
          .skip))))
        (.ops [⟨(some 52), (.move (.tmp 6)), none, []⟩,
          ⟨(some 53), (.fieldAddr 0 (.tmp 8)), none, []⟩,
          ⟨(some 54), (.load none (.tmp 53)), none, []⟩,
          ⟨(some 55), (.fieldAddr 1 (.tmp 8)), none, []⟩,
          ⟨(some 56), (.load none (.tmp 55)), none, []⟩,
          ⟨none, (.mapPut (.int .i64) (.tmp 52) (.tmp 54) (.tmp 56)), none, []⟩])))))
      (.ops [⟨(some 57), (.bin .add (.tmp 39) (.const (.int .i64 1))), none, []⟩,
        ⟨(some 39), (.move (.tmp 57)), none, []⟩])))))))))
  (.seq (.keep [6] (.seq (.keep [5, 6, 58, 59, 60] (.ops [⟨(some 58), (.move (.tmp 5)), none, []⟩,
    ⟨(some 59), (.len (.tmp 58)), none, []⟩,
    ⟨(some 60), (.move (.const (.int .i64 0))), none, []⟩]))
  (.block 2
    (.loop
      (.keep [5, 6, 58, 59, 60] (.seq (.keep [5, 6, 58, 59, 60, 61] (.ops [⟨(some 61), (.bin .lss (.tmp 60) (.tmp 59)), none, []⟩]))
      (.seq (.keep [5, 6, 58, 59, 60] (.cond (.tmp 61)
        .skip
        (.exit 2)))
      (.seq (.keep [5, 6, 58, 59, 60] (.block 3
        (.seq (.keep [5, 6, 11, 12, 58, 59, 60] (.ops [⟨(some 62), (.move (.tmp 60)), none, []⟩,
          ⟨(some 63), (.indexAddr 2 (.tmp 58) (.tmp 60)), none, []⟩,
          ⟨(some 64), (.load (some 2) (.tmp 63)), none, []⟩,
          ⟨(some 12), (.alloc (.agg #[(.int .i64 0), (.int .i64 0)])), none, []⟩,
          ⟨(some 11), (.move (.tmp 62)), none, []⟩,
          ⟨none, (.store 2 (.tmp 12) (.tmp 64)), none, []⟩]))
        (.seq (.keep [5, 6, 12, 58, 59, 60] (.seq (.keep [5, 6, 12, 58, 59, 60, 77] (.draw [0, 1, 3, 7, 7, 23, 63, 127, 255, 7, 519, 2047, 4095] [⟨0, 0, [], ⟨(some 65), (.move (.tmp 11)), none, []⟩⟩,
          ⟨1, 1, [], ⟨(some 66), (.bin .gtr (.tmp 65) (.const (.int .i64 0))), none, []⟩⟩,
          ⟨2, 3, [], ⟨(some 67), (.move (.tmp 66)), none, []⟩⟩,
          ⟨3, 7, [], ⟨(some 68), (.move (.tmp 5)), (some (67, true)), []⟩⟩,
          ⟨4, 7, [], ⟨(some 69), (.move (.tmp 11)), (some (67, true)), []⟩⟩,
          ⟨5, 23, [], ⟨(some 70), (.bin .sub (.tmp 69) (.const (.int .i64 1))), (some (67, true)), []⟩⟩,
          ⟨6, 63, [], ⟨(some 71), (.indexAddr 2 (.tmp 68) (.tmp 70)), (some (67, true)), []⟩⟩,
          ⟨7, 127, [], ⟨(some 72), (.fieldAddr 0 (.tmp 71)), (some (67, true)), []⟩⟩,
          ⟨8, 255, [], ⟨(some 73), (.load none (.tmp 72)), (some (67, true)), []⟩⟩,
          ⟨9, 7, [], ⟨(some 74), (.fieldAddr 0 (.tmp 12)), (some (67, true)), []⟩⟩,
          ⟨10, 519, [], ⟨(some 75), (.load none (.tmp 74)), (some (67, true)), []⟩⟩,
          ⟨11, 2047, [], ⟨(some 76), (.bin .eql (.tmp 73) (.tmp 75)), (some (67, true)), []⟩⟩,
          ⟨12, 4095, [], ⟨(some 77), (.pick (.tmp 67) (.tmp 76) (.const (.bool false))), none, []⟩⟩]))
        (.cond (.tmp 77)
          (.seq (.keep [5, 6, 12, 58, 59, 60, 79] (.ops [⟨(some 78), (.move (.tmp 6)), none, []⟩,
            ⟨(some 79), (.mkIter (.tmp 78)), none, []⟩]))
          (.block 4
            (.loop
              (.keep [5, 6, 12, 58, 59, 60, 79] (.seq (.keep [5, 6, 12, 58, 59, 60, 79, 81] (.ops [⟨(some 80), (.next (.tmp 79)), none, []⟩,
                ⟨(some 81), (.extract (.tmp 80) 0), none, []⟩]))
              (.seq (.keep [5, 6, 12, 58, 59, 60, 79] (.cond (.tmp 81)
                .skip
                (.exit 4)))
              (.block 5
                (.seq (.keep [5, 6, 12, 13, 14, 58, 59, 60, 79] (.ops [⟨(some 82), (.entry (.tmp 79)), none, []⟩,
                  ⟨(some 83), (.extract (.tmp 82) 0), none, []⟩,
                  ⟨(some 84), (.extract (.tmp 82) 1), none, []⟩,
                  ⟨(some 13), (.move (.tmp 83)), none, []⟩,
                  ⟨(some 14), (.move (.tmp 84)), none, []⟩]))
                (.seq (.keep [5, 6, 12, 58, 59, 60, 79, 92] (.ops [⟨(some 85), (.move (.tmp 13)), none, []⟩,
                  ⟨(some 86), (.fieldAddr 0 (.tmp 12)), none, []⟩,
                  ⟨(some 87), (.load none (.tmp 86)), none, []⟩,
                  ⟨(some 88), (.bin .neq (.tmp 85) (.tmp 87)), none, []⟩,
                  ⟨(some 89), (.move (.tmp 88)), none, []⟩,
                  ⟨(some 90), (.move (.tmp 14)), (some (89, true)), []⟩,
                  ⟨(some 91), (.bin .gtr (.tmp 90) (.const (.int .i64 0))), (some (89, true)), []⟩,
                  ⟨(some 92), (.pick (.tmp 89) (.tmp 91) (.const (.bool false))), none, []⟩]))
                (.cond (.tmp 92)
                  (.seq (.keep [4] (.ops [⟨(some 4), (.move (.const (.bool false))), none, []⟩]))
                  .ret)
                  .skip))))))))))
          .skip)))
        (.ops [⟨(some 93), (.move (.tmp 6)), none, []⟩,
          ⟨(some 94), (.fieldAddr 0 (.tmp 12)), none, []⟩,
          ⟨(some 95), (.load none (.tmp 94)), none, []⟩,
          ⟨(some 96), (.lookup (.int .i64) (.int .i64 0) false (.tmp 93) (.tmp 95)), none, []⟩,
          ⟨(some 97), (.fieldAddr 1 (.tmp 12)), none, []⟩,
          ⟨(some 98), (.load none (.tmp 97)), none, []⟩,
          ⟨(some 99), (.bin .sub (.tmp 96) (.tmp 98)), none, []⟩,
          ⟨none, (.mapPut (.int .i64) (.tmp 93) (.tmp 95) (.tmp 99)), none, []⟩])))))
      (.ops [⟨(some 100), (.bin .add (.tmp 60) (.const (.int .i64 1))), none, []⟩,
        ⟨(some 60), (.move (.tmp 100)), none, []⟩])))))))))
  (.seq (.keep [] (.seq (.keep [102] (.ops [⟨(some 101), (.move (.tmp 6)), none, []⟩,
    ⟨(some 102), (.mkIter (.tmp 101)), none, []⟩]))
  (.block 6
    (.loop
      (.keep [102] (.seq (.keep [102, 104] (.ops [⟨(some 103), (.next (.tmp 102)), none, []⟩,
        ⟨(some 104), (.extract (.tmp 103) 0), none, []⟩]))
      (.seq (.keep [102] (.cond (.tmp 104)
        .skip
        (.exit 6)))
      (.block 7
        (.seq (.keep [16, 102] (.ops [⟨(some 105), (.entry (.tmp 102)), none, []⟩,
          ⟨(some 106), (.extract (.tmp 105) 1), none, []⟩,
          ⟨(some 16), (.move (.tmp 106)), none, []⟩]))
        (.seq (.keep [102, 108] (.ops [⟨(some 107), (.move (.tmp 16)), none, []⟩,
          ⟨(some 108), (.bin .neq (.tmp 107) (.const (.int .i64 0))), none, []⟩]))
        (.cond (.tmp 108)
          (.seq (.keep [4] (.ops [⟨(some 4), (.move (.const (.bool false))), none, []⟩]))
          .ret)
          .skip)))))))))))
  (.seq (.keep [4] (.ops [⟨(some 109), (.call (.func 11) []), none, []⟩,
    ⟨(some 4), (.move (.tmp 109)), none, []⟩]))
  .ret)))))))))
theorem t3 : trF Try.prog Try.f3 s3 = some s3 := by kernel_rfl
theorem k3 : okS s3 = true := by kernel_rfl
theorem r3 : resT Try.prog Try.f3.results.toList = some [.t 4] := by kernel_rfl

def s4 : S :=
  (.seq (.keep [0, 1, 2] (.ops [⟨(some 6), (.move (.const (.bool false))), none, []⟩]))
  (.seq (.keep [0, 1, 2] (.seq (.keep [0, 1, 2, 16] (.ops [⟨(some 12), (.move (.tmp 0)), none, []⟩,
    ⟨(some 13), (.move (.tmp 1)), none, []⟩,
    ⟨(some 14), (.move (.tmp 2)), none, []⟩,
    ⟨(some 15), (.call (.func 15) [(.tmp 12), (.tmp 13), (.tmp 14)]), none, []⟩,
    ⟨(some 16), (.un .not (.tmp 15)), none, []⟩]))
  (.cond (.tmp 16)
    (.seq (.keep [6] (.ops [⟨(some 17), (.call (.func 11) []), none, []⟩,
      ⟨(some 6), (.move (.tmp 17)), none, []⟩]))
    .ret)
    .skip)))
  (.seq (.keep [0, 1, 2, 7] (.ops [⟨(some 18), (.move (.tmp 0)), none, []⟩,
    ⟨(some 19), (.move (.tmp 1)), none, []⟩,
    ⟨(some 20), (.move (.tmp 2)), none, []⟩,
    ⟨(some 21), (.call (.func 16) [(.tmp 18), (.tmp 19), (.tmp 20)]), none, []⟩,
    ⟨(some 7), (.move (.tmp 21)), none, []⟩]))
  (.seq (.keep [0, 1, 2, 7] (.seq (.keep [0, 1, 2, 7, 26] (.ops [⟨(some 22), (.move (.tmp 7)), none, []⟩,
    ⟨(some 23), (.len (.tmp 22)), none, []⟩,
    ⟨(some 24), (.move (.tmp 1)), none, []⟩,
    ⟨(some 25), (.len (.tmp 24)), none, []⟩,
    ⟨(some 26), (.bin .neq (.tmp 23) (.tmp 25)), none, []⟩]))
  (.cond (.tmp 26)
    (.seq (.keep [6] (.ops [⟨(some 6), (.move (.const (.bool false))), none, []⟩]))
    .ret)
    .skip)))
  (.seq (.keep [0, 1, 2, 7, 8, 9] (.ops [⟨(some 8), (.move (.const (.int .i64 0))), none, []⟩,
    ⟨(some 9), (.move (.const (.bool true))), none, []⟩]))
  (.seq (.keep [0, 8, 9] (.seq (.keep [0, 2, 7, 8, 9, 27, 28, 29] (.ops [⟨(some 27), (.move (.tmp 1)), none, []⟩,
    ⟨(some 28), (.len (.tmp 27)), none, []⟩,
    ⟨(some 29), (.move (.const (.int .i64 0))), none, []⟩]))
  (.block 0
    (.loop
      (.keep [0, 2, 7, 8, 9, 27, 28, 29] (.seq (.keep [0, 2, 7, 8, 9, 27, 28, 29, 30] (.ops [⟨(some 30), (.bin .lss (.tmp 29) (.tmp 28)), none, []⟩]))
      (.seq (.keep [0, 2, 7, 8, 9, 27, 28, 29] (.cond (.tmp 30)
        .skip
        (.exit 0)))
      (.seq (.keep [0, 2, 7, 8, 9, 27, 28, 29] (.block 1
        (.seq (.keep [0, 2, 7, 8, 9, 10, 11, 27, 28, 29] (.ops [⟨(some 31), (.move (.tmp 29)), none, []⟩,
          ⟨(some 32), (.indexAddr 3 (.tmp 27) (.tmp 29)), none, []⟩,
          ⟨(some 33), (.load (some 3) (.tmp 32)), none, []⟩,
          ⟨(some 11), (.alloc (.agg #[(.int .i64 0), (.int .i64 0), (.int .i64 0)])), none, []⟩,
          ⟨(some 10), (.move (.tmp 31)), none, []⟩,
          ⟨none, (.store 3 (.tmp 11) (.tmp 33)), none, []⟩]))
        (.seq (.keep [0, 2, 7, 8, 9, 10, 11, 27, 28, 29] (.seq (.keep [0, 2, 7, 8, 9, 10, 11, 27, 28, 29, 59] (.draw [0, 0, 3, 7, 0, 16, 0, 0, 192, 448, 1008, 2047, 4095, 8191, 8191, 32767, 65535, 8191, 139263, 8191, 8191, 1581055, 3678207, 8265727, 16777215, 33554431] [⟨0, 0, [], ⟨(some 34), (.move (.tmp 7)), none, []⟩⟩,
          ⟨1, 0, [], ⟨(some 35), (.move (.tmp 10)), none, []⟩⟩,
          ⟨2, 3, [], ⟨(some 36), (.indexAddr 1 (.tmp 34) (.tmp 35)), none, []⟩⟩,
          ⟨3, 7, [], ⟨(some 37), (.load none (.tmp 36)), none, []⟩⟩,
          ⟨4, 0, [], ⟨(some 38), (.fieldAddr 0 (.tmp 11)), none, []⟩⟩,
          ⟨5, 16, [], ⟨(some 39), (.load none (.tmp 38)), none, []⟩⟩,
          ⟨6, 0, [], ⟨(some 40), (.move (.tmp 2)), none, []⟩⟩,
          ⟨7, 0, [], ⟨(some 41), (.move (.tmp 10)), none, []⟩⟩,
          ⟨8, 192, [], ⟨(some 42), (.indexAddr 1 (.tmp 40) (.tmp 41)), none, []⟩⟩,
          ⟨9, 448, [], ⟨(some 43), (.load none (.tmp 42)), none, []⟩⟩,
          ⟨10, 1008, [], ⟨(some 44), (.minmax false [(.tmp 39), (.tmp 43)]), none, []⟩⟩,
          ⟨11, 2047, [], ⟨(some 45), (.bin .lss (.tmp 37) (.tmp 44)), none, []⟩⟩,
          ⟨12, 4095, [], ⟨(some 46), (.move (.tmp 45)), none, []⟩⟩,
          ⟨13, 8191, [], ⟨(some 47), (.move (.tmp 7)), (some (46, false)), []⟩⟩,
          ⟨14, 8191, [], ⟨(some 48), (.move (.tmp 10)), (some (46, false)), []⟩⟩,
          ⟨15, 32767, [], ⟨(some 49), (.indexAddr 1 (.tmp 47) (.tmp 48)), (some (46, false)), []⟩⟩,
          ⟨16, 65535, [], ⟨(some 50), (.load none (.tmp 49)), (some (46, false)), []⟩⟩,
          ⟨17, 8191, [], ⟨(some 51), (.fieldAddr 1 (.tmp 11)), (some (46, false)), []⟩⟩,
          ⟨18, 139263, [], ⟨(some 52), (.load none (.tmp 51)), (some (46, false)), []⟩⟩,
          ⟨19, 8191, [], ⟨(some 53), (.move (.tmp 2)), (some (46, false)), []⟩⟩,
          ⟨20, 8191, [], ⟨(some 54), (.move (.tmp 10)), (some (46, false)), []⟩⟩,
          ⟨21, 1581055, [], ⟨(some 55), (.indexAddr 1 (.tmp 53) (.tmp 54)), (some (46, false)), []⟩⟩,
          ⟨22, 3678207, [], ⟨(some 56), (.load none (.tmp 55)), (some (46, false)), []⟩⟩,
          ⟨23, 8265727, [], ⟨(some 57), (.minmax false [(.tmp 52), (.tmp 56)]), (some (46, false)), []⟩⟩,
          ⟨24, 16777215, [], ⟨(some 58), (.bin .gtr (.tmp 50) (.tmp 57)), (some (46, false)), []⟩⟩,
          ⟨25, 33554431, [], ⟨(some 59), (.pick (.tmp 46) (.const (.bool true)) (.tmp 58)), none, []⟩⟩]))
        (.cond (.tmp 59)
          (.seq (.keep [6] (.ops [⟨(some 6), (.move (.const (.bool false))), none, []⟩]))
          .ret)
          .skip)))
        (.draw [0, 0, 0, 6, 14, 31, 0, 64, 192, 192, 960, 1984, 192, 4288, 192, 192, 49344, 114880, 258240, 524224, 1048512, 255, 4194303] [⟨0, 0, [], ⟨(some 60), (.move (.tmp 8)), none, []⟩⟩,
          ⟨1, 0, [], ⟨(some 61), (.move (.tmp 7)), none, []⟩⟩,
          ⟨2, 0, [], ⟨(some 62), (.move (.tmp 10)), none, []⟩⟩,
          ⟨3, 6, [], ⟨(some 63), (.indexAddr 1 (.tmp 61) (.tmp 62)), none, []⟩⟩,
          ⟨4, 14, [], ⟨(some 64), (.load none (.tmp 63)), none, []⟩⟩,
          ⟨5, 31, [], ⟨(some 65), (.bin .add (.tmp 60) (.tmp 64)), none, []⟩⟩,
          ⟨6, 0, [], ⟨(some 66), (.move (.tmp 9)), none, []⟩⟩,
          ⟨7, 64, [], ⟨(some 67), (.move (.tmp 66)), none, []⟩⟩,
          ⟨8, 192, [], ⟨(some 68), (.move (.tmp 7)), (some (67, true)), []⟩⟩,
          ⟨9, 192, [], ⟨(some 69), (.move (.tmp 10)), (some (67, true)), []⟩⟩,
          ⟨10, 960, [], ⟨(some 70), (.indexAddr 1 (.tmp 68) (.tmp 69)), (some (67, true)), []⟩⟩,
          ⟨11, 1984, [], ⟨(some 71), (.load none (.tmp 70)), (some (67, true)), []⟩⟩,
          ⟨12, 192, [], ⟨(some 72), (.fieldAddr 1 (.tmp 11)), (some (67, true)), []⟩⟩,
          ⟨13, 4288, [], ⟨(some 73), (.load none (.tmp 72)), (some (67, true)), []⟩⟩,
          ⟨14, 192, [], ⟨(some 74), (.move (.tmp 2)), (some (67, true)), []⟩⟩,
          ⟨15, 192, [], ⟨(some 75), (.move (.tmp 10)), (some (67, true)), []⟩⟩,
          ⟨16, 49344, [], ⟨(some 76), (.indexAddr 1 (.tmp 74) (.tmp 75)), (some (67, true)), []⟩⟩,
          ⟨17, 114880, [], ⟨(some 77), (.load none (.tmp 76)), (some (67, true)), []⟩⟩,
          ⟨18, 258240, [], ⟨(some 78), (.minmax false [(.tmp 73), (.tmp 77)]), (some (67, true)), []⟩⟩,
          ⟨19, 524224, [], ⟨(some 79), (.bin .eql (.tmp 71) (.tmp 78)), (some (67, true)), []⟩⟩,
          ⟨20, 1048512, [], ⟨(some 80), (.pick (.tmp 67) (.tmp 79) (.const (.bool false))), none, []⟩⟩,
          ⟨21, 255, [], ⟨(some 8), (.move (.tmp 65)), none, []⟩⟩,
          ⟨22, 4194303, [], ⟨(some 9), (.move (.tmp 80)), none, []⟩⟩])))))
      (.ops [⟨(some 81), (.bin .add (.tmp 29) (.const (.int .i64 1))), none, []⟩,
        ⟨(some 29), (.move (.tmp 81)), none, []⟩])))))))))
  (.seq (.keep [6] (.ops [⟨(some 82), (.call (.func 11) []), none, []⟩,
    ⟨(some 83), (.move (.tmp 82)), none, []⟩,
    ⟨(some 84), (.move (.tmp 8)), (some (83, true)), []⟩,
    ⟨(some 85), (.move (.tmp 0)), (some (83, true)), []⟩,
    ⟨(some 86), (.bin .leq (.tmp 84) (.tmp 85)), (some (83, true)), []⟩,
    ⟨(some 87), (.pick (.tmp 83) (.tmp 86) (.const (.bool false))), none, []⟩,
    ⟨(some 88), (.move (.tmp 87)), none, []⟩,
    ⟨(some 89), (.move (.tmp 8)), (some (88, true)), []⟩,
    ⟨(some 90), (.move (.tmp 0)), (some (88, true)), []⟩,
    ⟨(some 91), (.bin .eql (.tmp 89) (.tmp 90)), (some (88, true)), []⟩,
    ⟨(some 92), (.move (.tmp 91)), (some (88, true)), []⟩,
    ⟨(some 93), (.move (.tmp 9)), (some (92, false)), []⟩,
    ⟨(some 94), (.pick (.tmp 92) (.const (.bool true)) (.tmp 93)), (some (88, true)), []⟩,
    ⟨(some 95), (.pick (.tmp 88) (.tmp 94) (.const (.bool false))), none, []⟩,
    ⟨(some 6), (.move (.tmp 95)), none, []⟩]))
  .ret)))))))
theorem t4 : trF Try.prog Try.f4 s4 = some s4 := by kernel_rfl
theorem k4 : okS s4 = true := by kernel_rfl
theorem r4 : resT Try.prog Try.f4.results.toList = some [.t 6] := by kernel_rfl

def s5 : S :=
  (.seq (.keep [0, 1, 2] (.ops [⟨(some 6), (.move (.const (.bool false))), none, []⟩]))
  (.seq (.keep [0, 1, 2] (.seq (.keep [0, 1, 2, 20] (.ops [⟨(some 16), (.move (.tmp 0)), none, []⟩,
    ⟨(some 17), (.move (.tmp 1)), none, []⟩,
    ⟨(some 18), (.move (.tmp 2)), none, []⟩,
    ⟨(some 19), (.call (.func 15) [(.tmp 16), (.tmp 17), (.tmp 18)]), none, []⟩,
    ⟨(some 20), (.un .not (.tmp 19)), none, []⟩]))
  (.cond (.tmp 20)
    (.seq (.keep [6] (.ops [⟨(some 21), (.call (.func 11) []), none, []⟩,
      ⟨(some 6), (.move (.tmp 21)), none, []⟩]))
    .ret)
    .skip)))
  (.seq (.keep [1, 2, 7] (.ops [⟨(some 22), (.move (.tmp 0)), none, []⟩,
    ⟨(some 23), (.move (.tmp 1)), none, []⟩,
    ⟨(some 24), (.move (.tmp 2)), none, []⟩,
    ⟨(some 25), (.call (.func 16) [(.tmp 22), (.tmp 23), (.tmp 24)]), none, []⟩,
    ⟨(some 7), (.move (.tmp 25)), none, []⟩]))
  (.seq (.keep [1, 2, 7] (.seq (.keep [1, 2, 7, 30] (.ops [⟨(some 26), (.move (.tmp 7)), none, []⟩,
    ⟨(some 27), (.len (.tmp 26)), none, []⟩,
    ⟨(some 28), (.move (.tmp 1)), none, []⟩,
    ⟨(some 29), (.len (.tmp 28)), none, []⟩,
    ⟨(some 30), (.bin .neq (.tmp 27) (.tmp 29)), none, []⟩]))
  (.cond (.tmp 30)
    (.seq (.keep [6] (.ops [⟨(some 6), (.move (.const (.bool false))), none, []⟩]))
    .ret)
    .skip)))
  (.seq (.keep [1, 2, 7, 8] (.ops [⟨(some 8), (.move (.const (.int .i64 0))), none, []⟩]))
  (.seq (.keep [1, 2, 7, 8] (.seq (.keep [1, 2, 7, 8, 31, 32, 33] (.ops [⟨(some 31), (.move (.tmp 1)), none, []⟩,
    ⟨(some 32), (.len (.tmp 31)), none, []⟩,
    ⟨(some 33), (.move (.const (.int .i64 0))), none, []⟩]))
  (.block 0
    (.loop
      (.keep [1, 2, 7, 8, 31, 32, 33] (.seq (.keep [1, 2, 7, 8, 31, 32, 33, 34] (.ops [⟨(some 34), (.bin .lss (.tmp 33) (.tmp 32)), none, []⟩]))
      (.seq (.keep [1, 2, 7, 8, 31, 32, 33] (.cond (.tmp 34)
        .skip
        (.exit 0)))
      (.seq (.keep [1, 2, 7, 8, 31, 32, 33] (.block 1
        (.seq (.keep [1, 2, 7, 8, 9, 10, 31, 32, 33] (.ops [⟨(some 35), (.move (.tmp 33)), none, []⟩,
          ⟨(some 36), (.indexAddr 3 (.tmp 31) (.tmp 33)), none, []⟩,
          ⟨(some 37), (.load (some 3) (.tmp 36)), none, []⟩,
          ⟨(some 10), (.alloc (.agg #[(.int .i64 0), (.int .i64 0), (.int .i64 0)])), none, []⟩,
          ⟨(some 9), (.move (.tmp 35)), none, []⟩,
          ⟨none, (.store 3 (.tmp 10) (.tmp 37)), none, []⟩]))
        (.seq (.keep [1, 2, 7, 8, 10, 11, 31, 32, 33] (.draw [0, 0, 3, 7, 0, 16, 0, 0, 192, 448, 1008, 2047, 4095] [⟨0, 0, [], ⟨(some 38), (.move (.tmp 7)), none, []⟩⟩,
          ⟨1, 0, [], ⟨(some 39), (.move (.tmp 9)), none, []⟩⟩,
          ⟨2, 3, [], ⟨(some 40), (.indexAddr 1 (.tmp 38) (.tmp 39)), none, []⟩⟩,
          ⟨3, 7, [], ⟨(some 41), (.load none (.tmp 40)), none, []⟩⟩,
          ⟨4, 0, [], ⟨(some 42), (.fieldAddr 0 (.tmp 10)), none, []⟩⟩,
          ⟨5, 16, [], ⟨(some 43), (.load none (.tmp 42)), none, []⟩⟩,
          ⟨6, 0, [], ⟨(some 44), (.move (.tmp 2)), none, []⟩⟩,
          ⟨7, 0, [], ⟨(some 45), (.move (.tmp 9)), none, []⟩⟩,
          ⟨8, 192, [], ⟨(some 46), (.indexAddr 1 (.tmp 44) (.tmp 45)), none, []⟩⟩,
          ⟨9, 448, [], ⟨(some 47), (.load none (.tmp 46)), none, []⟩⟩,
          ⟨10, 1008, [], ⟨(some 48), (.minmax false [(.tmp 43), (.tmp 47)]), none, []⟩⟩,
          ⟨11, 2047, [], ⟨(some 49), (.bin .sub (.tmp 41) (.tmp 48)), none, []⟩⟩,
          ⟨12, 4095, [], ⟨(some 11), (.move (.tmp 49)), none, []⟩⟩]))
        (.ops [⟨(some 50), (.move (.tmp 8)), none, []⟩,
          ⟨(some 51), (.move (.tmp 11)), none, []⟩,
          ⟨(some 52), (.fieldAddr 2 (.tmp 10)), none, []⟩,
          ⟨(some 53), (.load none (.tmp 52)), none, []⟩,
          ⟨(some 54), (.bin .add (.tmp 51) (.tmp 53)), none, []⟩,
          ⟨(some 55), (.bin .sub (.tmp 54) (.const (.int .i64 1))), none, []⟩,
          ⟨(some 56), (.fieldAddr 2 (.tmp 10)), none, []⟩,
          ⟨(some 57), (.load none (.tmp 56)), none, []⟩,
          ⟨(some 58), (.bin .quo (.tmp 55) (.tmp 57)), none, []⟩,
          ⟨(some 59), (.bin .sub (.tmp 58) (.const (.int .i64 1))), none, []⟩,
          ⟨(some 60), (.minmax true [(.tmp 50), (.tmp 59)]), none, []⟩,
          ⟨(some 8), (.move (.tmp 60)), none, []⟩])))))
      (.ops [⟨(some 61), (.bin .add (.tmp 33) (.const (.int .i64 1))), none, []⟩,
        ⟨(some 33), (.move (.tmp 61)), none, []⟩])))))))))
  (.seq (.keep [] (.seq (.keep [2, 7, 8, 62, 63, 64] (.ops [⟨(some 62), (.move (.tmp 1)), none, []⟩,
    ⟨(some 63), (.len (.tmp 62)), none, []⟩,
    ⟨(some 64), (.move (.const (.int .i64 0))), none, []⟩]))
  (.block 2
    (.loop
      (.keep [2, 7, 8, 62, 63, 64] (.seq (.keep [2, 7, 8, 62, 63, 64, 65] (.ops [⟨(some 65), (.bin .lss (.tmp 64) (.tmp 63)), none, []⟩]))
      (.seq (.keep [2, 7, 8, 62, 63, 64] (.cond (.tmp 65)
        .skip
        (.exit 2)))
      (.seq (.keep [2, 7, 8, 62, 63, 64] (.block 3
        (.seq (.keep [2, 7, 8, 12, 13, 62, 63, 64] (.ops [⟨(some 66), (.move (.tmp 64)), none, []⟩,
          ⟨(some 67), (.indexAddr 3 (.tmp 62) (.tmp 64)), none, []⟩,
          ⟨(some 68), (.load (some 3) (.tmp 67)), none, []⟩,
          ⟨(some 13), (.alloc (.agg #[(.int .i64 0), (.int .i64 0), (.int .i64 0)])), none, []⟩,
          ⟨(some 12), (.move (.tmp 66)), none, []⟩,
          ⟨none, (.store 3 (.tmp 13) (.tmp 68)), none, []⟩]))
        (.seq (.keep [2, 7, 8, 12, 13, 14, 15, 62, 63, 64] (.draw [0, 1, 0, 0, 12, 28, 63, 0, 128, 0, 0, 1536, 3584, 8064, 127, 32767] [⟨0, 0, [], ⟨(some 69), (.fieldAddr 0 (.tmp 13)), none, []⟩⟩,
          ⟨1, 1, [], ⟨(some 70), (.load none (.tmp 69)), none, []⟩⟩,
          ⟨2, 0, [], ⟨(some 71), (.move (.tmp 2)), none, []⟩⟩,
          ⟨3, 0, [], ⟨(some 72), (.move (.tmp 12)), none, []⟩⟩,
          ⟨4, 12, [], ⟨(some 73), (.indexAddr 1 (.tmp 71) (.tmp 72)), none, []⟩⟩,
          ⟨5, 28, [], ⟨(some 74), (.load none (.tmp 73)), none, []⟩⟩,
          ⟨6, 63, [], ⟨(some 75), (.minmax false [(.tmp 70), (.tmp 74)]), none, []⟩⟩,
          ⟨7, 0, [], ⟨(some 76), (.fieldAddr 1 (.tmp 13)), none, []⟩⟩,
          ⟨8, 128, [], ⟨(some 77), (.load none (.tmp 76)), none, []⟩⟩,
          ⟨9, 0, [], ⟨(some 78), (.move (.tmp 2)), none, []⟩⟩,
          ⟨10, 0, [], ⟨(some 79), (.move (.tmp 12)), none, []⟩⟩,
          ⟨11, 1536, [], ⟨(some 80), (.indexAddr 1 (.tmp 78) (.tmp 79)), none, []⟩⟩,
          ⟨12, 3584, [], ⟨(some 81), (.load none (.tmp 80)), none, []⟩⟩,
          ⟨13, 8064, [], ⟨(some 82), (.minmax false [(.tmp 77), (.tmp 81)]), none, []⟩⟩,
          ⟨14, 127, [], ⟨(some 14), (.move (.tmp 75)), none, []⟩⟩,
          ⟨15, 32767, [], ⟨(some 15), (.move (.tmp 82)), none, []⟩⟩]))
        (.seq (.keep [2, 7, 8, 62, 63, 64, 109] (.draw [0, 0, 3, 7, 0, 0, 0, 0, 128, 448, 992, 2032, 4095, 8191, 16383, 16383, 65535, 131071, 16383, 16383, 540671, 16383, 2113535, 7880703, 16531455, 33554431, 67108863] [⟨0, 0, [], ⟨(some 83), (.move (.tmp 7)), none, []⟩⟩,
          ⟨1, 0, [], ⟨(some 84), (.move (.tmp 12)), none, []⟩⟩,
          ⟨2, 3, [], ⟨(some 85), (.indexAddr 1 (.tmp 83) (.tmp 84)), none, []⟩⟩,
          ⟨3, 7, [], ⟨(some 86), (.load none (.tmp 85)), none, []⟩⟩,
          ⟨4, 0, [], ⟨(some 87), (.move (.tmp 15)), none, []⟩⟩,
          ⟨5, 0, [], ⟨(some 88), (.move (.tmp 14)), none, []⟩⟩,
          ⟨6, 0, [], ⟨(some 89), (.move (.tmp 8)), none, []⟩⟩,
          ⟨7, 0, [], ⟨(some 90), (.fieldAddr 2 (.tmp 13)), none, []⟩⟩,
          ⟨8, 128, [], ⟨(some 91), (.load none (.tmp 90)), none, []⟩⟩,
          ⟨9, 448, [], ⟨(some 92), (.bin .mul (.tmp 89) (.tmp 91)), none, []⟩⟩,
          ⟨10, 992, [], ⟨(some 93), (.bin .add (.tmp 88) (.tmp 92)), none, []⟩⟩,
          ⟨11, 2032, [], ⟨(some 94), (.minmax false [(.tmp 87), (.tmp 93)]), none, []⟩⟩,
          ⟨12, 4095, [], ⟨(some 95), (.bin .lss (.tmp 86) (.tmp 94)), none, []⟩⟩,
          ⟨13, 8191, [], ⟨(some 96), (.move (.tmp 95)), none, []⟩⟩,
          ⟨14, 16383, [], ⟨(some 97), (.move (.tmp 7)), (some (96, false)), []⟩⟩,
          ⟨15, 16383, [], ⟨(some 98), (.move (.tmp 12)), (some (96, false)), []⟩⟩,
          ⟨16, 65535, [], ⟨(some 99), (.indexAddr 1 (.tmp 97) (.tmp 98)), (some (96, false)), []⟩⟩,
          ⟨17, 131071, [], ⟨(some 100), (.load none (.tmp 99)), (some (96, false)), []⟩⟩,
          ⟨18, 16383, [], ⟨(some 101), (.move (.tmp 14)), (some (96, false)), []⟩⟩,
          ⟨19, 16383, [], ⟨(some 102), (.move (.tmp 8)), (some (96, false)), []⟩⟩,
          ⟨20, 540671, [], ⟨(some 103), (.bin .add (.tmp 102) (.const (.int .i64 1))), (some (96, false)), []⟩⟩,
          ⟨21, 16383, [], ⟨(some 104), (.fieldAddr 2 (.tmp 13)), (some (96, false)), []⟩⟩,
          ⟨22, 2113535, [], ⟨(some 105), (.load none (.tmp 104)), (some (96, false)), []⟩⟩,
          ⟨23, 7880703, [], ⟨(some 106), (.bin .mul (.tmp 103) (.tmp 105)), (some (96, false)), []⟩⟩,
          ⟨24, 16531455, [], ⟨(some 107), (.bin .add (.tmp 101) (.tmp 106)), (some (96, false)), []⟩⟩,
          ⟨25, 33554431, [], ⟨(some 108), (.bin .gtr (.tmp 100) (.tmp 107)), (some (96, false)), []⟩⟩,
          ⟨26, 67108863, [], ⟨(some 109), (.pick (.tmp 96) (.const (.bool true)) (.tmp 108)), none, []⟩⟩]))
        (.cond (.tmp 109)
          (.seq (.keep [6] (.ops [⟨(some 6), (.move (.const (.bool false))), none, []⟩]))
          .ret)
          .skip))))))
      (.ops [⟨(some 110), (.bin .add (.tmp 64) (.const (.int .i64 1))), none, []⟩,
        ⟨(some 64), (.move (.tmp 110)), none, []⟩])))))))))
  (.seq (.keep [6] (.ops [⟨(some 111), (.call (.func 11) []), none, []⟩,
    ⟨(some 6), (.move (.tmp 111)), none, []⟩]))
  .ret))))))))
theorem t5 : trF Try.prog Try.f5 s5 = some s5 := by kernel_rfl
theorem k5 : okS s5 = true := by kernel_rfl
theorem r5 : resT Try.prog Try.f5.results.toList = some [.t 6] := by kernel_rfl

def s6 : S :=
  (.seq (.keep [0, 1, 2, 3] (.ops [⟨(some 8), (.move (.const (.bool false))), none, []⟩]))
  (.seq (.keep [0, 1, 2, 3] (.seq (.keep [0, 1, 2, 3, 19] (.ops [⟨(some 15), (.move (.tmp 0)), none, []⟩,
    ⟨(some 16), (.move (.tmp 2)), none, []⟩,
    ⟨(some 17), (.move (.tmp 3)), none, []⟩,
    ⟨(some 18), (.call (.func 15) [(.tmp 15), (.tmp 16), (.tmp 17)]), none, []⟩,
    ⟨(some 19), (.un .not (.tmp 18)), none, []⟩]))
  (.cond (.tmp 19)
    (.seq (.keep [8] (.ops [⟨(some 20), (.call (.func 11) []), none, []⟩,
      ⟨(some 8), (.move (.tmp 20)), none, []⟩]))
    .ret)
    .skip)))
  (.seq (.keep [0, 2, 3, 9, 10] (.ops [⟨(some 21), (.move (.tmp 0)), none, []⟩,
    ⟨(some 22), (.move (.tmp 2)), none, []⟩,
    ⟨(some 23), (.move (.tmp 3)), none, []⟩,
    ⟨(some 24), (.call (.func 16) [(.tmp 21), (.tmp 22), (.tmp 23)]), none, []⟩,
    ⟨(some 25), (.move (.tmp 0)), none, []⟩,
    ⟨(some 26), (.move (.tmp 1)), none, []⟩,
    ⟨(some 27), (.convInt .i64 (.tmp 26)), none, []⟩,
    ⟨(some 28), (.bin .add (.tmp 25) (.tmp 27)), none, []⟩,
    ⟨(some 29), (.minmax false [(.const (.int .i64 1073741824)), (.tmp 28)]), none, []⟩,
    ⟨(some 30), (.move (.tmp 2)), none, []⟩,
    ⟨(some 31), (.move (.tmp 3)), none, []⟩,
    ⟨(some 32), (.call (.func 16) [(.tmp 29), (.tmp 30), (.tmp 31)]), none, []⟩,
    ⟨(some 9), (.move (.tmp 24)), none, []⟩,
    ⟨(some 10), (.move (.tmp 32)), none, []⟩]))
  (.seq (.keep [0, 2, 3, 9, 10, 11] (.ops [⟨(some 11), (.move (.const (.slice none 0 0))), none, []⟩]))
  (.seq (.keep [0, 2, 9, 10, 11] (.seq (.keep [0, 2, 9, 10, 11, 33, 34, 35] (.ops [⟨(some 33), (.move (.tmp 3)), none, []⟩,
    ⟨(some 34), (.len (.tmp 33)), none, []⟩,
    ⟨(some 35), (.move (.const (.int .i64 0))), none, []⟩]))
  (.block 0
    (.loop
      (.keep [0, 2, 9, 10, 11, 33, 34, 35] (.seq (.keep [0, 2, 9, 10, 11, 33, 34, 35, 36] (.ops [⟨(some 36), (.bin .lss (.tmp 35) (.tmp 34)), none, []⟩]))
      (.seq (.keep [0, 2, 9, 10, 11, 33, 34, 35] (.cond (.tmp 36)
        .skip
        (.exit 0)))
      (.seq (.keep [0, 2, 9, 10, 11, 33, 34, 35] (.block 1
        (.seq (.keep [0, 2, 9, 10, 11, 12, 13, 33, 34, 35] (.ops [⟨(some 37), (.move (.tmp 35)), none, []⟩,
          ⟨(some 38), (.indexAddr 1 (.tmp 33) (.tmp 35)), none, []⟩,
          ⟨(some 39), (.load none (.tmp 38)), none, []⟩,
          ⟨(some 12), (.move (.tmp 37)), none, []⟩,
          ⟨(some 13), (.move (.tmp 39)), none, []⟩]))
        (.seq (.keep [0, 2, 9, 10, 11, 13, 33, 34, 35] (.seq (.keep [0, 2, 9, 10, 11, 13, 33, 34, 35, 46] (.ops [⟨(some 40), (.move (.tmp 13)), none, []⟩,
          ⟨(some 41), (.move (.tmp 2)), none, []⟩,
          ⟨(some 42), (.move (.tmp 12)), none, []⟩,
          ⟨(some 43), (.indexAddr 3 (.tmp 41) (.tmp 42)), none, []⟩,
          ⟨(some 44), (.fieldAddr 1 (.tmp 43)), none, []⟩,
          ⟨(some 45), (.load none (.tmp 44)), none, []⟩,
          ⟨(some 46), (.bin .geq (.tmp 40) (.tmp 45)), none, []⟩]))
        (.cond (.tmp 46)
          (.ops [⟨(some 13), (.move (.const (.int .i64 1073741824))), none, []⟩])
          .skip)))
        (.ops [⟨(some 47), (.move (.tmp 11)), none, []⟩,
          ⟨(some 48), (.move (.tmp 13)), none, []⟩,
          ⟨(some 49), (.buildSlice 1 [(.int .i64 0)] [(0, 1, (.tmp 48))]), none, []⟩,
          ⟨(some 50), (.append 1 8 (.tmp 47) (.tmp 49)), none, []⟩,
          ⟨(some 11), (.move (.tmp 50)), none, []⟩])))))
      (.ops [⟨(some 51), (.bin .add (.tmp 35) (.const (.int .i64 1))), none, []⟩,
        ⟨(some 35), (.move (.tmp 51)), none, []⟩])))))))))
  (.seq (.keep [2, 9, 10] (.seq (.keep [2, 9, 10, 72] (.ops [⟨(some 52), (.move (.tmp 9)), none, []⟩,
    ⟨(some 53), (.len (.tmp 52)), none, []⟩,
    ⟨(some 54), (.move (.tmp 2)), none, []⟩,
    ⟨(some 55), (.len (.tmp 54)), none, []⟩,
    ⟨(some 56), (.bin .neq (.tmp 53) (.tmp 55)), none, []⟩,
    ⟨(some 57), (.move (.tmp 56)), none, []⟩,
    ⟨(some 58), (.move (.tmp 10)), (some (57, false)), []⟩,
    ⟨(some 59), (.len (.tmp 58)), (some (57, false)), []⟩,
    ⟨(some 60), (.move (.tmp 2)), (some (57, false)), []⟩,
    ⟨(some 61), (.len (.tmp 60)), (some (57, false)), []⟩,
    ⟨(some 62), (.bin .neq (.tmp 59) (.tmp 61)), (some (57, false)), []⟩,
    ⟨(some 63), (.pick (.tmp 57) (.const (.bool true)) (.tmp 62)), none, []⟩,
    ⟨(some 64), (.move (.tmp 63)), none, []⟩,
    ⟨(some 65), (.move (.tmp 0)), (some (64, false)), []⟩,
    ⟨(some 66), (.move (.tmp 2)), (some (64, false)), []⟩,
    ⟨(some 67), (.move (.tmp 11)), (some (64, false)), []⟩,
    ⟨(some 68), (.call (.func 16) [(.tmp 65), (.tmp 66), (.tmp 67)]), (some (64, false)), []⟩,
    ⟨(some 69), (.move (.tmp 9)), (some (64, false)), []⟩,
    ⟨(some 70), (.call (.func 17) [(.tmp 68), (.tmp 69)]), (some (64, false)), []⟩,
    ⟨(some 71), (.un .not (.tmp 70)), (some (64, false)), []⟩,
    ⟨(some 72), (.pick (.tmp 64) (.const (.bool true)) (.tmp 71)), none, []⟩]))
  (.cond (.tmp 72)
    (.seq (.keep [8] (.ops [⟨(some 8), (.move (.const (.bool false))), none, []⟩]))
    .ret)
    .skip)))
  (.seq (.keep [] (.seq (.keep [9, 10, 74, 75] (.ops [⟨(some 73), (.move (.tmp 2)), none, []⟩,
    ⟨(some 74), (.len (.tmp 73)), none, []⟩,
    ⟨(some 75), (.move (.const (.int .i64 0))), none, []⟩]))
  (.block 2
    (.loop
      (.keep [9, 10, 74, 75] (.seq (.keep [9, 10, 74, 75, 76] (.ops [⟨(some 76), (.bin .lss (.tmp 75) (.tmp 74)), none, []⟩]))
      (.seq (.keep [9, 10, 74, 75] (.cond (.tmp 76)
        .skip
        (.exit 2)))
      (.seq (.keep [9, 10, 74, 75] (.block 3
        (.seq (.keep [9, 10, 14, 74, 75] (.ops [⟨(some 77), (.move (.tmp 75)), none, []⟩,
          ⟨(some 14), (.move (.tmp 77)), none, []⟩]))
        (.seq (.keep [9, 10, 74, 75, 86] (.draw [0, 0, 3, 7, 0, 0, 48, 112, 255] [⟨0, 0, [], ⟨(some 78), (.move (.tmp 10)), none, []⟩⟩,
          ⟨1, 0, [], ⟨(some 79), (.move (.tmp 14)), none, []⟩⟩,
          ⟨2, 3, [], ⟨(some 80), (.indexAddr 1 (.tmp 78) (.tmp 79)), none, []⟩⟩,
          ⟨3, 7, [], ⟨(some 81), (.load none (.tmp 80)), none, []⟩⟩,
          ⟨4, 0, [], ⟨(some 82), (.move (.tmp 9)), none, []⟩⟩,
          ⟨5, 0, [], ⟨(some 83), (.move (.tmp 14)), none, []⟩⟩,
          ⟨6, 48, [], ⟨(some 84), (.indexAddr 1 (.tmp 82) (.tmp 83)), none, []⟩⟩,
          ⟨7, 112, [], ⟨(some 85), (.load none (.tmp 84)), none, []⟩⟩,
          ⟨8, 255, [], ⟨(some 86), (.bin .lss (.tmp 81) (.tmp 85)), none, []⟩⟩]))
        (.cond (.tmp 86)
          (.seq (.keep [8] (.ops [⟨(some 8), (.move (.const (.bool false))), none, []⟩]))
          .ret)
          .skip)))))
      (.ops [⟨(some 87), (.bin .add (.tmp 75) (.const (.int .i64 1))), none, []⟩,
        ⟨(some 75), (.move (.tmp 87)), none, []⟩])))))))))
  (.seq (.keep [8] (.ops [⟨(some 88), (.call (.func 11) []), none, []⟩,
    ⟨(some 8), (.move (.tmp 88)), none, []⟩]))
  .ret))))))))
theorem t6 : trF Try.prog Try.f6 s6 = some s6 := by kernel_rfl
theorem k6 : okS s6 = true := by kernel_rfl
theorem r6 : resT Try.prog Try.f6.results.toList = some [.t 8] := by kernel_rfl

def s7 : S :=
  (.seq (.keep [2, 3, 4] (.ops [⟨(some 3), (.box (.tmp 0)), none, []⟩,
    ⟨(some 4), (.box (.tmp 1)), none, []⟩,
    ⟨(some 6), (.move (.const (.bool false))), none, []⟩]))
  (.seq (.keep [2, 3, 4] (.seq (.keep [2, 3, 4, 16] (.ops [⟨(some 13), (.fieldAddr 2 (.tmp 3)), none, []⟩,
    ⟨(some 14), (.load none (.tmp 13)), none, []⟩,
    ⟨(some 15), (.len (.tmp 14)), none, []⟩,
    ⟨(some 16), (.bin .gtr (.tmp 15) (.const (.int .i64 40))), none, []⟩]))
  (.cond (.tmp 16)
    (.seq (.keep [6] (.ops [⟨(some 17), (.call (.func 11) []), none, []⟩,
      ⟨(some 6), (.move (.tmp 17)), none, []⟩]))
    .ret)
    .skip)))
  (.seq (.keep [2, 3, 4] (.seq (.keep [2, 3, 4, 31] (.draw [0, 1, 3, 0, 8, 31, 63, 127, 255, 511, 255, 2047, 4095, 8191] [⟨0, 0, [], ⟨(some 18), (.fieldAddr 1 (.tmp 4)), none, []⟩⟩,
    ⟨1, 1, [], ⟨(some 19), (.load (some 3) (.tmp 18)), none, []⟩⟩,
    ⟨3, 0, [], ⟨(some 21), (.fieldAddr 1 (.tmp 4)), none, []⟩⟩,
    ⟨4, 8, [], ⟨(some 22), (.load (some 3) (.tmp 21)), none, []⟩⟩,
    ⟨2, 3, [4], ⟨(some 20), (.call (.func 18) [(.tmp 19)]), none, [((.load (some 3) (.tmp 21)), none, (some 22))]⟩⟩,
    ⟨5, 31, [], ⟨(some 23), (.call (.func 19) [(.tmp 22)]), none, []⟩⟩,
    ⟨6, 63, [], ⟨(some 24), (.eqBool true (.tmp 20) (.tmp 23)), none, []⟩⟩,
    ⟨7, 127, [], ⟨(some 25), (.move (.tmp 24)), none, []⟩⟩,
    ⟨8, 255, [], ⟨(some 26), (.load (some 3) (.tmp 3)), (some (25, false)), []⟩⟩,
    ⟨10, 255, [], ⟨(some 28), (.load (some 3) (.tmp 3)), (some (25, false)), []⟩⟩,
    ⟨9, 511, [10], ⟨(some 27), (.call (.func 20) [(.tmp 26)]), (some (25, false)), [((.load (some 3) (.tmp 3)), (some (25, false)), (some 28))]⟩⟩,
    ⟨11, 2047, [], ⟨(some 29), (.call (.func 21) [(.tmp 28)]), (some (25, false)), []⟩⟩,
    ⟨12, 4095, [], ⟨(some 30), (.eqBool true (.tmp 27) (.tmp 29)), (some (25, false)), []⟩⟩,
    ⟨13, 8191, [], ⟨(some 31), (.pick (.tmp 25) (.const (.bool true)) (.tmp 30)), none, []⟩⟩]))
  (.cond (.tmp 31)
    (.seq (.keep [6] (.ops [⟨(some 6), (.move (.const (.bool false))), none, []⟩]))
    .ret)
    .skip)))
  (.seq (.keep [2, 3, 4] (.seq (.keep [2, 3, 4, 34] (.ops [⟨(some 32), (.load (some 3) (.tmp 3)), none, []⟩,
    ⟨(some 33), (.call (.func 21) [(.tmp 32)]), none, []⟩,
    ⟨(some 34), (.un .not (.tmp 33)), none, []⟩]))
  (.cond (.tmp 34)
    (.seq (.keep [6] (.ops [⟨(some 35), (.call (.func 11) []), none, []⟩,
      ⟨(some 6), (.move (.tmp 35)), none, []⟩]))
    .ret)
    .skip)))
  (.seq (.keep [2, 3, 4, 7, 8] (.ops [⟨(some 37), (.load (some 3) (.tmp 3)), none, []⟩,
    ⟨(some 38), (.load (some 7) (.tmp 4)), none, []⟩,
    ⟨(some 39), (.call (.func 22) [(.tmp 37), (.tmp 38)]), none, []⟩,
    ⟨(some 36), (.move (.tmp 39)), none, []⟩,
    ⟨(some 40), (.extract (.tmp 36) 0), none, []⟩,
    ⟨(some 41), (.extract (.tmp 36) 1), none, []⟩,
    ⟨(some 7), (.alloc (.agg #[(.int .i64 0), (.int .i64 0), (.slice none 0 0)])), none, []⟩,
    ⟨none, (.store 3 (.tmp 7) (.tmp 40)), none, []⟩,
    ⟨(some 8), (.move (.tmp 41)), none, []⟩]))
  (.seq (.keep [2, 3, 4, 7, 8, 9, 10] (.ops [⟨(some 43), (.load (some 3) (.tmp 3)), none, []⟩,
    ⟨(some 44), (.move (.tmp 2)), none, []⟩,
    ⟨(some 45), (.call (.func 23) [(.tmp 43), (.tmp 44)]), none, []⟩,
    ⟨(some 42), (.move (.tmp 45)), none, []⟩,
    ⟨(some 46), (.extract (.tmp 42) 0), none, []⟩,
    ⟨(some 47), (.extract (.tmp 42) 1), none, []⟩,
    ⟨(some 9), (.alloc (.agg #[(.int .i64 0), (.int .i64 0), (.slice none 0 0)])), none, []⟩,
    ⟨none, (.store 3 (.tmp 9) (.tmp 46)), none, []⟩,
    ⟨(some 10), (.move (.tmp 47)), none, []⟩]))
  (.seq (.keep [7, 8, 9, 10, 11, 12] (.draw [0, 0, 3, 0, 0, 31, 0, 0, 255, 511] [⟨0, 0, [], ⟨(some 48), (.load (some 3) (.tmp 3)), none, []⟩⟩,
    ⟨1, 0, [], ⟨(some 49), (.load (some 7) (.tmp 4)), none, []⟩⟩,
    ⟨3, 0, [], ⟨(some 51), (.load (some 3) (.tmp 3)), none, []⟩⟩,
    ⟨4, 0, [], ⟨(some 52), (.move (.tmp 2)), none, []⟩⟩,
    ⟨6, 0, [], ⟨(some 11), (.alloc (.agg #[(.int .i64 0), (.int .i64 0), (.slice none 0 0), (.int .i64 0)])), none, []⟩⟩,
    ⟨7, 0, [], ⟨(some 12), (.alloc (.agg #[(.int .i64 0), (.int .i64 0), (.slice none 0 0), (.int .i64 0)])), none, []⟩⟩,
    ⟨2, 3, [3], ⟨(some 50), (.call (.func 24) [(.tmp 48), (.tmp 49)]), none, [((.load (some 3) (.tmp 3)), none, (some 51))]⟩⟩,
    ⟨5, 31, [], ⟨(some 53), (.call (.func 25) [(.tmp 51), (.tmp 52)]), none, []⟩⟩,
    ⟨8, 255, [], ⟨none, (.store 4 (.tmp 11) (.tmp 50)), none, []⟩⟩,
    ⟨9, 511, [], ⟨none, (.store 4 (.tmp 12) (.tmp 53)), none, []⟩⟩]))
  (.seq (.keep [6] (.ops [⟨(some 54), (.call (.func 11) []), none, []⟩,
    ⟨(some 55), (.move (.tmp 54)), none, []⟩,
    ⟨(some 56), (.load (some 3) (.tmp 7)), (some (55, true)), []⟩,
    ⟨(some 57), (.fieldAddr 0 (.tmp 11)), (some (55, true)), []⟩,
    ⟨(some 58), (.load (some 3) (.tmp 57)), (some (55, true)), []⟩,
    ⟨(some 59), (.call (.func 26) [(.tmp 56), (.tmp 58)]), (some (55, true)), []⟩,
    ⟨(some 60), (.pick (.tmp 55) (.tmp 59) (.const (.bool false))), none, []⟩,
    ⟨(some 61), (.move (.tmp 60)), none, []⟩,
    ⟨(some 62), (.move (.tmp 8)), (some (61, true)), []⟩,
    ⟨(some 63), (.fieldAddr 3 (.tmp 11)), (some (61, true)), []⟩,
    ⟨(some 64), (.load none (.tmp 63)), (some (61, true)), []⟩,
    ⟨(some 65), (.bin .eql (.tmp 62) (.tmp 64)), (some (61, true)), []⟩,
    ⟨(some 66), (.pick (.tmp 61) (.tmp 65) (.const (.bool false))), none, []⟩,
    ⟨(some 67), (.move (.tmp 66)), none, []⟩,
    ⟨(some 68), (.load (some 3) (.tmp 9)), (some (67, true)), []⟩,
    ⟨(some 69), (.fieldAddr 0 (.tmp 12)), (some (67, true)), []⟩,
    ⟨(some 70), (.load (some 3) (.tmp 69)), (some (67, true)), []⟩,
    ⟨(some 71), (.call (.func 26) [(.tmp 68), (.tmp 70)]), (some (67, true)), []⟩,
    ⟨(some 72), (.pick (.tmp 67) (.tmp 71) (.const (.bool false))), none, []⟩,
    ⟨(some 73), (.move (.tmp 72)), none, []⟩,
    ⟨(some 74), (.move (.tmp 10)), (some (73, true)), []⟩,
    ⟨(some 75), (.fieldAddr 3 (.tmp 12)), (some (73, true)), []⟩,
    ⟨(some 76), (.load none (.tmp 75)), (some (73, true)), []⟩,
    ⟨(some 77), (.bin .eql (.tmp 74) (.tmp 76)), (some (73, true)), []⟩,
    ⟨(some 78), (.pick (.tmp 73) (.tmp 77) (.const (.bool false))), none, []⟩,
    ⟨(some 79), (.move (.tmp 78)), none, []⟩,
    ⟨(some 80), (.load (some 3) (.tmp 7)), (some (79, true)), []⟩,
    ⟨(some 81), (.call (.func 20) [(.tmp 80)]), (some (79, true)), []⟩,
    ⟨(some 82), (.pick (.tmp 79) (.tmp 81) (.const (.bool false))), none, []⟩,
    ⟨(some 83), (.move (.tmp 82)), none, []⟩,
    ⟨(some 84), (.load (some 3) (.tmp 9)), (some (83, true)), []⟩,
    ⟨(some 85), (.call (.func 20) [(.tmp 84)]), (some (83, true)), []⟩,
    ⟨(some 86), (.pick (.tmp 83) (.tmp 85) (.const (.bool false))), none, []⟩,
    ⟨(some 6), (.move (.tmp 86)), none, []⟩]))
  .ret))))))))
theorem t7 : trF Try.prog Try.f7 s7 = some s7 := by kernel_rfl
theorem k7 : okS s7 = true := by kernel_rfl
theorem r7 : resT Try.prog Try.f7.results.toList = some [.t 6] := by kernel_rfl

def s8 : S :=
  (.seq (.keep [0, 1, 2, 4, 8] (.ops [⟨(some 8), (.box (.tmp 3)), none, []⟩,
    ⟨(some 10), (.move (.const (.bool false))), none, []⟩]))
  (.seq (.keep [4, 8] (.seq (.keep [4, 8, 26] (.ops [⟨(some 11), (.move (.tmp 0)), none, []⟩,
    ⟨(some 12), (.move (.tmp 1)), none, []⟩,
    ⟨(some 13), (.move (.tmp 2)), none, []⟩,
    ⟨(some 14), (.call (.func 15) [(.tmp 11), (.tmp 12), (.tmp 13)]), none, []⟩,
    ⟨(some 15), (.move (.tmp 14)), none, []⟩,
    ⟨(some 16), (.move (.tmp 0)), (some (15, true)), []⟩,
    ⟨(some 17), (.move (.tmp 1)), (some (15, true)), []⟩,
    ⟨(some 18), (.move (.tmp 2)), (some (15, true)), []⟩,
    ⟨(some 19), (.call (.func 16) [(.tmp 16), (.tmp 17), (.tmp 18)]), (some (15, true)), []⟩,
    ⟨(some 20), (.move (.tmp 0)), (some (15, true)), []⟩,
    ⟨(some 21), (.move (.tmp 1)), (some (15, true)), []⟩,
    ⟨(some 22), (.move (.tmp 2)), (some (15, true)), []⟩,
    ⟨(some 23), (.call (.func 27) [(.tmp 20), (.tmp 21), (.tmp 22)]), (some (15, true)), []⟩,
    ⟨(some 24), (.call (.func 17) [(.tmp 19), (.tmp 23)]), (some (15, true)), []⟩,
    ⟨(some 25), (.un .not (.tmp 24)), (some (15, true)), []⟩,
    ⟨(some 26), (.pick (.tmp 15) (.tmp 25) (.const (.bool false))), none, []⟩]))
  (.cond (.tmp 26)
    (.seq (.keep [10] (.ops [⟨(some 10), (.move (.const (.bool false))), none, []⟩]))
    .ret)
    .skip)))
  (.seq (.keep [] (.seq (.keep [49] (.draw [0, 1, 3, 7, 15, 31, 63, 127, 255, 511, 1023, 2047, 4095, 8191, 16383, 16383, 65535, 16383, 16383, 524287, 1048575, 2097151, 4194303] [⟨0, 0, [], ⟨(some 27), (.move (.tmp 4)), none, []⟩⟩,
    ⟨1, 1, [], ⟨(some 28), (.len (.tmp 27)), none, []⟩⟩,
    ⟨2, 3, [], ⟨(some 29), (.bin .leq (.tmp 28) (.const (.int .i64 60))), none, []⟩⟩,
    ⟨3, 7, [], ⟨(some 30), (.move (.tmp 29)), none, []⟩⟩,
    ⟨4, 15, [], ⟨(some 31), (.fieldAddr 2 (.tmp 8)), (some (30, true)), []⟩⟩,
    ⟨5, 31, [], ⟨(some 32), (.load none (.tmp 31)), (some (30, true)), []⟩⟩,
    ⟨6, 63, [], ⟨(some 33), (.len (.tmp 32)), (some (30, true)), []⟩⟩,
    ⟨7, 127, [], ⟨(some 34), (.bin .leq (.tmp 33) (.const (.int .i64 40))), (some (30, true)), []⟩⟩,
    ⟨8, 255, [], ⟨(some 35), (.pick (.tmp 30) (.tmp 34) (.const (.bool false))), none, []⟩⟩,
    ⟨9, 511, [], ⟨(some 36), (.move (.tmp 35)), none, []⟩⟩,
    ⟨10, 1023, [], ⟨(some 37), (.load (some 3) (.tmp 8)), (some (36, true)), []⟩⟩,
    ⟨11, 2047, [], ⟨(some 38), (.call (.func 21) [(.tmp 37)]), (some (36, true)), []⟩⟩,
    ⟨12, 4095, [], ⟨(some 39), (.pick (.tmp 36) (.tmp 38) (.const (.bool false))), none, []⟩⟩,
    ⟨13, 8191, [], ⟨(some 40), (.move (.tmp 39)), none, []⟩⟩,
    ⟨14, 16383, [], ⟨(some 41), (.load (some 3) (.tmp 8)), (some (40, true)), []⟩⟩,
    ⟨15, 16383, [], ⟨(some 42), (.move (.tmp 4)), (some (40, true)), []⟩⟩,
    ⟨17, 16383, [], ⟨(some 44), (.load (some 3) (.tmp 8)), (some (40, true)), []⟩⟩,
    ⟨18, 16383, [], ⟨(some 45), (.move (.tmp 4)), (some (40, true)), []⟩⟩,
    ⟨16, 65535, [17], ⟨(some 43), (.call (.func 29) [(.tmp 41), (.tmp 42)]), (some (40, true)), [((.load (some 3) (.tmp 8)), (some (40, true)), (some 44))]⟩⟩,
    ⟨19, 524287, [], ⟨(some 46), (.call (.func 30) [(.tmp 44), (.tmp 45)]), (some (40, true)), []⟩⟩,
    ⟨20, 1048575, [], ⟨(some 47), (.call (.func 28) [(.tmp 43), (.tmp 46)]), (some (40, true)), []⟩⟩,
    ⟨21, 2097151, [], ⟨(some 48), (.un .not (.tmp 47)), (some (40, true)), []⟩⟩,
    ⟨22, 4194303, [], ⟨(some 49), (.pick (.tmp 40) (.tmp 48) (.const (.bool false))), none, []⟩⟩]))
  (.cond (.tmp 49)
    (.seq (.keep [10] (.ops [⟨(some 10), (.move (.const (.bool false))), none, []⟩]))
    .ret)
    .skip)))
  (.seq (.keep [10] (.ops [⟨(some 50), (.call (.func 11) []), none, []⟩,
    ⟨(some 10), (.move (.tmp 50)), none, []⟩]))
  .ret))))
theorem t8 : trF Try.prog Try.f8 s8 = some s8 := by kernel_rfl
theorem k8 : okS s8 = true := by kernel_rfl
theorem r8 : resT Try.prog Try.f8.results.toList = some [.t 10] := by kernel_rfl

def s9 : S :=
  (.seq (.keep [1, 2, 3] (.ops [⟨(some 3), (.box (.tmp 0)), none, []⟩,
    ⟨(some 6), (.move (.const (.bool false))), none, []⟩]))
  (.seq (.keep [1, 2, 3] (.seq (.keep [1, 2, 3, 36] (.ops [⟨(some 23), (.fieldAddr 2 (.tmp 3)), none, []⟩,
    ⟨(some 24), (.load none (.tmp 23)), none, []⟩,
    ⟨(some 25), (.len (.tmp 24)), none, []⟩,
    ⟨(some 26), (.bin .gtr (.tmp 25) (.const (.int .i64 40))), none, []⟩,
    ⟨(some 27), (.move (.tmp 26)), none, []⟩,
    ⟨(some 28), (.load (some 3) (.tmp 3)), (some (27, false)), []⟩,
    ⟨(some 29), (.call (.func 21) [(.tmp 28)]), (some (27, false)), []⟩,
    ⟨(some 30), (.un .not (.tmp 29)), (some (27, false)), []⟩,
    ⟨(some 31), (.pick (.tmp 27) (.const (.bool true)) (.tmp 30)), none, []⟩,
    ⟨(some 32), (.move (.tmp 31)), none, []⟩,
    ⟨(some 33), (.move (.tmp 1)), (some (32, false)), []⟩,
    ⟨(some 34), (.len (.tmp 33)), (some (32, false)), []⟩,
    ⟨(some 35), (.bin .gtr (.tmp 34) (.const (.int .i64 20))), (some (32, false)), []⟩,
    ⟨(some 36), (.pick (.tmp 32) (.const (.bool true)) (.tmp 35)), none, []⟩]))
  (.cond (.tmp 36)
    (.seq (.keep [6] (.ops [⟨(some 37), (.call (.func 11) []), none, []⟩,
      ⟨(some 6), (.move (.tmp 37)), none, []⟩]))
    .ret)
    .skip)))
  (.seq (.keep [1, 2, 3, 7] (.ops [⟨(some 38), .makeMap, none, []⟩,
    ⟨(some 7), (.move (.tmp 38)), none, []⟩]))
  (.seq (.keep [1, 2, 3, 7] (.seq (.keep [1, 2, 3, 7, 40, 41, 42] (.ops [⟨(some 39), (.fieldAddr 2 (.tmp 3)), none, []⟩,
    ⟨(some 40), (.load none (.tmp 39)), none, []⟩,
    ⟨(some 41), (.len (.tmp 40)), none, []⟩,
    ⟨(some 42), (.move (.const (.int .i64 0))), none, []⟩]))
  (.block 0
    (.loop
      (.keep [1, 2, 3, 7, 40, 41, 42] (.seq (.keep [1, 2, 3, 7, 40, 41, 42, 43] (.ops [⟨(some 43), (.bin .lss (.tmp 42) (.tmp 41)), none, []⟩]))
      (.seq (.keep [1, 2, 3, 7, 40, 41, 42] (.cond (.tmp 43)
        .skip
        (.exit 0)))
      (.seq (.keep [1, 2, 3, 7, 40, 41, 42] (.block 1
        (.seq (.keep [1, 2, 3, 7, 9, 40, 41, 42] (.ops [⟨(some 44), (.indexAddr 7 (.tmp 40) (.tmp 42)), none, []⟩,
          ⟨(some 45), (.load (some 7) (.tmp 44)), none, []⟩,
          ⟨(some 9), (.alloc (.agg (List.replicate 7 (.int .i64 0)).toArray)), none, []⟩,
          ⟨none, (.store 7 (.tmp 9) (.tmp 45)), none, []⟩]))
        (.ops [⟨(some 46), (.move (.tmp 7)), none, []⟩,
          ⟨(some 47), (.fieldAddr 0 (.tmp 9)), none, []⟩,
          ⟨(some 48), (.load none (.tmp 47)), none, []⟩,
          ⟨(some 49), (.load (some 7) (.tmp 9)), none, []⟩,
          ⟨none, (.mapPut (.int .i64) (.tmp 46) (.tmp 48) (.tmp 49)), none, []⟩]))))
      (.ops [⟨(some 50), (.bin .add (.tmp 42) (.const (.int .i64 1))), none, []⟩,
        ⟨(some 42), (.move (.tmp 50)), none, []⟩])))))))))
  (.seq (.keep [3, 7] (.seq (.keep [2, 3, 7, 51, 52, 53] (.ops [⟨(some 51), (.move (.tmp 1)), none, []⟩,
    ⟨(some 52), (.len (.tmp 51)), none, []⟩,
    ⟨(some 53), (.move (.const (.int .i64 0))), none, []⟩]))
  (.block 2
    (.loop
      (.keep [2, 3, 7, 51, 52, 53] (.seq (.keep [2, 3, 7, 51, 52, 53, 54] (.ops [⟨(some 54), (.bin .lss (.tmp 53) (.tmp 52)), none, []⟩]))
      (.seq (.keep [2, 3, 7, 51, 52, 53] (.cond (.tmp 54)
        .skip
        (.exit 2)))
      (.seq (.keep [2, 3, 7, 51, 52, 53] (.block 3
        (.seq (.keep [2, 3, 7, 10, 11, 51, 52, 53] (.ops [⟨(some 55), (.move (.tmp 53)), none, []⟩,
          ⟨(some 56), (.indexAddr 7 (.tmp 51) (.tmp 53)), none, []⟩,
          ⟨(some 57), (.load (some 7) (.tmp 56)), none, []⟩,
          ⟨(some 11), (.alloc (.agg (List.replicate 7 (.int .i64 0)).toArray)), none, []⟩,
          ⟨(some 10), (.move (.tmp 55)), none, []⟩,
          ⟨none, (.store 7 (.tmp 11) (.tmp 57)), none, []⟩]))
        (.seq (.keep [2, 3, 7, 10, 11, 12, 13, 51, 52, 53] (.ops [⟨(some 59), (.load (some 3) (.tmp 3)), none, []⟩,
          ⟨(some 60), (.load (some 7) (.tmp 11)), none, []⟩,
          ⟨(some 61), (.call (.func 22) [(.tmp 59), (.tmp 60)]), none, []⟩,
          ⟨(some 58), (.move (.tmp 61)), none, []⟩,
          ⟨(some 62), (.extract (.tmp 58) 0), none, []⟩,
          ⟨(some 63), (.extract (.tmp 58) 1), none, []⟩,
          ⟨(some 12), (.alloc (.agg #[(.int .i64 0), (.int .i64 0), (.slice none 0 0)])), none, []⟩,
          ⟨none, (.store 3 (.tmp 12) (.tmp 62)), none, []⟩,
          ⟨(some 13), (.move (.tmp 63)), none, []⟩]))
        (.seq (.keep [2, 3, 7, 10, 51, 52, 53] (.seq (.keep [2, 3, 7, 10, 11, 12, 51, 52, 53, 65] (.ops [⟨(some 64), (.move (.tmp 13)), none, []⟩,
          ⟨(some 65), (.bin .eql (.tmp 64) (.const (.int .i64 0))), none, []⟩]))
        (.cond (.tmp 65)
          (.draw [0, 0, 2, 0, 0, 15, 63] [⟨0, 0, [], ⟨(some 66), (.move (.tmp 7)), none, []⟩⟩,
            ⟨1, 0, [], ⟨(some 67), (.fieldAddr 0 (.tmp 11)), none, []⟩⟩,
            ⟨2, 2, [], ⟨(some 68), (.load none (.tmp 67)), none, []⟩⟩,
            ⟨3, 0, [], ⟨(some 69), (.load (some 7) (.tmp 11)), none, []⟩⟩,
            ⟨4, 0, [], ⟨(some 70), (.load (some 3) (.tmp 12)), none, []⟩⟩,
            ⟨5, 15, [4], ⟨none, (.mapPut (.int .i64) (.tmp 66) (.tmp 68) (.tmp 69)), none, [((.load (some 3) (.tmp 12)), none, (some 70))]⟩⟩,
            ⟨6, 63, [], ⟨none, (.store 3 (.tmp 3) (.tmp 70)), none, []⟩⟩])
          .skip)))
        (.seq (.keep [2, 3, 7, 10, 51, 52, 53, 81] (.ops [⟨(some 71), (.move (.tmp 2)), none, []⟩,
          ⟨(some 72), (.move (.tmp 10)), none, []⟩,
          ⟨(some 73), (.bin .shr (.tmp 71) (.tmp 72)), none, []⟩,
          ⟨(some 74), (.bin .and (.tmp 73) (.const (.int .u32 1))), none, []⟩,
          ⟨(some 75), (.bin .eql (.tmp 74) (.const (.int .u32 1))), none, []⟩,
          ⟨(some 76), (.move (.tmp 75)), none, []⟩,
          ⟨(some 77), (.fieldAddr 2 (.tmp 3)), (some (76, true)), []⟩,
          ⟨(some 78), (.load none (.tmp 77)), (some (76, true)), []⟩,
          ⟨(some 79), (.len (.tmp 78)), (some (76, true)), []⟩,
          ⟨(some 80), (.bin .gtr (.tmp 79) (.const (.int .i64 0))), (some (76, true)), []⟩,
          ⟨(some 81), (.pick (.tmp 76) (.tmp 80) (.const (.bool false))), none, []⟩]))
        (.cond (.tmp 81)
          (.seq (.keep [2, 3, 7, 14, 51, 52, 53] (.draw [0, 1, 0, 0, 8, 24, 60, 127, 255, 511, 1023] [⟨0, 0, [], ⟨(some 82), (.fieldAddr 2 (.tmp 3)), none, []⟩⟩,
            ⟨1, 1, [], ⟨(some 83), (.load none (.tmp 82)), none, []⟩⟩,
            ⟨2, 0, [], ⟨(some 84), (.move (.tmp 10)), none, []⟩⟩,
            ⟨3, 0, [], ⟨(some 85), (.fieldAddr 2 (.tmp 3)), none, []⟩⟩,
            ⟨4, 8, [], ⟨(some 86), (.load none (.tmp 85)), none, []⟩⟩,
            ⟨5, 24, [], ⟨(some 87), (.len (.tmp 86)), none, []⟩⟩,
            ⟨6, 60, [], ⟨(some 88), (.bin .rem (.tmp 84) (.tmp 87)), none, []⟩⟩,
            ⟨7, 127, [], ⟨(some 89), (.indexAddr 7 (.tmp 83) (.tmp 88)), none, []⟩⟩,
            ⟨8, 255, [], ⟨(some 90), (.fieldAddr 0 (.tmp 89)), none, []⟩⟩,
            ⟨9, 511, [], ⟨(some 91), (.load none (.tmp 90)), none, []⟩⟩,
            ⟨10, 1023, [], ⟨(some 14), (.move (.tmp 91)), none, []⟩⟩]))
          (.seq (.keep [2, 3, 7, 14, 15, 16, 51, 52, 53] (.ops [⟨(some 93), (.load (some 3) (.tmp 3)), none, []⟩,
            ⟨(some 94), (.move (.tmp 14)), none, []⟩,
            ⟨(some 95), (.call (.func 23) [(.tmp 93), (.tmp 94)]), none, []⟩,
            ⟨(some 92), (.move (.tmp 95)), none, []⟩,
            ⟨(some 96), (.extract (.tmp 92) 0), none, []⟩,
            ⟨(some 97), (.extract (.tmp 92) 1), none, []⟩,
            ⟨(some 15), (.alloc (.agg #[(.int .i64 0), (.int .i64 0), (.slice none 0 0)])), none, []⟩,
            ⟨none, (.store 3 (.tmp 15) (.tmp 96)), none, []⟩,
            ⟨(some 16), (.move (.tmp 97)), none, []⟩]))
          (.seq (.keep [2, 3, 7, 14, 15, 51, 52, 53] (.seq (.keep [2, 3, 7, 14, 15, 51, 52, 53, 99] (.ops [⟨(some 98), (.move (.tmp 16)), none, []⟩,
            ⟨(some 99), (.bin .neq (.tmp 98) (.const (.int .i64 0))), none, []⟩]))
          (.cond (.tmp 99)
            (.seq (.keep [6] (.ops [⟨(some 6), (.move (.const (.bool false))), none, []⟩]))
            .ret)
            .skip)))
          (.seq (.keep [2, 3, 7, 15, 51, 52, 53] (.ops [⟨(some 100), (.move (.tmp 7)), none, []⟩,
            ⟨(some 101), (.move (.tmp 14)), none, []⟩,
            ⟨none, (.mapDel (.int .i64) (.tmp 100) (.tmp 101)), none, []⟩]))
          (.ops [⟨(some 102), (.load (some 3) (.tmp 15)), none, []⟩,
            ⟨none, (.store 3 (.tmp 3) (.tmp 102)), none, []⟩])))))
          .skip)))))))
      (.ops [⟨(some 103), (.bin .add (.tmp 53) (.const (.int .i64 1))), none, []⟩,
        ⟨(some 53), (.move (.tmp 103)), none, []⟩])))))))))
  (.seq (.keep [3, 7, 17] (.ops [⟨(some 17), (.move (.const (.slice none 0 0))), none, []⟩]))
  (.seq (.keep [3, 7, 17] (.seq (.keep [3, 7, 17, 105, 106, 107] (.ops [⟨(some 104), (.fieldAddr 2 (.tmp 3)), none, []⟩,
    ⟨(some 105), (.load none (.tmp 104)), none, []⟩,
    ⟨(some 106), (.len (.tmp 105)), none, []⟩,
    ⟨(some 107), (.move (.const (.int .i64 0))), none, []⟩]))
  (.block 4
    (.loop
      (.keep [3, 7, 17, 105, 106, 107] (.seq (.keep [3, 7, 17, 105, 106, 107, 108] (.ops [⟨(some 108), (.bin .lss (.tmp 107) (.tmp 106)), none, []⟩]))
      (.seq (.keep [3, 7, 17, 105, 106, 107] (.cond (.tmp 108)
        .skip
        (.exit 4)))
      (.seq (.keep [3, 7, 17, 105, 106, 107] (.block 5
        (.seq (.keep [3, 7, 17, 19, 105, 106, 107] (.ops [⟨(some 109), (.indexAddr 7 (.tmp 105) (.tmp 107)), none, []⟩,
          ⟨(some 110), (.load (some 7) (.tmp 109)), none, []⟩,
          ⟨(some 19), (.alloc (.agg (List.replicate 7 (.int .i64 0)).toArray)), none, []⟩,
          ⟨none, (.store 7 (.tmp 19) (.tmp 110)), none, []⟩]))
        (.ops [⟨(some 111), (.move (.tmp 17)), none, []⟩,
          ⟨(some 112), (.fieldAddr 0 (.tmp 19)), none, []⟩,
          ⟨(some 113), (.load none (.tmp 112)), none, []⟩,
          ⟨(some 114), (.fieldAddr 1 (.tmp 19)), none, []⟩,
          ⟨(some 115), (.fieldAddr 0 (.tmp 114)), none, []⟩,
          ⟨(some 116), (.load none (.tmp 115)), none, []⟩,
          ⟨(some 117), (.build [(.int .i64 0), (.int .i64 0), (.int .i64 0)] [(0, 1, (.tmp 113)), (1, 1, (.tmp 116)), (2, 1, (.const (.int .i64 1073741824)))]), none, []⟩,
          ⟨(some 118), (.buildSlice 1 [(.int .i64 0), (.int .i64 0), (.int .i64 0)] [(0, 3, (.tmp 117))]), none, []⟩,
          ⟨(some 119), (.append 3 24 (.tmp 111) (.tmp 118)), none, []⟩,
          ⟨(some 17), (.move (.tmp 119)), none, []⟩]))))
      (.ops [⟨(some 120), (.bin .add (.tmp 107) (.const (.int .i64 1))), none, []⟩,
        ⟨(some 107), (.move (.tmp 120)), none, []⟩])))))))))
  (.seq (.keep [3, 7, 20] (.ops [⟨(some 121), (.load (some 3) (.tmp 3)), none, []⟩,
    ⟨(some 122), (.move (.tmp 17)), none, []⟩,
    ⟨(some 123), (.call (.func 29) [(.tmp 121), (.tmp 122)]), none, []⟩,
    ⟨(some 20), (.move (.tmp 123)), none, []⟩]))
  (.seq (.keep [3, 7, 20] (.seq (.keep [3, 7, 20, 137] (.ops [⟨(some 124), (.move (.tmp 20)), none, []⟩,
    ⟨(some 125), (.len (.tmp 124)), none, []⟩,
    ⟨(some 126), (.fieldAddr 2 (.tmp 3)), none, []⟩,
    ⟨(some 127), (.load none (.tmp 126)), none, []⟩,
    ⟨(some 128), (.len (.tmp 127)), none, []⟩,
    ⟨(some 129), (.bin .neq (.tmp 125) (.tmp 128)), none, []⟩,
    ⟨(some 130), (.move (.tmp 129)), none, []⟩,
    ⟨(some 131), (.move (.tmp 7)), (some (130, false)), []⟩,
    ⟨(some 132), (.lenMap (.tmp 131)), (some (130, false)), []⟩,
    ⟨(some 133), (.fieldAddr 2 (.tmp 3)), (some (130, false)), []⟩,
    ⟨(some 134), (.load none (.tmp 133)), (some (130, false)), []⟩,
    ⟨(some 135), (.len (.tmp 134)), (some (130, false)), []⟩,
    ⟨(some 136), (.bin .neq (.tmp 132) (.tmp 135)), (some (130, false)), []⟩,
    ⟨(some 137), (.pick (.tmp 130) (.const (.bool true)) (.tmp 136)), none, []⟩]))
  (.cond (.tmp 137)
    (.seq (.keep [6] (.ops [⟨(some 6), (.move (.const (.bool false))), none, []⟩]))
    .ret)
    .skip)))
  (.seq (.keep [] (.seq (.keep [7, 20, 139, 140, 141] (.ops [⟨(some 138), (.fieldAddr 2 (.tmp 3)), none, []⟩,
    ⟨(some 139), (.load none (.tmp 138)), none, []⟩,
    ⟨(some 140), (.len (.tmp 139)), none, []⟩,
    ⟨(some 141), (.move (.const (.int .i64 0))), none, []⟩]))
  (.block 6
    (.loop
      (.keep [7, 20, 139, 140, 141] (.seq (.keep [7, 20, 139, 140, 141, 142] (.ops [⟨(some 142), (.bin .lss (.tmp 141) (.tmp 140)), none, []⟩]))
      (.seq (.keep [7, 20, 139, 140, 141] (.cond (.tmp 142)
        .skip
        (.exit 6)))
      (.seq (.keep [7, 20, 139, 140, 141] (.block 7
        (.seq (.keep [7, 20, 21, 22, 139, 140, 141] (.ops [⟨(some 143), (.move (.tmp 141)), none, []⟩,
          ⟨(some 144), (.indexAddr 7 (.tmp 139) (.tmp 141)), none, []⟩,
          ⟨(some 145), (.load (some 7) (.tmp 144)), none, []⟩,
          ⟨(some 22), (.alloc (.agg (List.replicate 7 (.int .i64 0)).toArray)), none, []⟩,
          ⟨(some 21), (.move (.tmp 143)), none, []⟩,
          ⟨none, (.store 7 (.tmp 22) (.tmp 145)), none, []⟩]))
        (.seq (.keep [7, 20, 139, 140, 141, 183] (.draw [0, 0, 2, 7, 0, 31, 63, 127, 127, 511, 1023, 2047, 127, 4223, 16383, 32767, 65535, 131071, 131071, 524287, 1048575, 2097151, 131071, 4325375, 12713983, 33554431, 67108863, 134217727, 268435455, 268435455, 1073741823, 2147483647, 4294967295, 268435455, 8858370047, 26038239231, 68719476735, 137438953471] [⟨0, 0, [], ⟨(some 146), (.move (.tmp 7)), none, []⟩⟩,
          ⟨1, 0, [], ⟨(some 147), (.fieldAddr 0 (.tmp 22)), none, []⟩⟩,
          ⟨2, 2, [], ⟨(some 148), (.load none (.tmp 147)), none, []⟩⟩,
          ⟨3, 7, [], ⟨(some 149), (.lookup (.int .i64) (.agg (List.replicate 7 (.int .i64 0)).toArray) false (.tmp 146) (.tmp 148)), none, []⟩⟩,
          ⟨4, 0, [], ⟨(some 150), (.load (some 7) (.tmp 22)), none, []⟩⟩,
          ⟨5, 31, [], ⟨(some 151), (.eqAgg true (List.replicate 7 (.int .i64)) (.tmp 149) (.tmp 150)), none, []⟩⟩,
          ⟨6, 63, [], ⟨(some 152), (.move (.tmp 151)), none, []⟩⟩,
          ⟨7, 127, [], ⟨(some 153), (.move (.tmp 20)), (some (152, false)), []⟩⟩,
          ⟨8, 127, [], ⟨(some 154), (.move (.tmp 21)), (some (152, false)), []⟩⟩,
          ⟨9, 511, [], ⟨(some 155), (.indexAddr 3 (.tmp 153) (.tmp 154)), (some (152, false)), []⟩⟩,
          ⟨10, 1023, [], ⟨(some 156), (.fieldAddr 0 (.tmp 155)), (some (152, false)), []⟩⟩,
          ⟨11, 2047, [], ⟨(some 157), (.load none (.tmp 156)), (some (152, false)), []⟩⟩,
          ⟨12, 127, [], ⟨(some 158), (.fieldAddr 0 (.tmp 22)), (some (152, false)), []⟩⟩,
          ⟨13, 4223, [], ⟨(some 159), (.load none (.tmp 158)), (some (152, false)), []⟩⟩,
          ⟨14, 16383, [], ⟨(some 160), (.bin .neq (.tmp 157) (.tmp 159)), (some (152, false)), []⟩⟩,
          ⟨15, 32767, [], ⟨(some 161), (.pick (.tmp 152) (.const (.bool true)) (.tmp 160)), none, []⟩⟩,
          ⟨16, 65535, [], ⟨(some 162), (.move (.tmp 161)), none, []⟩⟩,
          ⟨17, 131071, [], ⟨(some 163), (.move (.tmp 20)), (some (162, false)), []⟩⟩,
          ⟨18, 131071, [], ⟨(some 164), (.move (.tmp 21)), (some (162, false)), []⟩⟩,
          ⟨19, 524287, [], ⟨(some 165), (.indexAddr 3 (.tmp 163) (.tmp 164)), (some (162, false)), []⟩⟩,
          ⟨20, 1048575, [], ⟨(some 166), (.fieldAddr 1 (.tmp 165)), (some (162, false)), []⟩⟩,
          ⟨21, 2097151, [], ⟨(some 167), (.load none (.tmp 166)), (some (162, false)), []⟩⟩,
          ⟨22, 131071, [], ⟨(some 168), (.fieldAddr 1 (.tmp 22)), (some (162, false)), []⟩⟩,
          ⟨23, 4325375, [], ⟨(some 169), (.fieldAddr 0 (.tmp 168)), (some (162, false)), []⟩⟩,
          ⟨24, 12713983, [], ⟨(some 170), (.load none (.tmp 169)), (some (162, false)), []⟩⟩,
          ⟨25, 33554431, [], ⟨(some 171), (.bin .neq (.tmp 167) (.tmp 170)), (some (162, false)), []⟩⟩,
          ⟨26, 67108863, [], ⟨(some 172), (.pick (.tmp 162) (.const (.bool true)) (.tmp 171)), none, []⟩⟩,
          ⟨27, 134217727, [], ⟨(some 173), (.move (.tmp 172)), none, []⟩⟩,
          ⟨28, 268435455, [], ⟨(some 174), (.move (.tmp 20)), (some (173, false)), []⟩⟩,
          ⟨29, 268435455, [], ⟨(some 175), (.move (.tmp 21)), (some (173, false)), []⟩⟩,
          ⟨30, 1073741823, [], ⟨(some 176), (.indexAddr 3 (.tmp 174) (.tmp 175)), (some (173, false)), []⟩⟩,
          ⟨31, 2147483647, [], ⟨(some 177), (.fieldAddr 2 (.tmp 176)), (some (173, false)), []⟩⟩,
          ⟨32, 4294967295, [], ⟨(some 178), (.load none (.tmp 177)), (some (173, false)), []⟩⟩,
          ⟨33, 268435455, [], ⟨(some 179), (.fieldAddr 4 (.tmp 22)), (some (173, false)), []⟩⟩,
          ⟨34, 8858370047, [], ⟨(some 180), (.fieldAddr 0 (.tmp 179)), (some (173, false)), []⟩⟩,
          ⟨35, 26038239231, [], ⟨(some 181), (.load none (.tmp 180)), (some (173, false)), []⟩⟩,
          ⟨36, 68719476735, [], ⟨(some 182), (.bin .lss (.tmp 178) (.tmp 181)), (some (173, false)), []⟩⟩,
          ⟨37, 137438953471, [], ⟨(some 183), (.pick (.tmp 173) (.const (.bool true)) (.tmp 182)), none, []⟩⟩]))
        (.cond (.tmp 183)
          (.seq (.keep [6] (.ops [⟨(some 6), (.move (.const (.bool false))), none, []⟩]))
          .ret)
          .skip)))))
      (.ops [⟨(some 184), (.bin .add (.tmp 141) (.const (.int .i64 1))), none, []⟩,
        ⟨(some 141), (.move (.tmp 184)), none, []⟩])))))))))
  (.seq (.keep [6] (.ops [⟨(some 185), (.call (.func 11) []), none, []⟩,
    ⟨(some 6), (.move (.tmp 185)), none, []⟩]))
  .ret)))))))))))
theorem t9 : trF Try.prog Try.f9 s9 = some s9 := by kernel_rfl
theorem k9 : okS s9 = true := by kernel_rfl
theorem r9 : resT Try.prog Try.f9.results.toList = some [.t 6] := by kernel_rfl

def s10 : S :=
  (.seq (.keep [0, 1] (.ops [⟨(some 4), (.move (.const (.int .i64 0))), none, []⟩]))
  (.seq (.keep [0, 1] (.seq (.keep [0, 1, 13] (.ops [⟨(some 7), (.move (.tmp 1)), none, []⟩,
    ⟨(some 8), (.bin .lss (.tmp 7) (.const (.int .i64 1))), none, []⟩,
    ⟨(some 9), (.move (.tmp 8)), none, []⟩,
    ⟨(some 10), (.move (.tmp 0)), (some (9, false)), []⟩,
    ⟨(some 11), (.len (.tmp 10)), (some (9, false)), []⟩,
    ⟨(some 12), (.bin .gtr (.tmp 11) (.const (.int .i64 32))), (some (9, false)), []⟩,
    ⟨(some 13), (.pick (.tmp 9) (.const (.bool true)) (.tmp 12)), none, []⟩]))
  (.cond (.tmp 13)
    (.seq (.keep [4] (.ops [⟨(some 4), (.move (.const (.int .i64 (-1)))), none, []⟩]))
    .ret)
    .skip)))
  (.seq (.keep [0, 1, 5] (.ops [⟨(some 5), (.move (.const (.int .i64 0))), none, []⟩]))
  (.seq (.keep [5] (.seq (.keep [0, 1, 5, 6] (.ops [⟨(some 6), (.move (.const (.int .i64 0))), none, []⟩]))
  (.block 0
    (.loop
      (.keep [0, 1, 5, 6] (.seq (.keep [0, 1, 5, 6] (.seq (.keep [0, 1, 5, 6, 17] (.ops [⟨(some 14), (.move (.tmp 6)), none, []⟩,
        ⟨(some 15), (.move (.tmp 0)), none, []⟩,
        ⟨(some 16), (.len (.tmp 15)), none, []⟩,
        ⟨(some 17), (.bin .lss (.tmp 14) (.tmp 16)), none, []⟩]))
      (.cond (.tmp 17)
        .skip
        (.exit 0))))
      (.seq (.keep [0, 1, 5, 6] (.block 1
        (.seq (.keep [0, 1, 5, 6] (.seq (.keep [0, 1, 5, 6, 26] (.ops [⟨(some 20), (.move (.tmp 0)), none, []⟩,
          ⟨(some 21), (.move (.tmp 6)), none, []⟩,
          ⟨(some 22), (.indexAddr 3 (.tmp 20) (.tmp 21)), none, []⟩,
          ⟨(some 23), (.fieldAddr 1 (.tmp 22)), none, []⟩,
          ⟨(some 24), (.load none (.tmp 23)), none, []⟩,
          ⟨(some 25), (.call (.func 31) [(.tmp 24)]), none, []⟩,
          ⟨(some 26), (.un .not (.tmp 25)), none, []⟩]))
        (.cond (.tmp 26)
          (.seq (.keep [4] (.ops [⟨(some 4), (.move (.const (.int .i64 (-1)))), none, []⟩]))
          .ret)
          .skip)))
        (.seq (.keep [0, 1, 5, 6, 32] (.ops [⟨(some 27), (.move (.tmp 0)), none, []⟩,
          ⟨(some 28), (.move (.tmp 6)), none, []⟩,
          ⟨(some 29), (.indexAddr 3 (.tmp 27) (.tmp 28)), none, []⟩,
          ⟨(some 30), (.fieldAddr 1 (.tmp 29)), none, []⟩,
          ⟨(some 31), (.load none (.tmp 30)), none, []⟩,
          ⟨(some 32), (.bin .gtr (.tmp 31) (.const (.int .i64 0))), none, []⟩]))
        (.cond (.tmp 32)
          (.ops [⟨(some 33), (.move (.tmp 5)), none, []⟩,
            ⟨(some 34), (.move (.tmp 0)), none, []⟩,
            ⟨(some 35), (.move (.tmp 6)), none, []⟩,
            ⟨(some 36), (.indexAddr 3 (.tmp 34) (.tmp 35)), none, []⟩,
            ⟨(some 37), (.fieldAddr 1 (.tmp 36)), none, []⟩,
            ⟨(some 38), (.load none (.tmp 37)), none, []⟩,
            ⟨(some 39), (.bin .sub (.tmp 38) (.const (.int .i64 1))), none, []⟩,
            ⟨(some 40), (.move (.tmp 1)), none, []⟩,
            ⟨(some 41), (.bin .quo (.tmp 39) (.tmp 40)), none, []⟩,
            ⟨(some 42), (.bin .add (.tmp 33) (.tmp 41)), none, []⟩,
            ⟨(some 43), (.bin .add (.tmp 42) (.const (.int .i64 1))), none, []⟩,
            ⟨(some 5), (.move (.tmp 43)), none, []⟩])
          .skip)))))
      (.ops [⟨(some 18), (.move (.tmp 6)), none, []⟩,
        ⟨(some 19), (.bin .add (.tmp 18) (.const (.int .i64 1))), none, []⟩,
        ⟨(some 6), (.move (.tmp 19)), none, []⟩]))))))))
  (.seq (.keep [5] (.seq (.keep [5, 45] (.ops [⟨(some 44), (.move (.tmp 5)), none, []⟩,
    ⟨(some 45), (.bin .gtr (.tmp 44) (.const (.int .i64 10000))), none, []⟩]))
  (.cond (.tmp 45)
    (.seq (.keep [4] (.ops [⟨(some 4), (.move (.const (.int .i64 (-1)))), none, []⟩]))
    .ret)
    .skip)))
  (.seq (.keep [4] (.ops [⟨(some 46), (.move (.tmp 5)), none, []⟩,
    ⟨(some 4), (.move (.tmp 46)), none, []⟩]))
  .ret))))))
theorem t10 : trF Try.prog Try.f10 s10 = some s10 := by kernel_rfl
theorem k10 : okS s10 = true := by kernel_rfl
theorem r10 : resT Try.prog Try.f10.results.toList = some [.t 4] := by kernel_rfl

def s11 : S :=
  (.seq (.keep [] (.ops [⟨(some 0), (.move (.const (.bool false))), none, []⟩]))
  (.seq (.keep [1] (.ops [⟨(some 15), (.build [(.int .i64 0), (.int .i64 0), (.int .i64 0)] [(0, 1, (.const (.int .i64 10))), (1, 1, (.const (.int .i64 100))), (2, 1, (.const (.int .i64 1)))]), none, []⟩,
    ⟨(some 16), (.build [(.int .i64 0), (.int .i64 0), (.int .i64 0)] [(0, 1, (.const (.int .i64 20))), (1, 1, (.const (.int .i64 100))), (2, 1, (.const (.int .i64 2)))]), none, []⟩,
    ⟨(some 17), (.buildSlice 2 (List.replicate 6 (.int .i64 0)) [(0, 3, (.tmp 15)), (3, 3, (.tmp 16))]), none, []⟩,
    ⟨(some 1), (.move (.tmp 17)), none, []⟩]))
  (.seq (.keep [1, 2] (.ops [⟨(some 18), (.build [(.int .i64 0), (.int .i64 0), (.int .i64 0)] [(1, 1, (.const (.int .i64 20))), (2, 1, (.const (.int .i64 5)))]), none, []⟩,
    ⟨(some 19), (.build [(.int .i64 0), (.int .i64 0), (.int .i64 0)] [(1, 1, (.const (.int .i64 30))), (2, 1, (.const (.int .i64 5)))]), none, []⟩,
    ⟨(some 20), (.buildSlice 2 (List.replicate 6 (.int .i64 0)) [(0, 3, (.tmp 18)), (3, 3, (.tmp 19))]), none, []⟩,
    ⟨(some 2), (.move (.tmp 20)), none, []⟩]))
  (.seq (.keep [1, 2, 3] (.ops [⟨(some 21), (.buildSlice 2 [(.int .i64 0), (.int .i64 0)] [(0, 1, (.const (.int .i64 100))), (1, 1, (.const (.int .i64 100)))]), none, []⟩,
    ⟨(some 3), (.move (.tmp 21)), none, []⟩]))
  (.seq (.keep [1, 2, 3, 4, 5] (.ops [⟨(some 22), (.move (.tmp 1)), none, []⟩,
    ⟨(some 23), (.move (.tmp 3)), none, []⟩,
    ⟨(some 24), (.call (.func 16) [(.const (.int .i64 100)), (.tmp 22), (.tmp 23)]), none, []⟩,
    ⟨(some 25), (.move (.tmp 1)), none, []⟩,
    ⟨(some 26), (.buildSlice 2 [(.int .i64 0), (.int .i64 0)] [(0, 1, (.const (.int .i64 5))), (1, 1, (.const (.int .i64 100)))]), none, []⟩,
    ⟨(some 27), (.call (.func 16) [(.const (.int .i64 100)), (.tmp 25), (.tmp 26)]), none, []⟩,
    ⟨(some 4), (.move (.tmp 24)), none, []⟩,
    ⟨(some 5), (.move (.tmp 27)), none, []⟩]))
  (.seq (.keep [1, 2, 4, 5, 6, 7] (.ops [⟨(some 28), (.move (.tmp 1)), none, []⟩,
    ⟨(some 29), (.move (.tmp 3)), none, []⟩,
    ⟨(some 30), (.call (.func 16) [(.const (.int .i64 30)), (.tmp 28), (.tmp 29)]), none, []⟩,
    ⟨(some 31), (.move (.tmp 2)), none, []⟩,
    ⟨(some 32), (.move (.tmp 3)), none, []⟩,
    ⟨(some 33), (.call (.func 16) [(.const (.int .i64 100)), (.tmp 31), (.tmp 32)]), none, []⟩,
    ⟨(some 6), (.move (.tmp 30)), none, []⟩,
    ⟨(some 7), (.move (.tmp 33)), none, []⟩]))
  (.seq (.keep [1, 2, 4, 5, 6, 7, 8] (.ops [⟨(some 34), (.build [(.int .i64 0), (.int .i64 0), (.int .i64 0)] [(0, 1, (.const (.int .i64 1))), (1, 1, (.const (.int .i64 5)))]), none, []⟩,
    ⟨(some 35), (.build [(.int .i64 0), (.int .i64 0), (.int .i64 0)] [(0, 1, (.const (.int .i64 2))), (1, 1, (.const (.int .i64 2)))]), none, []⟩,
    ⟨(some 36), (.buildSlice 2 (List.replicate 6 (.int .i64 0)) [(0, 3, (.tmp 34)), (3, 3, (.tmp 35))]), none, []⟩,
    ⟨(some 37), (.call (.func 12) [(.tmp 36), (.const (.int .i64 2))]), none, []⟩,
    ⟨(some 8), (.move (.tmp 37)), none, []⟩]))
  (.seq (.keep [1, 2, 4, 5, 6, 7, 8, 9, 10] (.draw [0, 0, 2, 6, 0, 16, 48, 126, 255, 511, 1023, 1023, 0, 6143, 16383] [⟨0, 0, [], ⟨(some 39), (.build [(.int .i64 0), (.int .i64 0), (.slice none 0 0)] [(0, 1, (.const (.int .i64 30))), (1, 1, (.const (.int .i64 9)))]), none, []⟩⟩,
    ⟨1, 0, [], ⟨(some 40), (.move (.tmp 1)), none, []⟩⟩,
    ⟨2, 2, [], ⟨(some 41), (.indexAddr 3 (.tmp 40) (.const (.int .i64 1))), none, []⟩⟩,
    ⟨3, 6, [], ⟨(some 42), (.load (some 3) (.tmp 41)), none, []⟩⟩,
    ⟨4, 0, [], ⟨(some 43), (.move (.tmp 2)), none, []⟩⟩,
    ⟨5, 16, [], ⟨(some 44), (.indexAddr 3 (.tmp 43) (.const (.int .i64 0))), none, []⟩⟩,
    ⟨6, 48, [], ⟨(some 45), (.load (some 3) (.tmp 44)), none, []⟩⟩,
    ⟨7, 126, [], ⟨(some 46), (.build (List.replicate 7 (.int .i64 0)) [(0, 1, (.const (.int .i64 4))), (1, 3, (.tmp 42)), (4, 3, (.tmp 45))]), none, []⟩⟩,
    ⟨12, 0, [], ⟨(some 9), (.alloc (.agg #[(.int .i64 0), (.int .i64 0), (.slice none 0 0)])), none, []⟩⟩,
    ⟨8, 255, [], ⟨(some 47), (.call (.func 22) [(.tmp 39), (.tmp 46)]), none, []⟩⟩,
    ⟨9, 511, [], ⟨(some 38), (.move (.tmp 47)), none, []⟩⟩,
    ⟨10, 1023, [], ⟨(some 48), (.extract (.tmp 38) 0), none, []⟩⟩,
    ⟨11, 1023, [], ⟨(some 49), (.extract (.tmp 38) 1), none, []⟩⟩,
    ⟨13, 6143, [], ⟨none, (.store 3 (.tmp 9) (.tmp 48)), none, []⟩⟩,
    ⟨14, 16383, [], ⟨(some 10), (.move (.tmp 49)), none, []⟩⟩]))
  (.seq (.keep [1, 2, 4, 5, 6, 7, 8, 9, 10, 12] (.draw [0, 0, 2, 6, 0, 16, 48, 126, 255, 511, 1023, 1023, 0, 6143, 16383] [⟨0, 0, [], ⟨(some 51), (.load (some 3) (.tmp 9)), none, []⟩⟩,
    ⟨1, 0, [], ⟨(some 52), (.move (.tmp 1)), none, []⟩⟩,
    ⟨2, 2, [], ⟨(some 53), (.indexAddr 3 (.tmp 52) (.const (.int .i64 1))), none, []⟩⟩,
    ⟨3, 6, [], ⟨(some 54), (.load (some 3) (.tmp 53)), none, []⟩⟩,
    ⟨4, 0, [], ⟨(some 55), (.move (.tmp 2)), none, []⟩⟩,
    ⟨5, 16, [], ⟨(some 56), (.indexAddr 3 (.tmp 55) (.const (.int .i64 0))), none, []⟩⟩,
    ⟨6, 48, [], ⟨(some 57), (.load (some 3) (.tmp 56)), none, []⟩⟩,
    ⟨7, 126, [], ⟨(some 58), (.build (List.replicate 7 (.int .i64 0)) [(0, 1, (.const (.int .i64 5))), (1, 3, (.tmp 54)), (4, 3, (.tmp 57))]), none, []⟩⟩,
    ⟨12, 0, [], ⟨(some 11), (.alloc (.agg #[(.int .i64 0), (.int .i64 0), (.slice none 0 0)])), none, []⟩⟩,
    ⟨8, 255, [], ⟨(some 59), (.call (.func 22) [(.tmp 51), (.tmp 58)]), none, []⟩⟩,
    ⟨9, 511, [], ⟨(some 50), (.move (.tmp 59)), none, []⟩⟩,
    ⟨10, 1023, [], ⟨(some 60), (.extract (.tmp 50) 0), none, []⟩⟩,
    ⟨11, 1023, [], ⟨(some 61), (.extract (.tmp 50) 1), none, []⟩⟩,
    ⟨13, 6143, [], ⟨none, (.store 3 (.tmp 11) (.tmp 60)), none, []⟩⟩,
    ⟨14, 16383, [], ⟨(some 12), (.move (.tmp 61)), none, []⟩⟩]))
  (.seq (.keep [4, 5, 6, 7, 8, 9, 10, 12, 14] (.draw [0, 0, 2, 6, 0, 16, 48, 126, 255, 511, 1023, 1023, 0, 6143, 16383] [⟨0, 0, [], ⟨(some 63), (.load (some 3) (.tmp 9)), none, []⟩⟩,
    ⟨1, 0, [], ⟨(some 64), (.move (.tmp 1)), none, []⟩⟩,
    ⟨2, 2, [], ⟨(some 65), (.indexAddr 3 (.tmp 64) (.const (.int .i64 0))), none, []⟩⟩,
    ⟨3, 6, [], ⟨(some 66), (.load (some 3) (.tmp 65)), none, []⟩⟩,
    ⟨4, 0, [], ⟨(some 67), (.move (.tmp 2)), none, []⟩⟩,
    ⟨5, 16, [], ⟨(some 68), (.indexAddr 3 (.tmp 67) (.const (.int .i64 0))), none, []⟩⟩,
    ⟨6, 48, [], ⟨(some 69), (.load (some 3) (.tmp 68)), none, []⟩⟩,
    ⟨7, 126, [], ⟨(some 70), (.build (List.replicate 7 (.int .i64 0)) [(0, 1, (.const (.int .i64 4))), (1, 3, (.tmp 66)), (4, 3, (.tmp 69))]), none, []⟩⟩,
    ⟨12, 0, [], ⟨(some 13), (.alloc (.agg #[(.int .i64 0), (.int .i64 0), (.slice none 0 0)])), none, []⟩⟩,
    ⟨8, 255, [], ⟨(some 71), (.call (.func 22) [(.tmp 63), (.tmp 70)]), none, []⟩⟩,
    ⟨9, 511, [], ⟨(some 62), (.move (.tmp 71)), none, []⟩⟩,
    ⟨10, 1023, [], ⟨(some 72), (.extract (.tmp 62) 0), none, []⟩⟩,
    ⟨11, 1023, [], ⟨(some 73), (.extract (.tmp 62) 1), none, []⟩⟩,
    ⟨13, 6143, [], ⟨none, (.store 3 (.tmp 13) (.tmp 72)), none, []⟩⟩,
    ⟨14, 16383, [], ⟨(some 14), (.move (.tmp 73)), none, []⟩⟩]))
  (.seq (.keep [4, 5, 6, 7, 8] (.seq (.keep [4, 5, 6, 7, 8, 88] (.ops [⟨(some 74), (.move (.tmp 10)), none, []⟩,
    ⟨(some 75), (.bin .neq (.tmp 74) (.const (.int .i64 0))), none, []⟩,
    ⟨(some 76), (.move (.tmp 75)), none, []⟩,
    ⟨(some 77), (.move (.tmp 12)), (some (76, false)), []⟩,
    ⟨(some 78), (.bin .neq (.tmp 77) (.const (.int .i64 2))), (some (76, false)), []⟩,
    ⟨(some 79), (.pick (.tmp 76) (.const (.bool true)) (.tmp 78)), none, []⟩,
    ⟨(some 80), (.move (.tmp 79)), none, []⟩,
    ⟨(some 81), (.move (.tmp 14)), (some (80, false)), []⟩,
    ⟨(some 82), (.bin .neq (.tmp 81) (.const (.int .i64 6))), (some (80, false)), []⟩,
    ⟨(some 83), (.pick (.tmp 80) (.const (.bool true)) (.tmp 82)), none, []⟩,
    ⟨(some 84), (.move (.tmp 83)), none, []⟩,
    ⟨(some 85), (.load (some 3) (.tmp 9)), (some (84, false)), []⟩,
    ⟨(some 86), (.call (.func 20) [(.tmp 85)]), (some (84, false)), []⟩,
    ⟨(some 87), (.un .not (.tmp 86)), (some (84, false)), []⟩,
    ⟨(some 88), (.pick (.tmp 84) (.const (.bool true)) (.tmp 87)), none, []⟩]))
  (.cond (.tmp 88)
    (.seq (.keep [0] (.ops [⟨(some 0), (.move (.const (.bool false))), none, []⟩]))
    .ret)
    .skip)))
  (.seq (.keep [0] (.ops [⟨(some 89), (.move (.tmp 4)), none, []⟩,
    ⟨(some 90), (.buildSlice 2 [(.int .i64 0), (.int .i64 0)] [(0, 1, (.const (.int .i64 34))), (1, 1, (.const (.int .i64 66)))]), none, []⟩,
    ⟨(some 91), (.call (.func 17) [(.tmp 89), (.tmp 90)]), none, []⟩,
    ⟨(some 92), (.move (.tmp 91)), none, []⟩,
    ⟨(some 93), (.move (.tmp 5)), (some (92, true)), []⟩,
    ⟨(some 94), (.buildSlice 2 [(.int .i64 0), (.int .i64 0)] [(0, 1, (.const (.int .i64 5))), (1, 1, (.const (.int .i64 95)))]), (some (92, true)), []⟩,
    ⟨(some 95), (.call (.func 17) [(.tmp 93), (.tmp 94)]), (some (92, true)), []⟩,
    ⟨(some 96), (.pick (.tmp 92) (.tmp 95) (.const (.bool false))), none, []⟩,
    ⟨(some 97), (.move (.tmp 96)), none, []⟩,
    ⟨(some 98), (.move (.tmp 6)), (some (97, true)), []⟩,
    ⟨(some 99), (.buildSlice 2 [(.int .i64 0), (.int .i64 0)] [(0, 1, (.const (.int .i64 10))), (1, 1, (.const (.int .i64 20)))]), (some (97, true)), []⟩,
    ⟨(some 100), (.call (.func 17) [(.tmp 98), (.tmp 99)]), (some (97, true)), []⟩,
    ⟨(some 101), (.pick (.tmp 97) (.tmp 100) (.const (.bool false))), none, []⟩,
    ⟨(some 102), (.move (.tmp 101)), none, []⟩,
    ⟨(some 103), (.move (.tmp 7)), (some (102, true)), []⟩,
    ⟨(some 104), (.buildSlice 2 [(.int .i64 0), (.int .i64 0)] [(0, 1, (.const (.int .i64 20))), (1, 1, (.const (.int .i64 30)))]), (some (102, true)), []⟩,
    ⟨(some 105), (.call (.func 17) [(.tmp 103), (.tmp 104)]), (some (102, true)), []⟩,
    ⟨(some 106), (.pick (.tmp 102) (.tmp 105) (.const (.bool false))), none, []⟩,
    ⟨(some 107), (.move (.tmp 106)), none, []⟩,
    ⟨(some 108), (.move (.tmp 8)), (some (107, true)), []⟩,
    ⟨(some 109), (.build [(.int .i64 0), (.int .i64 0)] [(0, 1, (.const (.int .i64 1))), (1, 1, (.const (.int .i64 2)))]), (some (107, true)), []⟩,
    ⟨(some 110), (.build [(.int .i64 0), (.int .i64 0)] [(0, 1, (.const (.int .i64 2))), (1, 1, (.const (.int .i64 2)))]), (some (107, true)), []⟩,
    ⟨(some 111), (.build [(.int .i64 0), (.int .i64 0)] [(0, 1, (.const (.int .i64 1))), (1, 1, (.const (.int .i64 2)))]), (some (107, true)), []⟩,
    ⟨(some 112), (.build [(.int .i64 0), (.int .i64 0)] [(0, 1, (.const (.int .i64 1))), (1, 1, (.const (.int .i64 1)))]), (some (107, true)), []⟩,
    ⟨(some 113), (.buildSlice 4 (List.replicate 8 (.int .i64 0)) [(0, 2, (.tmp 109)), (2, 2, (.tmp 110)), (4, 2, (.tmp 111)), (6, 2, (.tmp 112))]), (some (107, true)), []⟩,
    ⟨(some 114), (.call (.func 13) [(.tmp 108), (.tmp 113)]), (some (107, true)), []⟩,
    ⟨(some 115), (.pick (.tmp 107) (.tmp 114) (.const (.bool false))), none, []⟩,
    ⟨(some 0), (.move (.tmp 115)), none, []⟩]))
  .ret))))))))))))
theorem t11 : trF Try.prog Try.f11 s11 = some s11 := by kernel_rfl
theorem k11 : okS s11 = true := by kernel_rfl
theorem r11 : resT Try.prog Try.f11.results.toList = some [.t 0] := by kernel_rfl

def s12 : S :=
  (.seq (.keep [0, 1] (.ops [⟨(some 4), (.move (.const (.slice none 0 0))), none, []⟩]))
  (.scope
    (.seq (.keep [0, 1, 5] (.ops [⟨(some 5), (.move (.const (.slice none 0 0))), none, []⟩]))
    (.seq (.keep [1, 5, 6] (.ops [⟨(some 10), (.buildSlice 0 [] []), none, []⟩,
      ⟨(some 11), (.move (.tmp 0)), none, []⟩,
      ⟨(some 12), (.append 3 24 (.tmp 10) (.tmp 11)), none, []⟩,
      ⟨(some 6), (.move (.tmp 12)), none, []⟩]))
    (.seq (.keep [1, 5, 6] (.label 0))
    (.seq (.keep [5] (.block 0
      (.loop
        (.keep [1, 5, 6] (.block 1
          (.seq (.keep [1, 5, 6, 7] (.ops [⟨(some 13), (.move (.tmp 5)), none, []⟩,
            ⟨(some 14), (.len (.tmp 13)), none, []⟩,
            ⟨(some 7), (.move (.tmp 14)), none, []⟩]))
          (.seq (.keep [1, 5, 6, 7] (.seq (.keep [1, 5, 6, 7, 16, 17] (.ops [⟨(some 15), (.move (.tmp 6)), none, []⟩,
            ⟨(some 16), (.len (.tmp 15)), none, []⟩,
            ⟨(some 17), (.move (.const (.int .i64 0))), none, []⟩]))
          (.block 2
            (.loop
              (.keep [1, 5, 6, 7, 16, 17] (.seq (.keep [1, 5, 6, 7, 16, 17, 18] (.ops [⟨(some 18), (.bin .lss (.tmp 17) (.tmp 16)), none, []⟩]))
              (.seq (.keep [1, 5, 6, 7, 16, 17] (.cond (.tmp 18)
                .skip
                (.exit 2)))
              (.seq (.keep [1, 5, 6, 7, 16, 17] (.block 3
                (.seq (.keep [1, 5, 6, 7, 8, 16, 17] (.ops [⟨(some 19), (.move (.tmp 17)), none, []⟩,
                  ⟨(some 8), (.move (.tmp 19)), none, []⟩]))
                (.seq (.keep [1, 5, 6, 7, 8, 9, 16, 17] (.ops [⟨(some 20), (.move (.tmp 6)), none, []⟩,
                  ⟨(some 21), (.move (.tmp 8)), none, []⟩,
                  ⟨(some 22), (.indexAddr 3 (.tmp 20) (.tmp 21)), none, []⟩,
                  ⟨(some 23), (.fieldAddr 1 (.tmp 22)), none, []⟩,
                  ⟨(some 24), (.load none (.tmp 23)), none, []⟩,
                  ⟨(some 25), (.move (.tmp 1)), none, []⟩,
                  ⟨(some 26), (.minmax false [(.tmp 24), (.tmp 25)]), none, []⟩,
                  ⟨(some 9), (.move (.tmp 26)), none, []⟩]))
                (.seq (.keep [1, 5, 6, 7, 8, 9, 16, 17] (.seq (.keep [1, 5, 6, 7, 8, 9, 16, 17, 28] (.ops [⟨(some 27), (.move (.tmp 9)), none, []⟩,
                  ⟨(some 28), (.bin .eql (.tmp 27) (.const (.int .i64 0))), none, []⟩]))
                (.cond (.tmp 28)
                  (.exit 3)
                  .skip)))
                (.seq (.keep [1, 5, 6, 7, 8, 9, 16, 17] (.ops [⟨(some 29), (.move (.tmp 6)), none, []⟩,
                  ⟨(some 30), (.move (.tmp 8)), none, []⟩,
                  ⟨(some 31), (.indexAddr 3 (.tmp 29) (.tmp 30)), none, []⟩,
                  ⟨(some 32), (.fieldAddr 1 (.tmp 31)), none, []⟩,
                  ⟨(some 33), (.load none (.tmp 32)), none, []⟩,
                  ⟨(some 34), (.move (.tmp 9)), none, []⟩,
                  ⟨(some 35), (.bin .sub (.tmp 33) (.tmp 34)), none, []⟩,
                  ⟨(some 36), (.indexAddr 3 (.tmp 29) (.tmp 30)), none, []⟩,
                  ⟨(some 37), (.fieldAddr 1 (.tmp 36)), none, []⟩,
                  ⟨none, (.store 1 (.tmp 37) (.tmp 35)), none, []⟩]))
                (.ops [⟨(some 38), (.move (.tmp 5)), none, []⟩,
                  ⟨(some 39), (.move (.tmp 6)), none, []⟩,
                  ⟨(some 40), (.move (.tmp 8)), none, []⟩,
                  ⟨(some 41), (.indexAddr 3 (.tmp 39) (.tmp 40)), none, []⟩,
                  ⟨(some 42), (.fieldAddr 0 (.tmp 41)), none, []⟩,
                  ⟨(some 43), (.load none (.tmp 42)), none, []⟩,
                  ⟨(some 44), (.move (.tmp 9)), none, []⟩,
                  ⟨(some 45), (.build [(.int .i64 0), (.int .i64 0)] [(0, 1, (.tmp 43)), (1, 1, (.tmp 44))]), none, []⟩,
                  ⟨(some 46), (.buildSlice 1 [(.int .i64 0), (.int .i64 0)] [(0, 2, (.tmp 45))]), none, []⟩,
                  ⟨(some 47), (.append 2 16 (.tmp 38) (.tmp 46)), none, []⟩,
                  ⟨(some 5), (.move (.tmp 47)), none, []⟩])))))))
              (.ops [⟨(some 48), (.bin .add (.tmp 17) (.const (.int .i64 1))), none, []⟩,
                ⟨(some 17), (.move (.tmp 48)), none, []⟩])))))))))
          (.seq (.keep [1, 5, 6, 52] (.ops [⟨(some 49), (.move (.tmp 5)), none, []⟩,
            ⟨(some 50), (.len (.tmp 49)), none, []⟩,
            ⟨(some 51), (.move (.tmp 7)), none, []⟩,
            ⟨(some 52), (.bin .eql (.tmp 50) (.tmp 51)), none, []⟩]))
          (.cond (.tmp 52)
            (.exit 0)
            .skip)))))))))
    (.seq (.keep [4] (.ops [⟨(some 53), (.move (.tmp 5)), none, []⟩,
      ⟨(some 4), (.move (.tmp 53)), none, []⟩]))
    .ret)))))))
theorem t12 : trF Try.prog Try.f12 s12 = some s12 := by kernel_rfl
theorem k12 : okS s12 = true := by kernel_rfl
theorem r12 : resT Try.prog Try.f12.results.toList = some [.t 4] := by kernel_rfl

def s13 : S :=
  (.seq (.keep [0, 1] (.ops [⟨(some 4), (.move (.const (.bool false))), none, []⟩]))
  (.seq (.keep [0, 1] (.seq (.keep [0, 1, 10] (.ops [⟨(some 6), (.move (.tmp 0)), none, []⟩,
    ⟨(some 7), (.len (.tmp 6)), none, []⟩,
    ⟨(some 8), (.move (.tmp 1)), none, []⟩,
    ⟨(some 9), (.len (.tmp 8)), none, []⟩,
    ⟨(some 10), (.bin .neq (.tmp 7) (.tmp 9)), none, []⟩]))
  (.cond (.tmp 10)
    (.seq (.keep [4] (.ops [⟨(some 4), (.move (.const (.bool false))), none, []⟩]))
    .ret)
    .skip)))
  (.seq (.keep [] (.seq (.keep [0, 1, 5] (.ops [⟨(some 5), (.move (.const (.int .i64 0))), none, []⟩]))
  (.block 0
    (.loop
      (.keep [0, 1, 5] (.seq (.keep [0, 1, 5] (.seq (.keep [0, 1, 5, 14] (.ops [⟨(some 11), (.move (.tmp 5)), none, []⟩,
        ⟨(some 12), (.move (.tmp 0)), none, []⟩,
        ⟨(some 13), (.len (.tmp 12)), none, []⟩,
        ⟨(some 14), (.bin .lss (.tmp 11) (.tmp 13)), none, []⟩]))
      (.cond (.tmp 14)
        .skip
        (.exit 0))))
      (.seq (.keep [0, 1, 5] (.block 1
        (.seq (.keep [0, 1, 5, 25] (.draw [0, 0, 3, 7, 0, 0, 48, 112, 255] [⟨0, 0, [], ⟨(some 17), (.move (.tmp 0)), none, []⟩⟩,
          ⟨1, 0, [], ⟨(some 18), (.move (.tmp 5)), none, []⟩⟩,
          ⟨2, 3, [], ⟨(some 19), (.indexAddr 2 (.tmp 17) (.tmp 18)), none, []⟩⟩,
          ⟨3, 7, [], ⟨(some 20), (.load (some 2) (.tmp 19)), none, []⟩⟩,
          ⟨4, 0, [], ⟨(some 21), (.move (.tmp 1)), none, []⟩⟩,
          ⟨5, 0, [], ⟨(some 22), (.move (.tmp 5)), none, []⟩⟩,
          ⟨6, 48, [], ⟨(some 23), (.indexAddr 2 (.tmp 21) (.tmp 22)), none, []⟩⟩,
          ⟨7, 112, [], ⟨(some 24), (.load (some 2) (.tmp 23)), none, []⟩⟩,
          ⟨8, 255, [], ⟨(some 25), (.eqAgg true [(.int .i64), (.int .i64)] (.tmp 20) (.tmp 24)), none, []⟩⟩]))
        (.cond (.tmp 25)
          (.seq (.keep [4] (.ops [⟨(some 4), (.move (.const (.bool false))), none, []⟩]))
          .ret)
          .skip))))
      (.ops [⟨(some 15), (.move (.tmp 5)), none, []⟩,
        ⟨(some 16), (.bin .add (.tmp 15) (.const (.int .i64 1))), none, []⟩,
        ⟨(some 5), (.move (.tmp 16)), none, []⟩]))))))))
  (.seq (.keep [4] (.ops [⟨(some 4), (.move (.const (.bool true))), none, []⟩]))
  .ret))))
theorem t13 : trF Try.prog Try.f13 s13 = some s13 := by kernel_rfl
theorem k13 : okS s13 = true := by kernel_rfl
theorem r13 : resT Try.prog Try.f13.results.toList = some [.t 4] := by kernel_rfl

def s14 : S :=
  (.seq (.keep [0, 1] (.ops [⟨(some 4), (.move (.const (.slice none 0 0))), none, []⟩]))
  (.seq (.keep [0, 1, 5] (.ops [⟨(some 5), (.move (.const (.slice none 0 0))), none, []⟩]))
  (.seq (.keep [0, 1, 5, 6] (.ops [⟨(some 10), (.buildSlice 0 [] []), none, []⟩,
    ⟨(some 11), (.move (.tmp 0)), none, []⟩,
    ⟨(some 12), (.append 3 24 (.tmp 10) (.tmp 11)), none, []⟩,
    ⟨(some 6), (.move (.tmp 12)), none, []⟩]))
  (.seq (.keep [1, 5, 6, 7] (.ops [⟨(some 13), (.move (.tmp 0)), none, []⟩,
    ⟨(some 14), (.move (.tmp 1)), none, []⟩,
    ⟨(some 15), (.call (.func 10) [(.tmp 13), (.tmp 14)]), none, []⟩,
    ⟨(some 7), (.move (.tmp 15)), none, []⟩]))
  (.seq (.keep [5] (.block 0
    (.loop
      (.keep [1, 5, 6, 7] (.seq (.keep [1, 5, 6, 7] (.seq (.keep [1, 5, 6, 7, 19] (.ops [⟨(some 16), (.move (.tmp 5)), none, []⟩,
        ⟨(some 17), (.len (.tmp 16)), none, []⟩,
        ⟨(some 18), (.move (.tmp 7)), none, []⟩,
        ⟨(some 19), (.bin .lss (.tmp 17) (.tmp 18)), none, []⟩]))
      (.cond (.tmp 19)
        .skip
        (.exit 0))))
      (.block 1
        (.seq (.keep [1, 5, 6, 7, 8] (.ops [⟨(some 8), (.move (.const (.int .i64 0))), none, []⟩]))
        (.block 2
          (.loop
            (.keep [1, 5, 6, 7, 8] (.seq (.keep [1, 5, 6, 7, 8] (.seq (.keep [1, 5, 6, 7, 8, 23] (.ops [⟨(some 20), (.move (.tmp 8)), none, []⟩,
              ⟨(some 21), (.move (.tmp 6)), none, []⟩,
              ⟨(some 22), (.len (.tmp 21)), none, []⟩,
              ⟨(some 23), (.bin .lss (.tmp 20) (.tmp 22)), none, []⟩]))
            (.cond (.tmp 23)
              .skip
              (.exit 2))))
            (.seq (.keep [1, 5, 6, 7, 8] (.block 3
              (.seq (.keep [1, 5, 6, 7, 8, 9] (.ops [⟨(some 26), (.move (.tmp 6)), none, []⟩,
                ⟨(some 27), (.move (.tmp 8)), none, []⟩,
                ⟨(some 28), (.indexAddr 3 (.tmp 26) (.tmp 27)), none, []⟩,
                ⟨(some 29), (.fieldAddr 1 (.tmp 28)), none, []⟩,
                ⟨(some 30), (.load none (.tmp 29)), none, []⟩,
                ⟨(some 31), (.move (.tmp 1)), none, []⟩,
                ⟨(some 32), (.minmax false [(.tmp 30), (.tmp 31)]), none, []⟩,
                ⟨(some 9), (.move (.tmp 32)), none, []⟩]))
              (.seq (.keep [1, 5, 6, 7, 8, 9, 34] (.ops [⟨(some 33), (.move (.tmp 9)), none, []⟩,
                ⟨(some 34), (.bin .gtr (.tmp 33) (.const (.int .i64 0))), none, []⟩]))
              (.cond (.tmp 34)
                (.seq (.keep [1, 5, 6, 7, 8, 9] (.ops [⟨(some 35), (.move (.tmp 5)), none, []⟩,
                  ⟨(some 36), (.move (.tmp 6)), none, []⟩,
                  ⟨(some 37), (.move (.tmp 8)), none, []⟩,
                  ⟨(some 38), (.indexAddr 3 (.tmp 36) (.tmp 37)), none, []⟩,
                  ⟨(some 39), (.fieldAddr 0 (.tmp 38)), none, []⟩,
                  ⟨(some 40), (.load none (.tmp 39)), none, []⟩,
                  ⟨(some 41), (.move (.tmp 9)), none, []⟩,
                  ⟨(some 42), (.build [(.int .i64 0), (.int .i64 0)] [(0, 1, (.tmp 40)), (1, 1, (.tmp 41))]), none, []⟩,
                  ⟨(some 43), (.buildSlice 1 [(.int .i64 0), (.int .i64 0)] [(0, 2, (.tmp 42))]), none, []⟩,
                  ⟨(some 44), (.append 2 16 (.tmp 35) (.tmp 43)), none, []⟩,
                  ⟨(some 5), (.move (.tmp 44)), none, []⟩]))
                (.ops [⟨(some 45), (.move (.tmp 6)), none, []⟩,
                  ⟨(some 46), (.move (.tmp 8)), none, []⟩,
                  ⟨(some 47), (.move (.tmp 6)), none, []⟩,
                  ⟨(some 48), (.move (.tmp 8)), none, []⟩,
                  ⟨(some 49), (.indexAddr 3 (.tmp 47) (.tmp 48)), none, []⟩,
                  ⟨(some 50), (.fieldAddr 1 (.tmp 49)), none, []⟩,
                  ⟨(some 51), (.load none (.tmp 50)), none, []⟩,
                  ⟨(some 52), (.move (.tmp 9)), none, []⟩,
                  ⟨(some 53), (.bin .sub (.tmp 51) (.tmp 52)), none, []⟩,
                  ⟨(some 54), (.indexAddr 3 (.tmp 45) (.tmp 46)), none, []⟩,
                  ⟨(some 55), (.fieldAddr 1 (.tmp 54)), none, []⟩,
                  ⟨none, (.store 1 (.tmp 55) (.tmp 53)), none, []⟩]))
                .skip)))))
            (.ops [⟨(some 24), (.move (.tmp 8)), none, []⟩,
              ⟨(some 25), (.bin .add (.tmp 24) (.const (.int .i64 1))), none, []⟩,
              ⟨(some 8), (.move (.tmp 25)), none, []⟩])))))))))))))
  (.seq (.keep [4] (.ops [⟨(some 56), (.move (.tmp 5)), none, []⟩,
    ⟨(some 4), (.move (.tmp 56)), none, []⟩]))
  .ret))))))
theorem t14 : trF Try.prog Try.f14 s14 = some s14 := by kernel_rfl
theorem k14 : okS s14 = true := by kernel_rfl
theorem r14 : resT Try.prog Try.f14.results.toList = some [.t 4] := by kernel_rfl

def s15 : S :=
  (.seq (.keep [0, 1, 2] (.ops [⟨(some 6), (.move (.const (.bool false))), none, []⟩]))
  (.seq (.keep [0, 1, 2] (.seq (.keep [0, 1, 2, 23] (.ops [⟨(some 9), (.move (.tmp 0)), none, []⟩,
    ⟨(some 10), (.call (.func 31) [(.tmp 9)]), none, []⟩,
    ⟨(some 11), (.un .not (.tmp 10)), none, []⟩,
    ⟨(some 12), (.move (.tmp 11)), none, []⟩,
    ⟨(some 13), (.move (.tmp 1)), (some (12, false)), []⟩,
    ⟨(some 14), (.len (.tmp 13)), (some (12, false)), []⟩,
    ⟨(some 15), (.bin .gtr (.tmp 14) (.const (.int .i64 32))), (some (12, false)), []⟩,
    ⟨(some 16), (.pick (.tmp 12) (.const (.bool true)) (.tmp 15)), none, []⟩,
    ⟨(some 17), (.move (.tmp 16)), none, []⟩,
    ⟨(some 18), (.move (.tmp 2)), (some (17, false)), []⟩,
    ⟨(some 19), (.len (.tmp 18)), (some (17, false)), []⟩,
    ⟨(some 20), (.move (.tmp 1)), (some (17, false)), []⟩,
    ⟨(some 21), (.len (.tmp 20)), (some (17, false)), []⟩,
    ⟨(some 22), (.bin .neq (.tmp 19) (.tmp 21)), (some (17, false)), []⟩,
    ⟨(some 23), (.pick (.tmp 17) (.const (.bool true)) (.tmp 22)), none, []⟩]))
  (.cond (.tmp 23)
    (.seq (.keep [6] (.ops [⟨(some 6), (.move (.const (.bool false))), none, []⟩]))
    .ret)
    .skip)))
  (.seq (.keep [0, 1, 2, 7] (.ops [⟨(some 7), (.move (.const (.int .i64 0))), none, []⟩]))
  (.seq (.keep [0, 7] (.seq (.keep [0, 1, 2, 7, 8] (.ops [⟨(some 8), (.move (.const (.int .i64 0))), none, []⟩]))
  (.block 0
    (.loop
      (.keep [0, 1, 2, 7, 8] (.seq (.keep [0, 1, 2, 7, 8] (.seq (.keep [0, 1, 2, 7, 8, 27] (.ops [⟨(some 24), (.move (.tmp 8)), none, []⟩,
        ⟨(some 25), (.move (.tmp 1)), none, []⟩,
        ⟨(some 26), (.len (.tmp 25)), none, []⟩,
        ⟨(some 27), (.bin .lss (.tmp 24) (.tmp 26)), none, []⟩]))
      (.cond (.tmp 27)
        .skip
        (.exit 0))))
      (.seq (.keep [0, 1, 2, 7, 8] (.block 1
        (.seq (.keep [0, 1, 2, 7, 8] (.seq (.keep [0, 1, 2, 7, 8, 43] (.ops [⟨(some 30), (.move (.tmp 1)), none, []⟩,
          ⟨(some 31), (.move (.tmp 8)), none, []⟩,
          ⟨(some 32), (.indexAddr 3 (.tmp 30) (.tmp 31)), none, []⟩,
          ⟨(some 33), (.load (some 3) (.tmp 32)), none, []⟩,
          ⟨(some 34), (.call (.func 19) [(.tmp 33)]), none, []⟩,
          ⟨(some 35), (.un .not (.tmp 34)), none, []⟩,
          ⟨(some 36), (.move (.tmp 35)), none, []⟩,
          ⟨(some 37), (.move (.tmp 2)), (some (36, false)), []⟩,
          ⟨(some 38), (.move (.tmp 8)), (some (36, false)), []⟩,
          ⟨(some 39), (.indexAddr 1 (.tmp 37) (.tmp 38)), (some (36, false)), []⟩,
          ⟨(some 40), (.load none (.tmp 39)), (some (36, false)), []⟩,
          ⟨(some 41), (.call (.func 31) [(.tmp 40)]), (some (36, false)), []⟩,
          ⟨(some 42), (.un .not (.tmp 41)), (some (36, false)), []⟩,
          ⟨(some 43), (.pick (.tmp 36) (.const (.bool true)) (.tmp 42)), none, []⟩]))
        (.cond (.tmp 43)
          (.seq (.keep [6] (.ops [⟨(some 6), (.move (.const (.bool false))), none, []⟩]))
          .ret)
          .skip)))
        (.ops [⟨(some 44), (.move (.tmp 7)), none, []⟩,
          ⟨(some 45), (.move (.tmp 1)), none, []⟩,
          ⟨(some 46), (.move (.tmp 8)), none, []⟩,
          ⟨(some 47), (.indexAddr 3 (.tmp 45) (.tmp 46)), none, []⟩,
          ⟨(some 48), (.fieldAddr 0 (.tmp 47)), none, []⟩,
          ⟨(some 49), (.load none (.tmp 48)), none, []⟩,
          ⟨(some 50), (.bin .add (.tmp 44) (.tmp 49)), none, []⟩,
          ⟨(some 7), (.move (.tmp 50)), none, []⟩]))))
      (.ops [⟨(some 28), (.move (.tmp 8)), none, []⟩,
        ⟨(some 29), (.bin .add (.tmp 28) (.const (.int .i64 1))), none, []⟩,
        ⟨(some 8), (.move (.tmp 29)), none, []⟩]))))))))
  (.seq (.keep [6] (.ops [⟨(some 51), (.move (.tmp 7)), none, []⟩,
    ⟨(some 52), (.move (.tmp 0)), none, []⟩,
    ⟨(some 53), (.bin .leq (.tmp 51) (.tmp 52)), none, []⟩,
    ⟨(some 6), (.move (.tmp 53)), none, []⟩]))
  .ret)))))
theorem t15 : trF Try.prog Try.f15 s15 = some s15 := by kernel_rfl
theorem k15 : okS s15 = true := by kernel_rfl
theorem r15 : resT Try.prog Try.f15.results.toList = some [.t 6] := by kernel_rfl

def s16 : S :=
  (.seq (.keep [1, 2, 3] (.ops [⟨(some 3), (.box (.tmp 0)), none, []⟩,
    ⟨(some 6), (.move (.const (.slice none 0 0))), none, []⟩]))
  (.seq (.keep [1, 2, 3, 7] (.ops [⟨(some 18), (.move (.tmp 1)), none, []⟩,
    ⟨(some 19), (.len (.tmp 18)), none, []⟩,
    ⟨(some 20), (.makeSlice 24 [(.int .i64 0), (.int .i64 0), (.int .i64 0)] (.tmp 19) (.tmp 19)), none, []⟩,
    ⟨(some 7), (.alloc (.slice none 0 0)), none, []⟩,
    ⟨none, (.store 1 (.tmp 7) (.tmp 20)), none, []⟩]))
  (.seq (.keep [1, 3, 7] (.seq (.keep [1, 2, 3, 7, 21, 22, 23] (.ops [⟨(some 21), (.move (.tmp 1)), none, []⟩,
    ⟨(some 22), (.len (.tmp 21)), none, []⟩,
    ⟨(some 23), (.move (.const (.int .i64 0))), none, []⟩]))
  (.block 0
    (.loop
      (.keep [1, 2, 3, 7, 21, 22, 23] (.seq (.keep [1, 2, 3, 7, 21, 22, 23, 24] (.ops [⟨(some 24), (.bin .lss (.tmp 23) (.tmp 22)), none, []⟩]))
      (.seq (.keep [1, 2, 3, 7, 21, 22, 23] (.cond (.tmp 24)
        .skip
        (.exit 0)))
      (.seq (.keep [1, 2, 3, 7, 21, 22, 23] (.block 1
        (.seq (.keep [1, 2, 3, 7, 8, 9, 21, 22, 23] (.ops [⟨(some 25), (.move (.tmp 23)), none, []⟩,
          ⟨(some 26), (.indexAddr 3 (.tmp 21) (.tmp 23)), none, []⟩,
          ⟨(some 27), (.load (some 3) (.tmp 26)), none, []⟩,
          ⟨(some 9), (.alloc (.agg #[(.int .i64 0), (.int .i64 0), (.int .i64 0)])), none, []⟩,
          ⟨(some 8), (.move (.tmp 25)), none, []⟩,
          ⟨none, (.store 3 (.tmp 9) (.tmp 27)), none, []⟩]))
        (.draw [0, 0, 0, 4, 0, 0, 48, 112, 252, 0, 512, 0, 0, 6144, 14336, 32256, 0, 65536, 262140, 524287, 1048575] [⟨0, 0, [], ⟨(some 28), (.load none (.tmp 7)), none, []⟩⟩,
          ⟨1, 0, [], ⟨(some 29), (.move (.tmp 8)), none, []⟩⟩,
          ⟨2, 0, [], ⟨(some 30), (.fieldAddr 0 (.tmp 9)), none, []⟩⟩,
          ⟨3, 4, [], ⟨(some 31), (.load none (.tmp 30)), none, []⟩⟩,
          ⟨4, 0, [], ⟨(some 32), (.move (.tmp 2)), none, []⟩⟩,
          ⟨5, 0, [], ⟨(some 33), (.move (.tmp 8)), none, []⟩⟩,
          ⟨6, 48, [], ⟨(some 34), (.indexAddr 1 (.tmp 32) (.tmp 33)), none, []⟩⟩,
          ⟨7, 112, [], ⟨(some 35), (.load none (.tmp 34)), none, []⟩⟩,
          ⟨8, 252, [], ⟨(some 36), (.minmax false [(.tmp 31), (.tmp 35)]), none, []⟩⟩,
          ⟨9, 0, [], ⟨(some 37), (.fieldAddr 1 (.tmp 9)), none, []⟩⟩,
          ⟨10, 512, [], ⟨(some 38), (.load none (.tmp 37)), none, []⟩⟩,
          ⟨11, 0, [], ⟨(some 39), (.move (.tmp 2)), none, []⟩⟩,
          ⟨12, 0, [], ⟨(some 40), (.move (.tmp 8)), none, []⟩⟩,
          ⟨13, 6144, [], ⟨(some 41), (.indexAddr 1 (.tmp 39) (.tmp 40)), none, []⟩⟩,
          ⟨14, 14336, [], ⟨(some 42), (.load none (.tmp 41)), none, []⟩⟩,
          ⟨15, 32256, [], ⟨(some 43), (.minmax false [(.tmp 38), (.tmp 42)]), none, []⟩⟩,
          ⟨16, 0, [], ⟨(some 44), (.fieldAddr 2 (.tmp 9)), none, []⟩⟩,
          ⟨17, 65536, [], ⟨(some 45), (.load none (.tmp 44)), none, []⟩⟩,
          ⟨18, 262140, [], ⟨(some 46), (.build [(.int .i64 0), (.int .i64 0), (.int .i64 0)] [(0, 1, (.tmp 36)), (1, 1, (.tmp 43)), (2, 1, (.tmp 45))]), none, []⟩⟩,
          ⟨19, 524287, [], ⟨(some 47), (.indexAddr 3 (.tmp 28) (.tmp 29)), none, []⟩⟩,
          ⟨20, 1048575, [], ⟨none, (.store 3 (.tmp 47) (.tmp 46)), none, []⟩⟩]))))
      (.ops [⟨(some 48), (.bin .add (.tmp 23) (.const (.int .i64 1))), none, []⟩,
        ⟨(some 23), (.move (.tmp 48)), none, []⟩])))))))))
  (.seq (.keep [1, 3, 7, 10] (.ops [⟨(some 49), (.makeFunc (.func 32) [] [(.tmp 7)]), none, []⟩,
    ⟨(some 10), (.alloc .nilFunc), none, []⟩,
    ⟨none, (.store 1 (.tmp 10) (.tmp 49)), none, []⟩]))
  (.seq (.keep [1, 3, 7, 10, 11] (.ops [⟨(some 50), (.makeFunc (.func 37) [] [(.tmp 10), (.tmp 3)]), none, []⟩,
    ⟨(some 51), (.call (.func 36) [(.const (.int .i64 1073741824)), (.tmp 50)]), none, []⟩,
    ⟨(some 11), (.move (.tmp 51)), none, []⟩]))
  (.seq (.keep [1, 7, 11, 12] (.draw [0, 0, 0, 6, 15, 31] [⟨0, 0, [], ⟨(some 52), (.load none (.tmp 3)), none, []⟩⟩,
    ⟨1, 0, [], ⟨(some 53), (.load none (.tmp 10)), none, []⟩⟩,
    ⟨2, 0, [], ⟨(some 54), (.move (.tmp 11)), none, []⟩⟩,
    ⟨3, 6, [0], ⟨(some 55), (.call (.tmp 53) [(.tmp 54)]), none, [((.load none (.tmp 3)), none, (some 52))]⟩⟩,
    ⟨4, 15, [], ⟨(some 56), (.bin .sub (.tmp 52) (.tmp 55)), none, []⟩⟩,
    ⟨5, 31, [], ⟨(some 12), (.move (.tmp 56)), none, []⟩⟩]))
  (.seq (.keep [7, 11, 12, 13] (.ops [⟨(some 57), (.move (.tmp 1)), none, []⟩,
    ⟨(some 58), (.len (.tmp 57)), none, []⟩,
    ⟨(some 59), (.makeSlice 8 [(.int .i64 0)] (.tmp 58) (.tmp 58)), none, []⟩,
    ⟨(some 13), (.move (.tmp 59)), none, []⟩]))
  (.seq (.keep [13] (.seq (.keep [11, 12, 13, 60, 61, 62] (.ops [⟨(some 60), (.load none (.tmp 7)), none, []⟩,
    ⟨(some 61), (.len (.tmp 60)), none, []⟩,
    ⟨(some 62), (.move (.const (.int .i64 0))), none, []⟩]))
  (.block 2
    (.loop
      (.keep [11, 12, 13, 60, 61, 62] (.seq (.keep [11, 12, 13, 60, 61, 62, 63] (.ops [⟨(some 63), (.bin .lss (.tmp 62) (.tmp 61)), none, []⟩]))
      (.seq (.keep [11, 12, 13, 60, 61, 62] (.cond (.tmp 63)
        .skip
        (.exit 2)))
      (.seq (.keep [11, 12, 13, 60, 61, 62] (.block 3
        (.seq (.keep [11, 12, 13, 14, 15, 60, 61, 62] (.ops [⟨(some 64), (.move (.tmp 62)), none, []⟩,
          ⟨(some 65), (.indexAddr 3 (.tmp 60) (.tmp 62)), none, []⟩,
          ⟨(some 66), (.load (some 3) (.tmp 65)), none, []⟩,
          ⟨(some 15), (.alloc (.agg #[(.int .i64 0), (.int .i64 0), (.int .i64 0)])), none, []⟩,
          ⟨(some 14), (.move (.tmp 64)), none, []⟩,
          ⟨none, (.store 3 (.tmp 15) (.tmp 66)), none, []⟩]))
        (.seq (.keep [11, 12, 13, 14, 15, 16, 60, 61, 62] (.ops [⟨(some 67), (.load (some 3) (.tmp 15)), none, []⟩,
          ⟨(some 68), (.move (.tmp 11)), none, []⟩,
          ⟨(some 69), (.call (.func 35) [(.tmp 67), (.tmp 68)]), none, []⟩,
          ⟨(some 16), (.move (.tmp 69)), none, []⟩]))
        (.seq (.keep [11, 12, 13, 14, 16, 17, 60, 61, 62] (.ops [⟨(some 70), (.move (.tmp 12)), none, []⟩,
          ⟨(some 71), (.load (some 3) (.tmp 15)), none, []⟩,
          ⟨(some 72), (.move (.tmp 11)), none, []⟩,
          ⟨(some 73), (.bin .add (.tmp 72) (.const (.int .i64 1))), none, []⟩,
          ⟨(some 74), (.call (.func 35) [(.tmp 71), (.tmp 73)]), none, []⟩,
          ⟨(some 75), (.move (.tmp 16)), none, []⟩,
          ⟨(some 76), (.bin .sub (.tmp 74) (.tmp 75)), none, []⟩,
          ⟨(some 77), (.minmax false [(.tmp 70), (.tmp 76)]), none, []⟩,
          ⟨(some 17), (.move (.tmp 77)), none, []⟩]))
        (.ops [⟨(some 78), (.move (.tmp 13)), none, []⟩,
          ⟨(some 79), (.move (.tmp 14)), none, []⟩,
          ⟨(some 80), (.move (.tmp 16)), none, []⟩,
          ⟨(some 81), (.move (.tmp 17)), none, []⟩,
          ⟨(some 82), (.bin .add (.tmp 80) (.tmp 81)), none, []⟩,
          ⟨(some 83), (.move (.tmp 12)), none, []⟩,
          ⟨(some 84), (.move (.tmp 17)), none, []⟩,
          ⟨(some 85), (.bin .sub (.tmp 83) (.tmp 84)), none, []⟩,
          ⟨(some 86), (.indexAddr 1 (.tmp 78) (.tmp 79)), none, []⟩,
          ⟨none, (.store 1 (.tmp 86) (.tmp 82)), none, []⟩,
          ⟨(some 12), (.move (.tmp 85)), none, []⟩]))))))
      (.ops [⟨(some 87), (.bin .add (.tmp 62) (.const (.int .i64 1))), none, []⟩,
        ⟨(some 62), (.move (.tmp 87)), none, []⟩])))))))))
  (.seq (.keep [6] (.ops [⟨(some 88), (.move (.tmp 13)), none, []⟩,
    ⟨(some 6), (.move (.tmp 88)), none, []⟩]))
  .ret)))))))))
theorem t16 : trF Try.prog Try.f16 s16 = some s16 := by kernel_rfl
theorem k16 : okS s16 = true := by kernel_rfl
theorem r16 : resT Try.prog Try.f16.results.toList = some [.t 6] := by kernel_rfl

def s17 : S :=
  (.seq (.keep [0, 1] (.ops [⟨(some 4), (.move (.const (.bool false))), none, []⟩]))
  (.seq (.keep [0, 1] (.seq (.keep [0, 1, 10] (.ops [⟨(some 6), (.move (.tmp 0)), none, []⟩,
    ⟨(some 7), (.len (.tmp 6)), none, []⟩,
    ⟨(some 8), (.move (.tmp 1)), none, []⟩,
    ⟨(some 9), (.len (.tmp 8)), none, []⟩,
    ⟨(some 10), (.bin .neq (.tmp 7) (.tmp 9)), none, []⟩]))
  (.cond (.tmp 10)
    (.seq (.keep [4] (.ops [⟨(some 4), (.move (.const (.bool false))), none, []⟩]))
    .ret)
    .skip)))
  (.seq (.keep [] (.seq (.keep [0, 1, 5] (.ops [⟨(some 5), (.move (.const (.int .i64 0))), none, []⟩]))
  (.block 0
    (.loop
      (.keep [0, 1, 5] (.seq (.keep [0, 1, 5] (.seq (.keep [0, 1, 5, 14] (.ops [⟨(some 11), (.move (.tmp 5)), none, []⟩,
        ⟨(some 12), (.move (.tmp 0)), none, []⟩,
        ⟨(some 13), (.len (.tmp 12)), none, []⟩,
        ⟨(some 14), (.bin .lss (.tmp 11) (.tmp 13)), none, []⟩]))
      (.cond (.tmp 14)
        .skip
        (.exit 0))))
      (.seq (.keep [0, 1, 5] (.block 1
        (.seq (.keep [0, 1, 5, 25] (.draw [0, 0, 3, 7, 0, 0, 48, 112, 255] [⟨0, 0, [], ⟨(some 17), (.move (.tmp 0)), none, []⟩⟩,
          ⟨1, 0, [], ⟨(some 18), (.move (.tmp 5)), none, []⟩⟩,
          ⟨2, 3, [], ⟨(some 19), (.indexAddr 1 (.tmp 17) (.tmp 18)), none, []⟩⟩,
          ⟨3, 7, [], ⟨(some 20), (.load none (.tmp 19)), none, []⟩⟩,
          ⟨4, 0, [], ⟨(some 21), (.move (.tmp 1)), none, []⟩⟩,
          ⟨5, 0, [], ⟨(some 22), (.move (.tmp 5)), none, []⟩⟩,
          ⟨6, 48, [], ⟨(some 23), (.indexAddr 1 (.tmp 21) (.tmp 22)), none, []⟩⟩,
          ⟨7, 112, [], ⟨(some 24), (.load none (.tmp 23)), none, []⟩⟩,
          ⟨8, 255, [], ⟨(some 25), (.bin .neq (.tmp 20) (.tmp 24)), none, []⟩⟩]))
        (.cond (.tmp 25)
          (.seq (.keep [4] (.ops [⟨(some 4), (.move (.const (.bool false))), none, []⟩]))
          .ret)
          .skip))))
      (.ops [⟨(some 15), (.move (.tmp 5)), none, []⟩,
        ⟨(some 16), (.bin .add (.tmp 15) (.const (.int .i64 1))), none, []⟩,
        ⟨(some 5), (.move (.tmp 16)), none, []⟩]))))))))
  (.seq (.keep [4] (.ops [⟨(some 4), (.move (.const (.bool true))), none, []⟩]))
  .ret))))
theorem t17 : trF Try.prog Try.f17 s17 = some s17 := by kernel_rfl
theorem k17 : okS s17 = true := by kernel_rfl
theorem r17 : resT Try.prog Try.f17.results.toList = some [.t 4] := by kernel_rfl

def s18 : S :=
  (.seq (.keep [1] (.ops [⟨(some 1), (.box (.tmp 0)), none, []⟩,
    ⟨(some 2), (.move (.const (.bool false))), none, []⟩]))
  (.seq (.keep [2] (.ops [⟨(some 3), (.fieldAddr 0 (.tmp 1)), none, []⟩,
    ⟨(some 4), (.load none (.tmp 3)), none, []⟩,
    ⟨(some 5), (.bin .leq (.const (.int .i64 0)) (.tmp 4)), none, []⟩,
    ⟨(some 6), (.move (.tmp 5)), none, []⟩,
    ⟨(some 7), (.fieldAddr 0 (.tmp 1)), (some (6, true)), []⟩,
    ⟨(some 8), (.load none (.tmp 7)), (some (6, true)), []⟩,
    ⟨(some 9), (.fieldAddr 1 (.tmp 1)), (some (6, true)), []⟩,
    ⟨(some 10), (.load none (.tmp 9)), (some (6, true)), []⟩,
    ⟨(some 11), (.bin .leq (.tmp 8) (.tmp 10)), (some (6, true)), []⟩,
    ⟨(some 12), (.pick (.tmp 6) (.tmp 11) (.const (.bool false))), none, []⟩,
    ⟨(some 13), (.move (.tmp 12)), none, []⟩,
    ⟨(some 14), (.fieldAddr 1 (.tmp 1)), (some (13, true)), []⟩,
    ⟨(some 15), (.load none (.tmp 14)), (some (13, true)), []⟩,
    ⟨(some 16), (.bin .leq (.tmp 15) (.const (.int .i64 1073741824))), (some (13, true)), []⟩,
    ⟨(some 17), (.pick (.tmp 13) (.tmp 16) (.const (.bool false))), none, []⟩,
    ⟨(some 18), (.move (.tmp 17)), none, []⟩,
    ⟨(some 19), (.fieldAddr 2 (.tmp 1)), (some (18, true)), []⟩,
    ⟨(some 20), (.load none (.tmp 19)), (some (18, true)), []⟩,
    ⟨(some 21), (.bin .geq (.tmp 20) (.const (.int .i64 1))), (some (18, true)), []⟩,
    ⟨(some 22), (.pick (.tmp 18) (.tmp 21) (.const (.bool false))), none, []⟩,
    ⟨(some 23), (.move (.tmp 22)), none, []⟩,
    ⟨(some 24), (.fieldAddr 2 (.tmp 1)), (some (23, true)), []⟩,
    ⟨(some 25), (.load none (.tmp 24)), (some (23, true)), []⟩,
    ⟨(some 26), (.bin .leq (.tmp 25) (.const (.int .i64 1000))), (some (23, true)), []⟩,
    ⟨(some 27), (.pick (.tmp 23) (.tmp 26) (.const (.bool false))), none, []⟩,
    ⟨(some 2), (.move (.tmp 27)), none, []⟩]))
  .ret))
theorem t18 : trF Try.prog Try.f18 s18 = some s18 := by kernel_rfl
theorem k18 : okS s18 = true := by kernel_rfl
theorem r18 : resT Try.prog Try.f18.results.toList = some [.t 2] := by kernel_rfl

def s19 : S :=
  (.seq (.keep [1] (.ops [⟨(some 1), (.box (.tmp 0)), none, []⟩,
    ⟨(some 2), (.move (.const (.bool false))), none, []⟩]))
  (.seq (.keep [2] (.ops [⟨(some 3), (.fieldAddr 0 (.tmp 1)), none, []⟩,
    ⟨(some 4), (.load none (.tmp 3)), none, []⟩,
    ⟨(some 5), (.bin .geq (.tmp 4) (.const (.int .i64 0))), none, []⟩,
    ⟨(some 6), (.move (.tmp 5)), none, []⟩,
    ⟨(some 7), (.fieldAddr 0 (.tmp 1)), (some (6, true)), []⟩,
    ⟨(some 8), (.load none (.tmp 7)), (some (6, true)), []⟩,
    ⟨(some 9), (.fieldAddr 1 (.tmp 1)), (some (6, true)), []⟩,
    ⟨(some 10), (.load none (.tmp 9)), (some (6, true)), []⟩,
    ⟨(some 11), (.bin .leq (.tmp 8) (.tmp 10)), (some (6, true)), []⟩,
    ⟨(some 12), (.pick (.tmp 6) (.tmp 11) (.const (.bool false))), none, []⟩,
    ⟨(some 13), (.move (.tmp 12)), none, []⟩,
    ⟨(some 14), (.fieldAddr 1 (.tmp 1)), (some (13, true)), []⟩,
    ⟨(some 15), (.load none (.tmp 14)), (some (13, true)), []⟩,
    ⟨(some 16), (.bin .leq (.tmp 15) (.const (.int .i64 1073741824))), (some (13, true)), []⟩,
    ⟨(some 17), (.pick (.tmp 13) (.tmp 16) (.const (.bool false))), none, []⟩,
    ⟨(some 18), (.move (.tmp 17)), none, []⟩,
    ⟨(some 19), (.fieldAddr 2 (.tmp 1)), (some (18, true)), []⟩,
    ⟨(some 20), (.load none (.tmp 19)), (some (18, true)), []⟩,
    ⟨(some 21), (.bin .geq (.tmp 20) (.const (.int .i64 1))), (some (18, true)), []⟩,
    ⟨(some 22), (.pick (.tmp 18) (.tmp 21) (.const (.bool false))), none, []⟩,
    ⟨(some 23), (.move (.tmp 22)), none, []⟩,
    ⟨(some 24), (.fieldAddr 2 (.tmp 1)), (some (23, true)), []⟩,
    ⟨(some 25), (.load none (.tmp 24)), (some (23, true)), []⟩,
    ⟨(some 26), (.bin .leq (.tmp 25) (.const (.int .i64 1000))), (some (23, true)), []⟩,
    ⟨(some 27), (.pick (.tmp 23) (.tmp 26) (.const (.bool false))), none, []⟩,
    ⟨(some 2), (.move (.tmp 27)), none, []⟩]))
  .ret))
theorem t19 : trF Try.prog Try.f19 s19 = some s19 := by kernel_rfl
theorem k19 : okS s19 = true := by kernel_rfl
theorem r19 : resT Try.prog Try.f19.results.toList = some [.t 2] := by kernel_rfl

def s20 : S :=
  (.seq (.keep [1] (.ops [⟨(some 1), (.box (.tmp 0)), none, []⟩,
    ⟨(some 2), (.move (.const (.bool false))), none, []⟩]))
  (.seq (.keep [1] (.seq (.keep [1, 27] (.ops [⟨(some 8), (.fieldAddr 0 (.tmp 1)), none, []⟩,
    ⟨(some 9), (.load none (.tmp 8)), none, []⟩,
    ⟨(some 10), (.fieldAddr 1 (.tmp 1)), none, []⟩,
    ⟨(some 11), (.load none (.tmp 10)), none, []⟩,
    ⟨(some 12), (.minmax false [(.tmp 9), (.tmp 11)]), none, []⟩,
    ⟨(some 13), (.bin .lss (.tmp 12) (.const (.int .i64 0))), none, []⟩,
    ⟨(some 14), (.move (.tmp 13)), none, []⟩,
    ⟨(some 15), (.fieldAddr 0 (.tmp 1)), (some (14, false)), []⟩,
    ⟨(some 16), (.load none (.tmp 15)), (some (14, false)), []⟩,
    ⟨(some 17), (.fieldAddr 1 (.tmp 1)), (some (14, false)), []⟩,
    ⟨(some 18), (.load none (.tmp 17)), (some (14, false)), []⟩,
    ⟨(some 19), (.minmax true [(.tmp 16), (.tmp 18)]), (some (14, false)), []⟩,
    ⟨(some 20), (.bin .gtr (.tmp 19) (.const (.int .i64 1073741824))), (some (14, false)), []⟩,
    ⟨(some 21), (.pick (.tmp 14) (.const (.bool true)) (.tmp 20)), none, []⟩,
    ⟨(some 22), (.move (.tmp 21)), none, []⟩,
    ⟨(some 23), (.fieldAddr 2 (.tmp 1)), (some (22, false)), []⟩,
    ⟨(some 24), (.load none (.tmp 23)), (some (22, false)), []⟩,
    ⟨(some 25), (.len (.tmp 24)), (some (22, false)), []⟩,
    ⟨(some 26), (.bin .gtr (.tmp 25) (.const (.int .i64 32))), (some (22, false)), []⟩,
    ⟨(some 27), (.pick (.tmp 22) (.const (.bool true)) (.tmp 26)), none, []⟩]))
  (.cond (.tmp 27)
    (.seq (.keep [2] (.ops [⟨(some 2), (.move (.const (.bool false))), none, []⟩]))
    .ret)
    .skip)))
  (.seq (.keep [1, 3] (.ops [⟨(some 3), (.move (.const (.int .i64 0))), none, []⟩]))
  (.seq (.keep [1] (.seq (.keep [1, 3, 29, 30, 31] (.ops [⟨(some 28), (.fieldAddr 2 (.tmp 1)), none, []⟩,
    ⟨(some 29), (.load none (.tmp 28)), none, []⟩,
    ⟨(some 30), (.len (.tmp 29)), none, []⟩,
    ⟨(some 31), (.move (.const (.int .i64 0))), none, []⟩]))
  (.block 0
    (.loop
      (.keep [1, 3, 29, 30, 31] (.seq (.keep [1, 3, 29, 30, 31, 32] (.ops [⟨(some 32), (.bin .lss (.tmp 31) (.tmp 30)), none, []⟩]))
      (.seq (.keep [1, 3, 29, 30, 31] (.cond (.tmp 32)
        .skip
        (.exit 0)))
      (.seq (.keep [1, 3, 29, 30, 31] (.block 1
        (.seq (.keep [1, 3, 5, 29, 30, 31] (.ops [⟨(some 33), (.indexAddr 7 (.tmp 29) (.tmp 31)), none, []⟩,
          ⟨(some 34), (.load (some 7) (.tmp 33)), none, []⟩,
          ⟨(some 5), (.alloc (.agg (List.replicate 7 (.int .i64 0)).toArray)), none, []⟩,
          ⟨none, (.store 7 (.tmp 5) (.tmp 34)), none, []⟩]))
        (.seq (.keep [1, 5, 29, 30, 31] (.seq (.keep [1, 5, 29, 30, 31, 50] (.ops [⟨(some 35), (.fieldAddr 0 (.tmp 5)), none, []⟩,
          ⟨(some 36), (.load none (.tmp 35)), none, []⟩,
          ⟨(some 37), (.move (.tmp 3)), none, []⟩,
          ⟨(some 38), (.bin .leq (.tmp 36) (.tmp 37)), none, []⟩,
          ⟨(some 39), (.move (.tmp 38)), none, []⟩,
          ⟨(some 40), (.fieldAddr 1 (.tmp 5)), (some (39, false)), []⟩,
          ⟨(some 41), (.load (some 3) (.tmp 40)), (some (39, false)), []⟩,
          ⟨(some 42), (.call (.func 18) [(.tmp 41)]), (some (39, false)), []⟩,
          ⟨(some 43), (.un .not (.tmp 42)), (some (39, false)), []⟩,
          ⟨(some 44), (.pick (.tmp 39) (.const (.bool true)) (.tmp 43)), none, []⟩,
          ⟨(some 45), (.move (.tmp 44)), none, []⟩,
          ⟨(some 46), (.fieldAddr 4 (.tmp 5)), (some (45, false)), []⟩,
          ⟨(some 47), (.load (some 3) (.tmp 46)), (some (45, false)), []⟩,
          ⟨(some 48), (.call (.func 18) [(.tmp 47)]), (some (45, false)), []⟩,
          ⟨(some 49), (.un .not (.tmp 48)), (some (45, false)), []⟩,
          ⟨(some 50), (.pick (.tmp 45) (.const (.bool true)) (.tmp 49)), none, []⟩]))
        (.cond (.tmp 50)
          (.seq (.keep [2] (.ops [⟨(some 2), (.move (.const (.bool false))), none, []⟩]))
          .ret)
          .skip)))
        (.ops [⟨(some 51), (.fieldAddr 0 (.tmp 5)), none, []⟩,
          ⟨(some 52), (.load none (.tmp 51)), none, []⟩,
          ⟨(some 3), (.move (.tmp 52)), none, []⟩])))))
      (.ops [⟨(some 53), (.bin .add (.tmp 31) (.const (.int .i64 1))), none, []⟩,
        ⟨(some 31), (.move (.tmp 53)), none, []⟩])))))))))
  (.seq (.keep [1, 6] (.ops [⟨(some 54), (.fieldAddr 2 (.tmp 1)), none, []⟩,
    ⟨(some 55), (.load none (.tmp 54)), none, []⟩,
    ⟨(some 56), (.call (.func 38) [(.tmp 55), (.func 39)]), none, []⟩,
    ⟨(some 6), (.move (.tmp 56)), none, []⟩]))
  (.seq (.keep [1, 6, 7] (.ops [⟨(some 57), (.fieldAddr 2 (.tmp 1)), none, []⟩,
    ⟨(some 58), (.load none (.tmp 57)), none, []⟩,
    ⟨(some 59), (.call (.func 38) [(.tmp 58), (.func 40)]), none, []⟩,
    ⟨(some 7), (.move (.tmp 59)), none, []⟩]))
  (.seq (.keep [2] (.ops [⟨(some 60), (.move (.tmp 6)), none, []⟩,
    ⟨(some 61), (.fieldAddr 0 (.tmp 1)), none, []⟩,
    ⟨(some 62), (.load none (.tmp 61)), none, []⟩,
    ⟨(some 63), (.bin .leq (.tmp 60) (.tmp 62)), none, []⟩,
    ⟨(some 64), (.move (.tmp 63)), none, []⟩,
    ⟨(some 65), (.move (.tmp 7)), (some (64, true)), []⟩,
    ⟨(some 66), (.fieldAddr 1 (.tmp 1)), (some (64, true)), []⟩,
    ⟨(some 67), (.load none (.tmp 66)), (some (64, true)), []⟩,
    ⟨(some 68), (.bin .leq (.tmp 65) (.tmp 67)), (some (64, true)), []⟩,
    ⟨(some 69), (.pick (.tmp 64) (.tmp 68) (.const (.bool false))), none, []⟩,
    ⟨(some 2), (.move (.tmp 69)), none, []⟩]))
  .ret)))))))
theorem t20 : trF Try.prog Try.f20 s20 = some s20 := by kernel_rfl
theorem k20 : okS s20 = true := by kernel_rfl
theorem r20 : resT Try.prog Try.f20.results.toList = some [.t 2] := by kernel_rfl

def s21 : S :=
  (.seq (.keep [1] (.ops [⟨(some 1), (.box (.tmp 0)), none, []⟩,
    ⟨(some 2), (.move (.const (.bool false))), none, []⟩]))
  (.seq (.keep [1] (.seq (.keep [1, 22] (.ops [⟨(some 7), (.fieldAddr 0 (.tmp 1)), none, []⟩,
    ⟨(some 8), (.load none (.tmp 7)), none, []⟩,
    ⟨(some 9), (.call (.func 31) [(.tmp 8)]), none, []⟩,
    ⟨(some 10), (.un .not (.tmp 9)), none, []⟩,
    ⟨(some 11), (.move (.tmp 10)), none, []⟩,
    ⟨(some 12), (.fieldAddr 1 (.tmp 1)), (some (11, false)), []⟩,
    ⟨(some 13), (.load none (.tmp 12)), (some (11, false)), []⟩,
    ⟨(some 14), (.call (.func 31) [(.tmp 13)]), (some (11, false)), []⟩,
    ⟨(some 15), (.un .not (.tmp 14)), (some (11, false)), []⟩,
    ⟨(some 16), (.pick (.tmp 11) (.const (.bool true)) (.tmp 15)), none, []⟩,
    ⟨(some 17), (.move (.tmp 16)), none, []⟩,
    ⟨(some 18), (.fieldAddr 2 (.tmp 1)), (some (17, false)), []⟩,
    ⟨(some 19), (.load none (.tmp 18)), (some (17, false)), []⟩,
    ⟨(some 20), (.len (.tmp 19)), (some (17, false)), []⟩,
    ⟨(some 21), (.bin .gtr (.tmp 20) (.const (.int .i64 32))), (some (17, false)), []⟩,
    ⟨(some 22), (.pick (.tmp 17) (.const (.bool true)) (.tmp 21)), none, []⟩]))
  (.cond (.tmp 22)
    (.seq (.keep [2] (.ops [⟨(some 2), (.move (.const (.bool false))), none, []⟩]))
    .ret)
    .skip)))
  (.seq (.keep [1, 3] (.ops [⟨(some 3), (.move (.const (.int .i64 0))), none, []⟩]))
  (.seq (.keep [1, 3, 4] (.ops [⟨(some 4), (.move (.const (.int .i64 0))), none, []⟩]))
  (.seq (.keep [1, 3, 4] (.seq (.keep [1, 3, 4, 5] (.ops [⟨(some 5), (.move (.const (.int .i64 0))), none, []⟩]))
  (.block 0
    (.loop
      (.keep [1, 3, 4, 5] (.seq (.keep [1, 3, 4, 5] (.seq (.keep [1, 3, 4, 5, 27] (.ops [⟨(some 23), (.move (.tmp 5)), none, []⟩,
        ⟨(some 24), (.fieldAddr 2 (.tmp 1)), none, []⟩,
        ⟨(some 25), (.load none (.tmp 24)), none, []⟩,
        ⟨(some 26), (.len (.tmp 25)), none, []⟩,
        ⟨(some 27), (.bin .lss (.tmp 23) (.tmp 26)), none, []⟩]))
      (.cond (.tmp 27)
        .skip
        (.exit 0))))
      (.seq (.keep [1, 3, 4, 5] (.block 1
        (.seq (.keep [1, 3, 4, 5, 6] (.ops [⟨(some 30), (.fieldAddr 2 (.tmp 1)), none, []⟩,
          ⟨(some 31), (.load none (.tmp 30)), none, []⟩,
          ⟨(some 32), (.move (.tmp 5)), none, []⟩,
          ⟨(some 33), (.indexAddr 7 (.tmp 31) (.tmp 32)), none, []⟩,
          ⟨(some 34), (.load (some 7) (.tmp 33)), none, []⟩,
          ⟨(some 6), (.alloc (.agg (List.replicate 7 (.int .i64 0)).toArray)), none, []⟩,
          ⟨none, (.store 7 (.tmp 6) (.tmp 34)), none, []⟩]))
        (.seq (.keep [1, 3, 4, 5, 6] (.seq (.keep [1, 3, 4, 5, 6, 65] (.draw [0, 1, 3, 7, 15, 31, 63, 127, 255, 127, 639, 127, 2175, 7807, 15999, 32383, 65535, 131071, 262143, 524287, 1048575, 2097151, 4194303, 8388607, 16777215, 33554431, 67108863, 134217727, 268435455, 536870911, 1073741823] [⟨0, 0, [], ⟨(some 35), (.fieldAddr 0 (.tmp 6)), none, []⟩⟩,
          ⟨1, 1, [], ⟨(some 36), (.load none (.tmp 35)), none, []⟩⟩,
          ⟨2, 3, [], ⟨(some 37), (.bin .lss (.tmp 36) (.const (.int .i64 1))), none, []⟩⟩,
          ⟨3, 7, [], ⟨(some 38), (.move (.tmp 37)), none, []⟩⟩,
          ⟨4, 15, [], ⟨(some 39), (.move (.tmp 5)), (some (38, false)), []⟩⟩,
          ⟨5, 31, [], ⟨(some 40), (.bin .gtr (.tmp 39) (.const (.int .i64 0))), (some (38, false)), []⟩⟩,
          ⟨6, 63, [], ⟨(some 41), (.move (.tmp 40)), (some (38, false)), []⟩⟩,
          ⟨7, 127, [], ⟨(some 42), (.fieldAddr 0 (.tmp 6)), (some (41, true)), []⟩⟩,
          ⟨8, 255, [], ⟨(some 43), (.load none (.tmp 42)), (some (41, true)), []⟩⟩,
          ⟨9, 127, [], ⟨(some 44), (.fieldAddr 2 (.tmp 1)), (some (41, true)), []⟩⟩,
          ⟨10, 639, [], ⟨(some 45), (.load none (.tmp 44)), (some (41, true)), []⟩⟩,
          ⟨11, 127, [], ⟨(some 46), (.move (.tmp 5)), (some (41, true)), []⟩⟩,
          ⟨12, 2175, [], ⟨(some 47), (.bin .sub (.tmp 46) (.const (.int .i64 1))), (some (41, true)), []⟩⟩,
          ⟨13, 7807, [], ⟨(some 48), (.indexAddr 7 (.tmp 45) (.tmp 47)), (some (41, true)), []⟩⟩,
          ⟨14, 15999, [], ⟨(some 49), (.fieldAddr 0 (.tmp 48)), (some (41, true)), []⟩⟩,
          ⟨15, 32383, [], ⟨(some 50), (.load none (.tmp 49)), (some (41, true)), []⟩⟩,
          ⟨16, 65535, [], ⟨(some 51), (.bin .leq (.tmp 43) (.tmp 50)), (some (41, true)), []⟩⟩,
          ⟨17, 131071, [], ⟨(some 52), (.pick (.tmp 41) (.tmp 51) (.const (.bool false))), (some (38, false)), []⟩⟩,
          ⟨18, 262143, [], ⟨(some 53), (.pick (.tmp 38) (.const (.bool true)) (.tmp 52)), none, []⟩⟩,
          ⟨19, 524287, [], ⟨(some 54), (.move (.tmp 53)), none, []⟩⟩,
          ⟨20, 1048575, [], ⟨(some 55), (.fieldAddr 1 (.tmp 6)), (some (54, false)), []⟩⟩,
          ⟨21, 2097151, [], ⟨(some 56), (.load (some 3) (.tmp 55)), (some (54, false)), []⟩⟩,
          ⟨22, 4194303, [], ⟨(some 57), (.call (.func 19) [(.tmp 56)]), (some (54, false)), []⟩⟩,
          ⟨23, 8388607, [], ⟨(some 58), (.un .not (.tmp 57)), (some (54, false)), []⟩⟩,
          ⟨24, 16777215, [], ⟨(some 59), (.pick (.tmp 54) (.const (.bool true)) (.tmp 58)), none, []⟩⟩,
          ⟨25, 33554431, [], ⟨(some 60), (.move (.tmp 59)), none, []⟩⟩,
          ⟨26, 67108863, [], ⟨(some 61), (.fieldAddr 4 (.tmp 6)), (some (60, false)), []⟩⟩,
          ⟨27, 134217727, [], ⟨(some 62), (.load (some 3) (.tmp 61)), (some (60, false)), []⟩⟩,
          ⟨28, 268435455, [], ⟨(some 63), (.call (.func 19) [(.tmp 62)]), (some (60, false)), []⟩⟩,
          ⟨29, 536870911, [], ⟨(some 64), (.un .not (.tmp 63)), (some (60, false)), []⟩⟩,
          ⟨30, 1073741823, [], ⟨(some 65), (.pick (.tmp 60) (.const (.bool true)) (.tmp 64)), none, []⟩⟩]))
        (.cond (.tmp 65)
          (.seq (.keep [2] (.ops [⟨(some 2), (.move (.const (.bool false))), none, []⟩]))
          .ret)
          .skip)))
        (.seq (.keep [1, 3, 4, 5, 6] (.ops [⟨(some 66), (.move (.tmp 3)), none, []⟩,
          ⟨(some 67), (.fieldAddr 1 (.tmp 6)), none, []⟩,
          ⟨(some 68), (.fieldAddr 0 (.tmp 67)), none, []⟩,
          ⟨(some 69), (.load none (.tmp 68)), none, []⟩,
          ⟨(some 70), (.bin .add (.tmp 66) (.tmp 69)), none, []⟩,
          ⟨(some 3), (.move (.tmp 70)), none, []⟩]))
        (.ops [⟨(some 71), (.move (.tmp 4)), none, []⟩,
          ⟨(some 72), (.fieldAddr 4 (.tmp 6)), none, []⟩,
          ⟨(some 73), (.fieldAddr 0 (.tmp 72)), none, []⟩,
          ⟨(some 74), (.load none (.tmp 73)), none, []⟩,
          ⟨(some 75), (.bin .add (.tmp 71) (.tmp 74)), none, []⟩,
          ⟨(some 4), (.move (.tmp 75)), none, []⟩]))))))
      (.ops [⟨(some 28), (.move (.tmp 5)), none, []⟩,
        ⟨(some 29), (.bin .add (.tmp 28) (.const (.int .i64 1))), none, []⟩,
        ⟨(some 5), (.move (.tmp 29)), none, []⟩]))))))))
  (.seq (.keep [2] (.ops [⟨(some 76), (.move (.tmp 3)), none, []⟩,
    ⟨(some 77), (.fieldAddr 0 (.tmp 1)), none, []⟩,
    ⟨(some 78), (.load none (.tmp 77)), none, []⟩,
    ⟨(some 79), (.bin .leq (.tmp 76) (.tmp 78)), none, []⟩,
    ⟨(some 80), (.move (.tmp 79)), none, []⟩,
    ⟨(some 81), (.move (.tmp 4)), (some (80, true)), []⟩,
    ⟨(some 82), (.fieldAddr 1 (.tmp 1)), (some (80, true)), []⟩,
    ⟨(some 83), (.load none (.tmp 82)), (some (80, true)), []⟩,
    ⟨(some 84), (.bin .leq (.tmp 81) (.tmp 83)), (some (80, true)), []⟩,
    ⟨(some 85), (.pick (.tmp 80) (.tmp 84) (.const (.bool false))), none, []⟩,
    ⟨(some 2), (.move (.tmp 85)), none, []⟩]))
  .ret))))))
theorem t21 : trF Try.prog Try.f21 s21 = some s21 := by kernel_rfl
theorem k21 : okS s21 = true := by kernel_rfl
theorem r21 : resT Try.prog Try.f21.results.toList = some [.t 2] := by kernel_rfl

def s22 : S :=
  (.seq (.keep [2, 3, 4] (.ops [⟨(some 2), (.box (.tmp 0)), none, []⟩,
    ⟨(some 3), (.box (.tmp 1)), none, []⟩,
    ⟨(some 4), (.alloc (.agg #[(.int .i64 0), (.int .i64 0), (.slice none 0 0)])), none, []⟩,
    ⟨(some 5), (.move (.const (.int .i64 0))), none, []⟩]))
  (.seq (.keep [2, 3, 4] (.seq (.keep [2, 3, 4, 23] (.ops [⟨(some 9), (.fieldAddr 0 (.tmp 3)), none, []⟩,
    ⟨(some 10), (.load none (.tmp 9)), none, []⟩,
    ⟨(some 11), (.bin .lss (.tmp 10) (.const (.int .i64 1))), none, []⟩,
    ⟨(some 12), (.move (.tmp 11)), none, []⟩,
    ⟨(some 13), (.fieldAddr 1 (.tmp 3)), (some (12, false)), []⟩,
    ⟨(some 14), (.load (some 3) (.tmp 13)), (some (12, false)), []⟩,
    ⟨(some 15), (.call (.func 18) [(.tmp 14)]), (some (12, false)), []⟩,
    ⟨(some 16), (.un .not (.tmp 15)), (some (12, false)), []⟩,
    ⟨(some 17), (.pick (.tmp 12) (.const (.bool true)) (.tmp 16)), none, []⟩,
    ⟨(some 18), (.move (.tmp 17)), none, []⟩,
    ⟨(some 19), (.fieldAddr 4 (.tmp 3)), (some (18, false)), []⟩,
    ⟨(some 20), (.load (some 3) (.tmp 19)), (some (18, false)), []⟩,
    ⟨(some 21), (.call (.func 18) [(.tmp 20)]), (some (18, false)), []⟩,
    ⟨(some 22), (.un .not (.tmp 21)), (some (18, false)), []⟩,
    ⟨(some 23), (.pick (.tmp 18) (.const (.bool true)) (.tmp 22)), none, []⟩]))
  (.cond (.tmp 23)
    (.seq (.keep [4, 5] (.ops [⟨(some 24), (.load (some 3) (.tmp 2)), none, []⟩,
      ⟨none, (.store 3 (.tmp 4) (.tmp 24)), none, []⟩,
      ⟨(some 5), (.move (.const (.int .i64 1))), none, []⟩]))
    .ret)
    .skip)))
  (.seq (.keep [2, 3, 4, 6, 7] (.ops [⟨(some 26), (.load (some 3) (.tmp 2)), none, []⟩,
    ⟨(some 27), (.fieldAddr 0 (.tmp 3)), none, []⟩,
    ⟨(some 28), (.load none (.tmp 27)), none, []⟩,
    ⟨(some 29), (.call (.func 41) [(.tmp 26), (.tmp 28)]), none, []⟩,
    ⟨(some 25), (.move (.tmp 29)), none, []⟩,
    ⟨(some 30), (.extract (.tmp 25) 0), none, []⟩,
    ⟨(some 31), (.extract (.tmp 25) 1), none, []⟩,
    ⟨(some 6), (.move (.tmp 30)), none, []⟩,
    ⟨(some 7), (.move (.tmp 31)), none, []⟩]))
  (.seq (.keep [2, 3, 4, 6] (.seq (.keep [2, 3, 4, 6, 32] (.ops [⟨(some 32), (.move (.tmp 7)), none, []⟩]))
  (.cond (.tmp 32)
    (.seq (.keep [4, 5] (.ops [⟨(some 33), (.load (some 3) (.tmp 2)), none, []⟩,
      ⟨none, (.store 3 (.tmp 4) (.tmp 33)), none, []⟩,
      ⟨(some 5), (.move (.const (.int .i64 6))), none, []⟩]))
    .ret)
    .skip)))
  (.seq (.keep [2, 3, 4, 6, 8] (.ops [⟨(some 34), (.load (some 3) (.tmp 2)), none, []⟩,
    ⟨(some 8), (.alloc (.agg #[(.int .i64 0), (.int .i64 0), (.slice none 0 0)])), none, []⟩,
    ⟨none, (.store 3 (.tmp 8) (.tmp 34)), none, []⟩]))
  (.seq (.keep [2, 4, 8] (.draw [0, 0, 2, 0, 14, 31, 0, 64, 255, 0, 512, 0, 3584, 8191, 16383, 32767] [⟨0, 0, [], ⟨(some 35), (.buildSlice 0 [] []), none, []⟩⟩,
    ⟨1, 0, [], ⟨(some 36), (.fieldAddr 2 (.tmp 2)), none, []⟩⟩,
    ⟨2, 2, [], ⟨(some 37), (.load none (.tmp 36)), none, []⟩⟩,
    ⟨3, 0, [], ⟨(some 38), (.move (.tmp 6)), none, []⟩⟩,
    ⟨4, 14, [], ⟨(some 39), (.slice 7 (.tmp 37) none (some (.tmp 38)) none), none, []⟩⟩,
    ⟨6, 0, [], ⟨(some 41), (.load (some 7) (.tmp 3)), none, []⟩⟩,
    ⟨7, 64, [], ⟨(some 42), (.buildSlice 1 (List.replicate 7 (.int .i64 0)) [(0, 7, (.tmp 41))]), none, []⟩⟩,
    ⟨9, 0, [], ⟨(some 44), (.fieldAddr 2 (.tmp 2)), none, []⟩⟩,
    ⟨10, 512, [], ⟨(some 45), (.load none (.tmp 44)), none, []⟩⟩,
    ⟨11, 0, [], ⟨(some 46), (.move (.tmp 6)), none, []⟩⟩,
    ⟨12, 3584, [], ⟨(some 47), (.slice 7 (.tmp 45) (some (.tmp 46)) none none), none, []⟩⟩,
    ⟨5, 31, [6, 10], ⟨(some 40), (.append 7 56 (.tmp 35) (.tmp 39)), none, [((.load (some 7) (.tmp 3)), none, (some 41)), ((.load none (.tmp 44)), none, (some 45))]⟩⟩,
    ⟨8, 255, [10], ⟨(some 43), (.append 7 56 (.tmp 40) (.tmp 42)), none, [((.load none (.tmp 44)), none, (some 45))]⟩⟩,
    ⟨13, 8191, [], ⟨(some 48), (.append 7 56 (.tmp 43) (.tmp 47)), none, []⟩⟩,
    ⟨14, 16383, [], ⟨(some 49), (.fieldAddr 2 (.tmp 8)), none, []⟩⟩,
    ⟨15, 32767, [], ⟨none, (.store 1 (.tmp 49) (.tmp 48)), none, []⟩⟩]))
  (.seq (.keep [4, 8] (.seq (.keep [2, 4, 8, 52] (.ops [⟨(some 50), (.load (some 3) (.tmp 8)), none, []⟩,
    ⟨(some 51), (.call (.func 20) [(.tmp 50)]), none, []⟩,
    ⟨(some 52), (.un .not (.tmp 51)), none, []⟩]))
  (.cond (.tmp 52)
    (.seq (.keep [4, 5] (.ops [⟨(some 53), (.load (some 3) (.tmp 2)), none, []⟩,
      ⟨none, (.store 3 (.tmp 4) (.tmp 53)), none, []⟩,
      ⟨(some 5), (.move (.const (.int .i64 2))), none, []⟩]))
    .ret)
    .skip)))
  (.seq (.keep [4, 5] (.ops [⟨(some 54), (.load (some 3) (.tmp 8)), none, []⟩,
    ⟨none, (.store 3 (.tmp 4) (.tmp 54)), none, []⟩,
    ⟨(some 5), (.move (.const (.int .i64 0))), none, []⟩]))
  .ret))))))))
theorem t22 : trF Try.prog Try.f22 s22 = some s22 := by kernel_rfl
theorem k22 : okS s22 = true := by kernel_rfl
theorem r22 : resT Try.prog Try.f22.results.toList = some [.c 4 (some 3), .t 5] := by kernel_rfl

def s23 : S :=
  (.seq (.keep [1, 2, 4] (.ops [⟨(some 2), (.box (.tmp 0)), none, []⟩,
    ⟨(some 4), (.alloc (.agg #[(.int .i64 0), (.int .i64 0), (.slice none 0 0)])), none, []⟩,
    ⟨(some 5), (.move (.const (.int .i64 0))), none, []⟩]))
  (.seq (.keep [2, 4, 6, 7] (.ops [⟨(some 10), (.load (some 3) (.tmp 2)), none, []⟩,
    ⟨(some 11), (.move (.tmp 1)), none, []⟩,
    ⟨(some 12), (.call (.func 41) [(.tmp 10), (.tmp 11)]), none, []⟩,
    ⟨(some 9), (.move (.tmp 12)), none, []⟩,
    ⟨(some 13), (.extract (.tmp 9) 0), none, []⟩,
    ⟨(some 14), (.extract (.tmp 9) 1), none, []⟩,
    ⟨(some 6), (.move (.tmp 13)), none, []⟩,
    ⟨(some 7), (.move (.tmp 14)), none, []⟩]))
  (.seq (.keep [2, 4, 6] (.seq (.keep [2, 4, 6, 16] (.ops [⟨(some 15), (.move (.tmp 7)), none, []⟩,
    ⟨(some 16), (.un .not (.tmp 15)), none, []⟩]))
  (.cond (.tmp 16)
    (.seq (.keep [4, 5] (.ops [⟨(some 17), (.load (some 3) (.tmp 2)), none, []⟩,
      ⟨none, (.store 3 (.tmp 4) (.tmp 17)), none, []⟩,
      ⟨(some 5), (.move (.const (.int .i64 5))), none, []⟩]))
    .ret)
    .skip)))
  (.seq (.keep [2, 4, 6, 8] (.ops [⟨(some 18), (.load (some 3) (.tmp 2)), none, []⟩,
    ⟨(some 8), (.alloc (.agg #[(.int .i64 0), (.int .i64 0), (.slice none 0 0)])), none, []⟩,
    ⟨none, (.store 3 (.tmp 8) (.tmp 18)), none, []⟩]))
  (.seq (.keep [4, 8] (.draw [0, 0, 2, 0, 14, 31, 0, 64, 0, 256, 960, 2047, 4095, 8191] [⟨0, 0, [], ⟨(some 19), (.buildSlice 0 [] []), none, []⟩⟩,
    ⟨1, 0, [], ⟨(some 20), (.fieldAddr 2 (.tmp 2)), none, []⟩⟩,
    ⟨2, 2, [], ⟨(some 21), (.load none (.tmp 20)), none, []⟩⟩,
    ⟨3, 0, [], ⟨(some 22), (.move (.tmp 6)), none, []⟩⟩,
    ⟨4, 14, [], ⟨(some 23), (.slice 7 (.tmp 21) none (some (.tmp 22)) none), none, []⟩⟩,
    ⟨6, 0, [], ⟨(some 25), (.fieldAddr 2 (.tmp 2)), none, []⟩⟩,
    ⟨7, 64, [], ⟨(some 26), (.load none (.tmp 25)), none, []⟩⟩,
    ⟨8, 0, [], ⟨(some 27), (.move (.tmp 6)), none, []⟩⟩,
    ⟨9, 256, [], ⟨(some 28), (.bin .add (.tmp 27) (.const (.int .i64 1))), none, []⟩⟩,
    ⟨10, 960, [], ⟨(some 29), (.slice 7 (.tmp 26) (some (.tmp 28)) none none), none, []⟩⟩,
    ⟨5, 31, [7], ⟨(some 24), (.append 7 56 (.tmp 19) (.tmp 23)), none, [((.load none (.tmp 25)), none, (some 26))]⟩⟩,
    ⟨11, 2047, [], ⟨(some 30), (.append 7 56 (.tmp 24) (.tmp 29)), none, []⟩⟩,
    ⟨12, 4095, [], ⟨(some 31), (.fieldAddr 2 (.tmp 8)), none, []⟩⟩,
    ⟨13, 8191, [], ⟨none, (.store 1 (.tmp 31) (.tmp 30)), none, []⟩⟩]))
  (.seq (.keep [4, 5] (.ops [⟨(some 32), (.load (some 3) (.tmp 8)), none, []⟩,
    ⟨none, (.store 3 (.tmp 4) (.tmp 32)), none, []⟩,
    ⟨(some 5), (.move (.const (.int .i64 0))), none, []⟩]))
  .ret))))))
theorem t23 : trF Try.prog Try.f23 s23 = some s23 := by kernel_rfl
theorem k23 : okS s23 = true := by kernel_rfl
theorem r23 : resT Try.prog Try.f23.results.toList = some [.c 4 (some 3), .t 5] := by kernel_rfl

def s24 : S :=
  (.seq (.keep [2, 3, 4] (.ops [⟨(some 2), (.box (.tmp 0)), none, []⟩,
    ⟨(some 3), (.box (.tmp 1)), none, []⟩,
    ⟨(some 4), (.alloc (.agg #[(.int .i64 0), (.int .i64 0), (.slice none 0 0), (.int .i64 0)])), none, []⟩]))
  (.seq (.keep [2, 3, 4] (.seq (.keep [2, 3, 4, 22] (.ops [⟨(some 8), (.fieldAddr 0 (.tmp 3)), none, []⟩,
    ⟨(some 9), (.load none (.tmp 8)), none, []⟩,
    ⟨(some 10), (.bin .lss (.tmp 9) (.const (.int .i64 1))), none, []⟩,
    ⟨(some 11), (.move (.tmp 10)), none, []⟩,
    ⟨(some 12), (.fieldAddr 1 (.tmp 3)), (some (11, false)), []⟩,
    ⟨(some 13), (.load (some 3) (.tmp 12)), (some (11, false)), []⟩,
    ⟨(some 14), (.call (.func 19) [(.tmp 13)]), (some (11, false)), []⟩,
    ⟨(some 15), (.un .not (.tmp 14)), (some (11, false)), []⟩,
    ⟨(some 16), (.pick (.tmp 11) (.const (.bool true)) (.tmp 15)), none, []⟩,
    ⟨(some 17), (.move (.tmp 16)), none, []⟩,
    ⟨(some 18), (.fieldAddr 4 (.tmp 3)), (some (17, false)), []⟩,
    ⟨(some 19), (.load (some 3) (.tmp 18)), (some (17, false)), []⟩,
    ⟨(some 20), (.call (.func 19) [(.tmp 19)]), (some (17, false)), []⟩,
    ⟨(some 21), (.un .not (.tmp 20)), (some (17, false)), []⟩,
    ⟨(some 22), (.pick (.tmp 17) (.const (.bool true)) (.tmp 21)), none, []⟩]))
  (.cond (.tmp 22)
    (.seq (.keep [4] (.ops [⟨(some 23), (.load (some 3) (.tmp 2)), none, []⟩,
      ⟨(some 24), (.build [(.int .i64 0), (.int .i64 0), (.slice none 0 0), (.int .i64 0)] [(0, 3, (.tmp 23)), (3, 1, (.const (.int .i64 1)))]), none, []⟩,
      ⟨none, (.store 4 (.tmp 4) (.tmp 24)), none, []⟩]))
    .ret)
    .skip)))
  (.seq (.keep [2, 3, 4, 5] (.ops [⟨(some 25), (.fieldAddr 0 (.tmp 2)), none, []⟩,
    ⟨(some 26), (.load none (.tmp 25)), none, []⟩,
    ⟨(some 27), (.fieldAddr 1 (.tmp 2)), none, []⟩,
    ⟨(some 28), (.load none (.tmp 27)), none, []⟩,
    ⟨(some 29), (.build [(.int .i64 0), (.int .i64 0), (.slice none 0 0)] [(0, 1, (.tmp 26)), (1, 1, (.tmp 28))]), none, []⟩,
    ⟨(some 5), (.alloc (.agg #[(.int .i64 0), (.int .i64 0), (.slice none 0 0)])), none, []⟩,
    ⟨none, (.store 3 (.tmp 5) (.tmp 29)), none, []⟩]))
  (.seq (.keep [2, 3, 4, 5, 6] (.ops [⟨(some 6), (.move (.const (.bool false))), none, []⟩]))
  (.seq (.keep [2, 3, 4, 5, 6] (.seq (.keep [2, 3, 4, 5, 6, 7] (.ops [⟨(some 7), (.move (.const (.int .i64 0))), none, []⟩]))
  (.block 0
    (.loop
      (.keep [2, 3, 4, 5, 6, 7] (.seq (.keep [2, 3, 4, 5, 6, 7] (.seq (.keep [2, 3, 4, 5, 6, 7, 34] (.ops [⟨(some 30), (.move (.tmp 7)), none, []⟩,
        ⟨(some 31), (.fieldAddr 2 (.tmp 2)), none, []⟩,
        ⟨(some 32), (.load none (.tmp 31)), none, []⟩,
        ⟨(some 33), (.len (.tmp 32)), none, []⟩,
        ⟨(some 34), (.bin .lss (.tmp 30) (.tmp 33)), none, []⟩]))
      (.cond (.tmp 34)
        .skip
        (.exit 0))))
      (.seq (.keep [2, 3, 4, 5, 6, 7] (.block 1
        (.seq (.keep [2, 3, 4, 5, 6, 7] (.seq (.keep [2, 3, 4, 5, 6, 7, 45] (.draw [0, 1, 0, 7, 15, 31, 0, 64, 255] [⟨0, 0, [], ⟨(some 37), (.fieldAddr 2 (.tmp 2)), none, []⟩⟩,
          ⟨1, 1, [], ⟨(some 38), (.load none (.tmp 37)), none, []⟩⟩,
          ⟨2, 0, [], ⟨(some 39), (.move (.tmp 7)), none, []⟩⟩,
          ⟨3, 7, [], ⟨(some 40), (.indexAddr 7 (.tmp 38) (.tmp 39)), none, []⟩⟩,
          ⟨4, 15, [], ⟨(some 41), (.fieldAddr 0 (.tmp 40)), none, []⟩⟩,
          ⟨5, 31, [], ⟨(some 42), (.load none (.tmp 41)), none, []⟩⟩,
          ⟨6, 0, [], ⟨(some 43), (.fieldAddr 0 (.tmp 3)), none, []⟩⟩,
          ⟨7, 64, [], ⟨(some 44), (.load none (.tmp 43)), none, []⟩⟩,
          ⟨8, 255, [], ⟨(some 45), (.bin .eql (.tmp 42) (.tmp 44)), none, []⟩⟩]))
        (.cond (.tmp 45)
          (.seq (.keep [4] (.ops [⟨(some 46), (.load (some 3) (.tmp 2)), none, []⟩,
            ⟨(some 47), (.build [(.int .i64 0), (.int .i64 0), (.slice none 0 0), (.int .i64 0)] [(0, 3, (.tmp 46)), (3, 1, (.const (.int .i64 6)))]), none, []⟩,
            ⟨none, (.store 4 (.tmp 4) (.tmp 47)), none, []⟩]))
          .ret)
          .skip)))
        (.seq (.keep [2, 3, 4, 5, 6, 7] (.seq (.keep [2, 3, 4, 5, 6, 7, 60] (.draw [0, 1, 3, 7, 15, 7, 63, 127, 255, 7, 519, 2047, 4095] [⟨0, 0, [], ⟨(some 48), (.move (.tmp 6)), none, []⟩⟩,
          ⟨1, 1, [], ⟨(some 49), (.un .not (.tmp 48)), none, []⟩⟩,
          ⟨2, 3, [], ⟨(some 50), (.move (.tmp 49)), none, []⟩⟩,
          ⟨3, 7, [], ⟨(some 51), (.fieldAddr 2 (.tmp 2)), (some (50, true)), []⟩⟩,
          ⟨4, 15, [], ⟨(some 52), (.load none (.tmp 51)), (some (50, true)), []⟩⟩,
          ⟨5, 7, [], ⟨(some 53), (.move (.tmp 7)), (some (50, true)), []⟩⟩,
          ⟨6, 63, [], ⟨(some 54), (.indexAddr 7 (.tmp 52) (.tmp 53)), (some (50, true)), []⟩⟩,
          ⟨7, 127, [], ⟨(some 55), (.fieldAddr 0 (.tmp 54)), (some (50, true)), []⟩⟩,
          ⟨8, 255, [], ⟨(some 56), (.load none (.tmp 55)), (some (50, true)), []⟩⟩,
          ⟨9, 7, [], ⟨(some 57), (.fieldAddr 0 (.tmp 3)), (some (50, true)), []⟩⟩,
          ⟨10, 519, [], ⟨(some 58), (.load none (.tmp 57)), (some (50, true)), []⟩⟩,
          ⟨11, 2047, [], ⟨(some 59), (.bin .gtr (.tmp 56) (.tmp 58)), (some (50, true)), []⟩⟩,
          ⟨12, 4095, [], ⟨(some 60), (.pick (.tmp 50) (.tmp 59) (.const (.bool false))), none, []⟩⟩]))
        (.cond (.tmp 60)
          (.seq (.keep [2, 3, 4, 5, 7] (.ops [⟨(some 61), (.fieldAddr 2 (.tmp 5)), none, []⟩,
            ⟨(some 62), (.load none (.tmp 61)), none, []⟩,
            ⟨(some 63), (.load (some 7) (.tmp 3)), none, []⟩,
            ⟨(some 64), (.buildSlice 1 (List.replicate 7 (.int .i64 0)) [(0, 7, (.tmp 63))]), none, []⟩,
            ⟨(some 65), (.append 7 56 (.tmp 62) (.tmp 64)), none, []⟩,
            ⟨(some 66), (.fieldAddr 2 (.tmp 5)), none, []⟩,
            ⟨none, (.store 1 (.tmp 66) (.tmp 65)), none, []⟩]))
          (.ops [⟨(some 6), (.move (.const (.bool true))), none, []⟩]))
          .skip)))
        (.draw [0, 1, 0, 4, 0, 28, 60, 124, 255, 511, 1023] [⟨0, 0, [], ⟨(some 67), (.fieldAddr 2 (.tmp 5)), none, []⟩⟩,
          ⟨1, 1, [], ⟨(some 68), (.load none (.tmp 67)), none, []⟩⟩,
          ⟨2, 0, [], ⟨(some 69), (.fieldAddr 2 (.tmp 2)), none, []⟩⟩,
          ⟨3, 4, [], ⟨(some 70), (.load none (.tmp 69)), none, []⟩⟩,
          ⟨4, 0, [], ⟨(some 71), (.move (.tmp 7)), none, []⟩⟩,
          ⟨5, 28, [], ⟨(some 72), (.indexAddr 7 (.tmp 70) (.tmp 71)), none, []⟩⟩,
          ⟨6, 60, [], ⟨(some 73), (.load (some 7) (.tmp 72)), none, []⟩⟩,
          ⟨7, 124, [], ⟨(some 74), (.buildSlice 1 (List.replicate 7 (.int .i64 0)) [(0, 7, (.tmp 73))]), none, []⟩⟩,
          ⟨8, 255, [], ⟨(some 75), (.append 7 56 (.tmp 68) (.tmp 74)), none, []⟩⟩,
          ⟨9, 511, [], ⟨(some 76), (.fieldAddr 2 (.tmp 5)), none, []⟩⟩,
          ⟨10, 1023, [], ⟨none, (.store 1 (.tmp 76) (.tmp 75)), none, []⟩⟩])))))
      (.ops [⟨(some 35), (.move (.tmp 7)), none, []⟩,
        ⟨(some 36), (.bin .add (.tmp 35) (.const (.int .i64 1))), none, []⟩,
        ⟨(some 7), (.move (.tmp 36)), none, []⟩]))))))))
  (.seq (.keep [2, 4, 5] (.seq (.keep [2, 3, 4, 5, 78] (.ops [⟨(some 77), (.move (.tmp 6)), none, []⟩,
    ⟨(some 78), (.un .not (.tmp 77)), none, []⟩]))
  (.cond (.tmp 78)
    (.ops [⟨(some 79), (.fieldAddr 2 (.tmp 5)), none, []⟩,
      ⟨(some 80), (.load none (.tmp 79)), none, []⟩,
      ⟨(some 81), (.load (some 7) (.tmp 3)), none, []⟩,
      ⟨(some 82), (.buildSlice 1 (List.replicate 7 (.int .i64 0)) [(0, 7, (.tmp 81))]), none, []⟩,
      ⟨(some 83), (.append 7 56 (.tmp 80) (.tmp 82)), none, []⟩,
      ⟨(some 84), (.fieldAddr 2 (.tmp 5)), none, []⟩,
      ⟨none, (.store 1 (.tmp 84) (.tmp 83)), none, []⟩])
    .skip)))
  (.seq (.keep [4, 5] (.seq (.keep [2, 4, 5, 87] (.ops [⟨(some 85), (.load (some 3) (.tmp 5)), none, []⟩,
    ⟨(some 86), (.call (.func 21) [(.tmp 85)]), none, []⟩,
    ⟨(some 87), (.un .not (.tmp 86)), none, []⟩]))
  (.cond (.tmp 87)
    (.seq (.keep [4] (.ops [⟨(some 88), (.load (some 3) (.tmp 2)), none, []⟩,
      ⟨(some 89), (.build [(.int .i64 0), (.int .i64 0), (.slice none 0 0), (.int .i64 0)] [(0, 3, (.tmp 88)), (3, 1, (.const (.int .i64 2)))]), none, []⟩,
      ⟨none, (.store 4 (.tmp 4) (.tmp 89)), none, []⟩]))
    .ret)
    .skip)))
  (.seq (.keep [4] (.ops [⟨(some 90), (.load (some 3) (.tmp 5)), none, []⟩,
    ⟨(some 91), (.build [(.int .i64 0), (.int .i64 0), (.slice none 0 0), (.int .i64 0)] [(0, 3, (.tmp 90))]), none, []⟩,
    ⟨none, (.store 4 (.tmp 4) (.tmp 91)), none, []⟩]))
  .ret))))))))
theorem t24 : trF Try.prog Try.f24 s24 = some s24 := by kernel_rfl
theorem k24 : okS s24 = true := by kernel_rfl
theorem r24 : resT Try.prog Try.f24.results.toList = some [.c 4 (some 4)] := by kernel_rfl

def s25 : S :=
  (.seq (.keep [1, 2, 4] (.ops [⟨(some 2), (.box (.tmp 0)), none, []⟩,
    ⟨(some 4), (.alloc (.agg #[(.int .i64 0), (.int .i64 0), (.slice none 0 0), (.int .i64 0)])), none, []⟩]))
  (.seq (.keep [1, 2, 4, 5] (.ops [⟨(some 7), (.fieldAddr 0 (.tmp 2)), none, []⟩,
    ⟨(some 8), (.load none (.tmp 7)), none, []⟩,
    ⟨(some 9), (.fieldAddr 1 (.tmp 2)), none, []⟩,
    ⟨(some 10), (.load none (.tmp 9)), none, []⟩,
    ⟨(some 11), (.build [(.int .i64 0), (.int .i64 0), (.slice none 0 0)] [(0, 1, (.tmp 8)), (1, 1, (.tmp 10))]), none, []⟩,
    ⟨(some 5), (.alloc (.agg #[(.int .i64 0), (.int .i64 0), (.slice none 0 0)])), none, []⟩,
    ⟨none, (.store 3 (.tmp 5) (.tmp 11)), none, []⟩]))
  (.seq (.keep [2, 4, 5] (.seq (.keep [1, 2, 4, 5, 6] (.ops [⟨(some 6), (.move (.const (.int .i64 0))), none, []⟩]))
  (.block 0
    (.loop
      (.keep [1, 2, 4, 5, 6] (.seq (.keep [1, 2, 4, 5, 6] (.seq (.keep [1, 2, 4, 5, 6, 16] (.ops [⟨(some 12), (.move (.tmp 6)), none, []⟩,
        ⟨(some 13), (.fieldAddr 2 (.tmp 2)), none, []⟩,
        ⟨(some 14), (.load none (.tmp 13)), none, []⟩,
        ⟨(some 15), (.len (.tmp 14)), none, []⟩,
        ⟨(some 16), (.bin .lss (.tmp 12) (.tmp 15)), none, []⟩]))
      (.cond (.tmp 16)
        .skip
        (.exit 0))))
      (.seq (.keep [1, 2, 4, 5, 6] (.block 1
        (.seq (.keep [1, 2, 4, 5, 6, 26] (.ops [⟨(some 19), (.fieldAddr 2 (.tmp 2)), none, []⟩,
          ⟨(some 20), (.load none (.tmp 19)), none, []⟩,
          ⟨(some 21), (.move (.tmp 6)), none, []⟩,
          ⟨(some 22), (.indexAddr 7 (.tmp 20) (.tmp 21)), none, []⟩,
          ⟨(some 23), (.fieldAddr 0 (.tmp 22)), none, []⟩,
          ⟨(some 24), (.load none (.tmp 23)), none, []⟩,
          ⟨(some 25), (.move (.tmp 1)), none, []⟩,
          ⟨(some 26), (.bin .neq (.tmp 24) (.tmp 25)), none, []⟩]))
        (.cond (.tmp 26)
          (.draw [0, 1, 0, 4, 0, 28, 60, 124, 255, 511, 1023] [⟨0, 0, [], ⟨(some 27), (.fieldAddr 2 (.tmp 5)), none, []⟩⟩,
            ⟨1, 1, [], ⟨(some 28), (.load none (.tmp 27)), none, []⟩⟩,
            ⟨2, 0, [], ⟨(some 29), (.fieldAddr 2 (.tmp 2)), none, []⟩⟩,
            ⟨3, 4, [], ⟨(some 30), (.load none (.tmp 29)), none, []⟩⟩,
            ⟨4, 0, [], ⟨(some 31), (.move (.tmp 6)), none, []⟩⟩,
            ⟨5, 28, [], ⟨(some 32), (.indexAddr 7 (.tmp 30) (.tmp 31)), none, []⟩⟩,
            ⟨6, 60, [], ⟨(some 33), (.load (some 7) (.tmp 32)), none, []⟩⟩,
            ⟨7, 124, [], ⟨(some 34), (.buildSlice 1 (List.replicate 7 (.int .i64 0)) [(0, 7, (.tmp 33))]), none, []⟩⟩,
            ⟨8, 255, [], ⟨(some 35), (.append 7 56 (.tmp 28) (.tmp 34)), none, []⟩⟩,
            ⟨9, 511, [], ⟨(some 36), (.fieldAddr 2 (.tmp 5)), none, []⟩⟩,
            ⟨10, 1023, [], ⟨none, (.store 1 (.tmp 36) (.tmp 35)), none, []⟩⟩])
          .skip))))
      (.ops [⟨(some 17), (.move (.tmp 6)), none, []⟩,
        ⟨(some 18), (.bin .add (.tmp 17) (.const (.int .i64 1))), none, []⟩,
        ⟨(some 6), (.move (.tmp 18)), none, []⟩]))))))))
  (.seq (.keep [4, 5] (.seq (.keep [2, 4, 5, 43] (.ops [⟨(some 37), (.fieldAddr 2 (.tmp 5)), none, []⟩,
    ⟨(some 38), (.load none (.tmp 37)), none, []⟩,
    ⟨(some 39), (.len (.tmp 38)), none, []⟩,
    ⟨(some 40), (.fieldAddr 2 (.tmp 2)), none, []⟩,
    ⟨(some 41), (.load none (.tmp 40)), none, []⟩,
    ⟨(some 42), (.len (.tmp 41)), none, []⟩,
    ⟨(some 43), (.bin .eql (.tmp 39) (.tmp 42)), none, []⟩]))
  (.cond (.tmp 43)
    (.seq (.keep [4] (.ops [⟨(some 44), (.load (some 3) (.tmp 2)), none, []⟩,
      ⟨(some 45), (.build [(.int .i64 0), (.int .i64 0), (.slice none 0 0), (.int .i64 0)] [(0, 3, (.tmp 44)), (3, 1, (.const (.int .i64 5)))]), none, []⟩,
      ⟨none, (.store 4 (.tmp 4) (.tmp 45)), none, []⟩]))
    .ret)
    .skip)))
  (.seq (.keep [4] (.ops [⟨(some 46), (.load (some 3) (.tmp 5)), none, []⟩,
    ⟨(some 47), (.build [(.int .i64 0), (.int .i64 0), (.slice none 0 0), (.int .i64 0)] [(0, 3, (.tmp 46))]), none, []⟩,
    ⟨none, (.store 4 (.tmp 4) (.tmp 47)), none, []⟩]))
  .ret)))))
theorem t25 : trF Try.prog Try.f25 s25 = some s25 := by kernel_rfl
theorem k25 : okS s25 = true := by kernel_rfl
theorem r25 : resT Try.prog Try.f25.results.toList = some [.c 4 (some 4)] := by kernel_rfl

def s26 : S :=
  (.seq (.keep [2, 3] (.ops [⟨(some 2), (.box (.tmp 0)), none, []⟩,
    ⟨(some 3), (.box (.tmp 1)), none, []⟩,
    ⟨(some 4), (.move (.const (.bool false))), none, []⟩]))
  (.seq (.keep [2, 3] (.seq (.keep [2, 3, 26] (.ops [⟨(some 6), (.fieldAddr 0 (.tmp 2)), none, []⟩,
    ⟨(some 7), (.load none (.tmp 6)), none, []⟩,
    ⟨(some 8), (.fieldAddr 0 (.tmp 3)), none, []⟩,
    ⟨(some 9), (.load none (.tmp 8)), none, []⟩,
    ⟨(some 10), (.bin .neq (.tmp 7) (.tmp 9)), none, []⟩,
    ⟨(some 11), (.move (.tmp 10)), none, []⟩,
    ⟨(some 12), (.fieldAddr 1 (.tmp 2)), (some (11, false)), []⟩,
    ⟨(some 13), (.load none (.tmp 12)), (some (11, false)), []⟩,
    ⟨(some 14), (.fieldAddr 1 (.tmp 3)), (some (11, false)), []⟩,
    ⟨(some 15), (.load none (.tmp 14)), (some (11, false)), []⟩,
    ⟨(some 16), (.bin .neq (.tmp 13) (.tmp 15)), (some (11, false)), []⟩,
    ⟨(some 17), (.pick (.tmp 11) (.const (.bool true)) (.tmp 16)), none, []⟩,
    ⟨(some 18), (.move (.tmp 17)), none, []⟩,
    ⟨(some 19), (.fieldAddr 2 (.tmp 2)), (some (18, false)), []⟩,
    ⟨(some 20), (.load none (.tmp 19)), (some (18, false)), []⟩,
    ⟨(some 21), (.len (.tmp 20)), (some (18, false)), []⟩,
    ⟨(some 22), (.fieldAddr 2 (.tmp 3)), (some (18, false)), []⟩,
    ⟨(some 23), (.load none (.tmp 22)), (some (18, false)), []⟩,
    ⟨(some 24), (.len (.tmp 23)), (some (18, false)), []⟩,
    ⟨(some 25), (.bin .neq (.tmp 21) (.tmp 24)), (some (18, false)), []⟩,
    ⟨(some 26), (.pick (.tmp 18) (.const (.bool true)) (.tmp 25)), none, []⟩]))
  (.cond (.tmp 26)
    (.seq (.keep [4] (.ops [⟨(some 4), (.move (.const (.bool false))), none, []⟩]))
    .ret)
    .skip)))
  (.seq (.keep [] (.seq (.keep [2, 3, 5] (.ops [⟨(some 5), (.move (.const (.int .i64 0))), none, []⟩]))
  (.block 0
    (.loop
      (.keep [2, 3, 5] (.seq (.keep [2, 3, 5] (.seq (.keep [2, 3, 5, 31] (.ops [⟨(some 27), (.move (.tmp 5)), none, []⟩,
        ⟨(some 28), (.fieldAddr 2 (.tmp 2)), none, []⟩,
        ⟨(some 29), (.load none (.tmp 28)), none, []⟩,
        ⟨(some 30), (.len (.tmp 29)), none, []⟩,
        ⟨(some 31), (.bin .lss (.tmp 27) (.tmp 30)), none, []⟩]))
      (.cond (.tmp 31)
        .skip
        (.exit 0))))
      (.seq (.keep [2, 3, 5] (.block 1
        (.seq (.keep [2, 3, 5, 44] (.draw [0, 1, 0, 7, 15, 0, 32, 0, 224, 480, 1023] [⟨0, 0, [], ⟨(some 34), (.fieldAddr 2 (.tmp 2)), none, []⟩⟩,
          ⟨1, 1, [], ⟨(some 35), (.load none (.tmp 34)), none, []⟩⟩,
          ⟨2, 0, [], ⟨(some 36), (.move (.tmp 5)), none, []⟩⟩,
          ⟨3, 7, [], ⟨(some 37), (.indexAddr 7 (.tmp 35) (.tmp 36)), none, []⟩⟩,
          ⟨4, 15, [], ⟨(some 38), (.load (some 7) (.tmp 37)), none, []⟩⟩,
          ⟨5, 0, [], ⟨(some 39), (.fieldAddr 2 (.tmp 3)), none, []⟩⟩,
          ⟨6, 32, [], ⟨(some 40), (.load none (.tmp 39)), none, []⟩⟩,
          ⟨7, 0, [], ⟨(some 41), (.move (.tmp 5)), none, []⟩⟩,
          ⟨8, 224, [], ⟨(some 42), (.indexAddr 7 (.tmp 40) (.tmp 41)), none, []⟩⟩,
          ⟨9, 480, [], ⟨(some 43), (.load (some 7) (.tmp 42)), none, []⟩⟩,
          ⟨10, 1023, [], ⟨(some 44), (.eqAgg true (List.replicate 7 (.int .i64)) (.tmp 38) (.tmp 43)), none, []⟩⟩]))
        (.cond (.tmp 44)
          (.seq (.keep [4] (.ops [⟨(some 4), (.move (.const (.bool false))), none, []⟩]))
          .ret)
          .skip))))
      (.ops [⟨(some 32), (.move (.tmp 5)), none, []⟩,
        ⟨(some 33), (.bin .add (.tmp 32) (.const (.int .i64 1))), none, []⟩,
        ⟨(some 5), (.move (.tmp 33)), none, []⟩]))))))))
  (.seq (.keep [4] (.ops [⟨(some 4), (.move (.const (.bool true))), none, []⟩]))
  .ret))))
theorem t26 : trF Try.prog Try.f26 s26 = some s26 := by kernel_rfl
theorem k26 : okS s26 = true := by kernel_rfl
theorem r26 : resT Try.prog Try.f26.results.toList = some [.t 4] := by kernel_rfl

def s27 : S :=
  (.seq (.keep [0, 1, 2] (.ops [⟨(some 6), (.move (.const (.slice none 0 0))), none, []⟩]))
  (.seq (.keep [0, 1, 2, 7] (.ops [⟨(some 13), (.move (.tmp 0)), none, []⟩,
    ⟨(some 14), (.move (.tmp 1)), none, []⟩,
    ⟨(some 15), (.move (.tmp 2)), none, []⟩,
    ⟨(some 16), (.call (.func 42) [(.tmp 13), (.tmp 14), (.tmp 15)]), none, []⟩,
    ⟨(some 7), (.move (.tmp 16)), none, []⟩]))
  (.seq (.keep [1, 2, 7, 8] (.ops [⟨(some 17), (.move (.tmp 0)), none, []⟩,
    ⟨(some 18), (.move (.tmp 1)), none, []⟩,
    ⟨(some 19), (.move (.tmp 2)), none, []⟩,
    ⟨(some 20), (.move (.tmp 7)), none, []⟩,
    ⟨(some 21), (.call (.func 43) [(.tmp 18), (.tmp 19), (.tmp 20)]), none, []⟩,
    ⟨(some 22), (.bin .sub (.tmp 17) (.tmp 21)), none, []⟩,
    ⟨(some 8), (.move (.tmp 22)), none, []⟩]))
  (.seq (.keep [1, 2, 7, 8, 9] (.ops [⟨(some 9), (.move (.const (.slice none 0 0))), none, []⟩]))
  (.seq (.keep [9] (.seq (.keep [1, 2, 7, 8, 9, 10] (.ops [⟨(some 10), (.move (.const (.int .i64 0))), none, []⟩]))
  (.block 0
    (.loop
      (.keep [1, 2, 7, 8, 9, 10] (.seq (.keep [1, 2, 7, 8, 9, 10] (.seq (.keep [1, 2, 7, 8, 9, 10, 26] (.ops [⟨(some 23), (.move (.tmp 10)), none, []⟩,
        ⟨(some 24), (.move (.tmp 1)), none, []⟩,
        ⟨(some 25), (.len (.tmp 24)), none, []⟩,
        ⟨(some 26), (.bin .lss (.tmp 23) (.tmp 25)), none, []⟩]))
      (.cond (.tmp 26)
        .skip
        (.exit 0))))
      (.seq (.keep [1, 2, 7, 8, 9, 10] (.block 1
        (.seq (.keep [1, 2, 7, 8, 9, 10, 11] (.draw [0, 0, 3, 7, 0, 0, 48, 112, 0, 511, 1023] [⟨0, 0, [], ⟨(some 29), (.move (.tmp 1)), none, []⟩⟩,
          ⟨1, 0, [], ⟨(some 30), (.move (.tmp 10)), none, []⟩⟩,
          ⟨2, 3, [], ⟨(some 31), (.indexAddr 3 (.tmp 29) (.tmp 30)), none, []⟩⟩,
          ⟨3, 7, [], ⟨(some 32), (.load (some 3) (.tmp 31)), none, []⟩⟩,
          ⟨4, 0, [], ⟨(some 33), (.move (.tmp 2)), none, []⟩⟩,
          ⟨5, 0, [], ⟨(some 34), (.move (.tmp 10)), none, []⟩⟩,
          ⟨6, 48, [], ⟨(some 35), (.indexAddr 1 (.tmp 33) (.tmp 34)), none, []⟩⟩,
          ⟨7, 112, [], ⟨(some 36), (.load none (.tmp 35)), none, []⟩⟩,
          ⟨8, 0, [], ⟨(some 37), (.move (.tmp 7)), none, []⟩⟩,
          ⟨9, 511, [], ⟨(some 38), (.call (.func 44) [(.tmp 32), (.tmp 36), (.tmp 37)]), none, []⟩⟩,
          ⟨10, 1023, [], ⟨(some 11), (.move (.tmp 38)), none, []⟩⟩]))
        (.seq (.keep [1, 2, 7, 8, 9, 10, 11, 12] (.draw [0, 0, 0, 6, 14, 0, 0, 96, 224, 0, 512, 2046, 0, 8190, 16383, 32767] [⟨0, 0, [], ⟨(some 39), (.move (.tmp 8)), none, []⟩⟩,
          ⟨1, 0, [], ⟨(some 40), (.move (.tmp 1)), none, []⟩⟩,
          ⟨2, 0, [], ⟨(some 41), (.move (.tmp 10)), none, []⟩⟩,
          ⟨3, 6, [], ⟨(some 42), (.indexAddr 3 (.tmp 40) (.tmp 41)), none, []⟩⟩,
          ⟨4, 14, [], ⟨(some 43), (.load (some 3) (.tmp 42)), none, []⟩⟩,
          ⟨5, 0, [], ⟨(some 44), (.move (.tmp 2)), none, []⟩⟩,
          ⟨6, 0, [], ⟨(some 45), (.move (.tmp 10)), none, []⟩⟩,
          ⟨7, 96, [], ⟨(some 46), (.indexAddr 1 (.tmp 44) (.tmp 45)), none, []⟩⟩,
          ⟨8, 224, [], ⟨(some 47), (.load none (.tmp 46)), none, []⟩⟩,
          ⟨9, 0, [], ⟨(some 48), (.move (.tmp 7)), none, []⟩⟩,
          ⟨10, 512, [], ⟨(some 49), (.bin .add (.tmp 48) (.const (.int .i64 1))), none, []⟩⟩,
          ⟨12, 0, [], ⟨(some 51), (.move (.tmp 11)), none, []⟩⟩,
          ⟨11, 2046, [], ⟨(some 50), (.call (.func 44) [(.tmp 43), (.tmp 47), (.tmp 49)]), none, []⟩⟩,
          ⟨13, 8190, [], ⟨(some 52), (.bin .sub (.tmp 50) (.tmp 51)), none, []⟩⟩,
          ⟨14, 16383, [], ⟨(some 53), (.minmax false [(.tmp 39), (.tmp 52)]), none, []⟩⟩,
          ⟨15, 32767, [], ⟨(some 12), (.move (.tmp 53)), none, []⟩⟩]))
        (.seq (.keep [1, 2, 7, 8, 9, 10, 11, 12] (.ops [⟨(some 54), (.move (.tmp 8)), none, []⟩,
          ⟨(some 55), (.move (.tmp 12)), none, []⟩,
          ⟨(some 56), (.bin .sub (.tmp 54) (.tmp 55)), none, []⟩,
          ⟨(some 8), (.move (.tmp 56)), none, []⟩]))
        (.ops [⟨(some 57), (.move (.tmp 9)), none, []⟩,
          ⟨(some 58), (.move (.tmp 11)), none, []⟩,
          ⟨(some 59), (.move (.tmp 12)), none, []⟩,
          ⟨(some 60), (.bin .add (.tmp 58) (.tmp 59)), none, []⟩,
          ⟨(some 61), (.buildSlice 1 [(.int .i64 0)] [(0, 1, (.tmp 60))]), none, []⟩,
          ⟨(some 62), (.append 1 8 (.tmp 57) (.tmp 61)), none, []⟩,
          ⟨(some 9), (.move (.tmp 62)), none, []⟩]))))))
      (.ops [⟨(some 27), (.move (.tmp 10)), none, []⟩,
        ⟨(some 28), (.bin .add (.tmp 27) (.const (.int .i64 1))), none, []⟩,
        ⟨(some 10), (.move (.tmp 28)), none, []⟩]))))))))
  (.seq (.keep [6] (.ops [⟨(some 63), (.move (.tmp 9)), none, []⟩,
    ⟨(some 6), (.move (.tmp 63)), none, []⟩]))
  .ret))))))
theorem t27 : trF Try.prog Try.f27 s27 = some s27 := by kernel_rfl
theorem k27 : okS s27 = true := by kernel_rfl
theorem r27 : resT Try.prog Try.f27.results.toList = some [.t 6] := by kernel_rfl

def s28 : S :=
  (.seq (.keep [0, 1] (.ops [⟨(some 4), (.move (.const (.bool false))), none, []⟩]))
  (.seq (.keep [0, 1] (.seq (.keep [0, 1, 10] (.ops [⟨(some 6), (.move (.tmp 0)), none, []⟩,
    ⟨(some 7), (.len (.tmp 6)), none, []⟩,
    ⟨(some 8), (.move (.tmp 1)), none, []⟩,
    ⟨(some 9), (.len (.tmp 8)), none, []⟩,
    ⟨(some 10), (.bin .neq (.tmp 7) (.tmp 9)), none, []⟩]))
  (.cond (.tmp 10)
    (.seq (.keep [4] (.ops [⟨(some 4), (.move (.const (.bool false))), none, []⟩]))
    .ret)
    .skip)))
  (.seq (.keep [] (.seq (.keep [0, 1, 5] (.ops [⟨(some 5), (.move (.const (.int .i64 0))), none, []⟩]))
  (.block 0
    (.loop
      (.keep [0, 1, 5] (.seq (.keep [0, 1, 5] (.seq (.keep [0, 1, 5, 14] (.ops [⟨(some 11), (.move (.tmp 5)), none, []⟩,
        ⟨(some 12), (.move (.tmp 0)), none, []⟩,
        ⟨(some 13), (.len (.tmp 12)), none, []⟩,
        ⟨(some 14), (.bin .lss (.tmp 11) (.tmp 13)), none, []⟩]))
      (.cond (.tmp 14)
        .skip
        (.exit 0))))
      (.seq (.keep [0, 1, 5] (.block 1
        (.seq (.keep [0, 1, 5, 25] (.draw [0, 0, 3, 7, 0, 0, 48, 112, 255] [⟨0, 0, [], ⟨(some 17), (.move (.tmp 0)), none, []⟩⟩,
          ⟨1, 0, [], ⟨(some 18), (.move (.tmp 5)), none, []⟩⟩,
          ⟨2, 3, [], ⟨(some 19), (.indexAddr 3 (.tmp 17) (.tmp 18)), none, []⟩⟩,
          ⟨3, 7, [], ⟨(some 20), (.load (some 3) (.tmp 19)), none, []⟩⟩,
          ⟨4, 0, [], ⟨(some 21), (.move (.tmp 1)), none, []⟩⟩,
          ⟨5, 0, [], ⟨(some 22), (.move (.tmp 5)), none, []⟩⟩,
          ⟨6, 48, [], ⟨(some 23), (.indexAddr 3 (.tmp 21) (.tmp 22)), none, []⟩⟩,
          ⟨7, 112, [], ⟨(some 24), (.load (some 3) (.tmp 23)), none, []⟩⟩,
          ⟨8, 255, [], ⟨(some 25), (.eqAgg true [(.int .i64), (.int .i64), (.int .i64)] (.tmp 20) (.tmp 24)), none, []⟩⟩]))
        (.cond (.tmp 25)
          (.seq (.keep [4] (.ops [⟨(some 4), (.move (.const (.bool false))), none, []⟩]))
          .ret)
          .skip))))
      (.ops [⟨(some 15), (.move (.tmp 5)), none, []⟩,
        ⟨(some 16), (.bin .add (.tmp 15) (.const (.int .i64 1))), none, []⟩,
        ⟨(some 5), (.move (.tmp 16)), none, []⟩]))))))))
  (.seq (.keep [4] (.ops [⟨(some 4), (.move (.const (.bool true))), none, []⟩]))
  .ret))))
theorem t28 : trF Try.prog Try.f28 s28 = some s28 := by kernel_rfl
theorem k28 : okS s28 = true := by kernel_rfl
theorem r28 : resT Try.prog Try.f28.results.toList = some [.t 4] := by kernel_rfl

def s29 : S :=
  (.seq (.keep [1, 2] (.ops [⟨(some 2), (.box (.tmp 0)), none, []⟩,
    ⟨(some 4), (.move (.const (.slice none 0 0))), none, []⟩]))
  (.seq (.keep [1, 2, 5] (.ops [⟨(some 21), .makeMap, none, []⟩,
    ⟨(some 5), (.move (.tmp 21)), none, []⟩]))
  (.seq (.keep [2, 5] (.seq (.keep [1, 2, 5, 23, 24] (.ops [⟨(some 22), (.move (.tmp 1)), none, []⟩,
    ⟨(some 23), (.len (.tmp 22)), none, []⟩,
    ⟨(some 24), (.move (.const (.int .i64 0))), none, []⟩]))
  (.block 0
    (.loop
      (.keep [1, 2, 5, 23, 24] (.seq (.keep [1, 2, 5, 23, 24, 25] (.ops [⟨(some 25), (.bin .lss (.tmp 24) (.tmp 23)), none, []⟩]))
      (.seq (.keep [1, 2, 5, 23, 24] (.cond (.tmp 25)
        .skip
        (.exit 0)))
      (.seq (.keep [1, 2, 5, 23, 24] (.block 1
        (.seq (.keep [1, 2, 5, 6, 23, 24] (.ops [⟨(some 26), (.move (.tmp 24)), none, []⟩,
          ⟨(some 6), (.move (.tmp 26)), none, []⟩]))
        (.seq (.keep [1, 2, 5, 7, 23, 24] (.ops [⟨(some 27), (.move (.tmp 1)), none, []⟩,
          ⟨(some 28), (.move (.tmp 1)), none, []⟩,
          ⟨(some 29), (.len (.tmp 28)), none, []⟩,
          ⟨(some 30), (.bin .sub (.tmp 29) (.const (.int .i64 1))), none, []⟩,
          ⟨(some 31), (.move (.tmp 6)), none, []⟩,
          ⟨(some 32), (.bin .sub (.tmp 30) (.tmp 31)), none, []⟩,
          ⟨(some 33), (.indexAddr 3 (.tmp 27) (.tmp 32)), none, []⟩,
          ⟨(some 34), (.load (some 3) (.tmp 33)), none, []⟩,
          ⟨(some 7), (.alloc (.agg #[(.int .i64 0), (.int .i64 0), (.int .i64 0)])), none, []⟩,
          ⟨none, (.store 3 (.tmp 7) (.tmp 34)), none, []⟩]))
        (.ops [⟨(some 35), (.move (.tmp 5)), none, []⟩,
          ⟨(some 36), (.fieldAddr 0 (.tmp 7)), none, []⟩,
          ⟨(some 37), (.load none (.tmp 36)), none, []⟩,
          ⟨(some 38), (.load (some 3) (.tmp 7)), none, []⟩,
          ⟨none, (.mapPut (.int .i64) (.tmp 35) (.tmp 37) (.tmp 38)), none, []⟩])))))
      (.ops [⟨(some 39), (.bin .add (.tmp 24) (.const (.int .i64 1))), none, []⟩,
        ⟨(some 24), (.move (.tmp 39)), none, []⟩])))))))))
  (.seq (.keep [2, 5, 8] (.ops [⟨(some 8), (.move (.func 45)), none, []⟩]))
  (.seq (.keep [2, 5, 8, 9, 10] (.ops [⟨(some 9), (.move (.const (.slice none 0 0))), none, []⟩,
    ⟨(some 10), (.move (.const (.slice none 0 0))), none, []⟩]))
  (.seq (.keep [2, 5, 8, 9, 10, 11, 12] (.ops [⟨(some 11), (.move (.const (.slice none 0 0))), none, []⟩,
    ⟨(some 12), (.move (.const (.slice none 0 0))), none, []⟩]))
  (.seq (.keep [2, 9, 10, 11, 12] (.seq (.keep [2, 5, 8, 9, 10, 11, 12, 41, 42, 43] (.ops [⟨(some 40), (.fieldAddr 2 (.tmp 2)), none, []⟩,
    ⟨(some 41), (.load none (.tmp 40)), none, []⟩,
    ⟨(some 42), (.len (.tmp 41)), none, []⟩,
    ⟨(some 43), (.move (.const (.int .i64 0))), none, []⟩]))
  (.block 2
    (.loop
      (.keep [2, 5, 8, 9, 10, 11, 12, 41, 42, 43] (.seq (.keep [2, 5, 8, 9, 10, 11, 12, 41, 42, 43, 44] (.ops [⟨(some 44), (.bin .lss (.tmp 43) (.tmp 42)), none, []⟩]))
      (.seq (.keep [2, 5, 8, 9, 10, 11, 12, 41, 42, 43] (.cond (.tmp 44)
        .skip
        (.exit 2)))
      (.seq (.keep [2, 5, 8, 9, 10, 11, 12, 41, 42, 43] (.block 3
        (.seq (.keep [2, 5, 8, 9, 10, 11, 12, 14, 41, 42, 43] (.ops [⟨(some 45), (.indexAddr 7 (.tmp 41) (.tmp 43)), none, []⟩,
          ⟨(some 46), (.load (some 7) (.tmp 45)), none, []⟩,
          ⟨(some 14), (.alloc (.agg (List.replicate 7 (.int .i64 0)).toArray)), none, []⟩,
          ⟨none, (.store 7 (.tmp 14) (.tmp 46)), none, []⟩]))
        (.seq (.keep [2, 5, 8, 9, 10, 11, 12, 14, 15, 41, 42, 43] (.ops [⟨(some 47), (.move (.tmp 5)), none, []⟩,
          ⟨(some 48), (.fieldAddr 0 (.tmp 14)), none, []⟩,
          ⟨(some 49), (.load none (.tmp 48)), none, []⟩,
          ⟨(some 50), (.lookup (.int .i64) (.agg #[(.int .i64 0), (.int .i64 0), (.int .i64 0)]) false (.tmp 47) (.tmp 49)), none, []⟩,
          ⟨(some 15), (.alloc (.agg #[(.int .i64 0), (.int .i64 0), (.int .i64 0)])), none, []⟩,
          ⟨none, (.store 3 (.tmp 15) (.tmp 50)), none, []⟩]))
        (.seq (.keep [2, 5, 8, 9, 10, 11, 12, 14, 15, 41, 42, 43] (.draw [0, 0, 2, 6, 15, 0, 0, 0, 128, 479, 991, 2047, 4095, 8191] [⟨0, 0, [], ⟨(some 51), (.move (.tmp 9)), none, []⟩⟩,
          ⟨1, 0, [], ⟨(some 52), (.fieldAddr 1 (.tmp 14)), none, []⟩⟩,
          ⟨2, 2, [], ⟨(some 53), (.load (some 3) (.tmp 52)), none, []⟩⟩,
          ⟨3, 6, [], ⟨(some 54), (.buildSlice 1 [(.int .i64 0), (.int .i64 0), (.int .i64 0)] [(0, 3, (.tmp 53))]), none, []⟩⟩,
          ⟨5, 0, [], ⟨(some 56), (.move (.tmp 11)), none, []⟩⟩,
          ⟨6, 0, [], ⟨(some 57), (.move (.tmp 8)), none, []⟩⟩,
          ⟨7, 0, [], ⟨(some 58), (.fieldAddr 1 (.tmp 15)), none, []⟩⟩,
          ⟨8, 128, [], ⟨(some 59), (.load none (.tmp 58)), none, []⟩⟩,
          ⟨4, 15, [8], ⟨(some 55), (.append 3 24 (.tmp 51) (.tmp 54)), none, [((.load none (.tmp 58)), none, (some 59))]⟩⟩,
          ⟨9, 479, [], ⟨(some 60), (.call (.tmp 57) [(.tmp 59)]), none, []⟩⟩,
          ⟨10, 991, [], ⟨(some 61), (.buildSlice 1 [(.int .i64 0)] [(0, 1, (.tmp 60))]), none, []⟩⟩,
          ⟨11, 2047, [], ⟨(some 62), (.append 1 8 (.tmp 56) (.tmp 61)), none, []⟩⟩,
          ⟨12, 4095, [], ⟨(some 9), (.move (.tmp 55)), none, []⟩⟩,
          ⟨13, 8191, [], ⟨(some 11), (.move (.tmp 62)), none, []⟩⟩]))
        (.draw [0, 0, 2, 6, 15, 0, 0, 0, 128, 479, 991, 2047, 4095, 8191] [⟨0, 0, [], ⟨(some 63), (.move (.tmp 10)), none, []⟩⟩,
          ⟨1, 0, [], ⟨(some 64), (.fieldAddr 4 (.tmp 14)), none, []⟩⟩,
          ⟨2, 2, [], ⟨(some 65), (.load (some 3) (.tmp 64)), none, []⟩⟩,
          ⟨3, 6, [], ⟨(some 66), (.buildSlice 1 [(.int .i64 0), (.int .i64 0), (.int .i64 0)] [(0, 3, (.tmp 65))]), none, []⟩⟩,
          ⟨5, 0, [], ⟨(some 68), (.move (.tmp 12)), none, []⟩⟩,
          ⟨6, 0, [], ⟨(some 69), (.move (.tmp 8)), none, []⟩⟩,
          ⟨7, 0, [], ⟨(some 70), (.fieldAddr 2 (.tmp 15)), none, []⟩⟩,
          ⟨8, 128, [], ⟨(some 71), (.load none (.tmp 70)), none, []⟩⟩,
          ⟨4, 15, [8], ⟨(some 67), (.append 3 24 (.tmp 63) (.tmp 66)), none, [((.load none (.tmp 70)), none, (some 71))]⟩⟩,
          ⟨9, 479, [], ⟨(some 72), (.call (.tmp 69) [(.tmp 71)]), none, []⟩⟩,
          ⟨10, 991, [], ⟨(some 73), (.buildSlice 1 [(.int .i64 0)] [(0, 1, (.tmp 72))]), none, []⟩⟩,
          ⟨11, 2047, [], ⟨(some 74), (.append 1 8 (.tmp 68) (.tmp 73)), none, []⟩⟩,
          ⟨12, 4095, [], ⟨(some 10), (.move (.tmp 67)), none, []⟩⟩,
          ⟨13, 8191, [], ⟨(some 12), (.move (.tmp 74)), none, []⟩⟩]))))))
      (.ops [⟨(some 75), (.bin .add (.tmp 43) (.const (.int .i64 1))), none, []⟩,
        ⟨(some 43), (.move (.tmp 75)), none, []⟩])))))))))
  (.seq (.keep [2, 16, 17] (.draw [0, 1, 0, 0, 15, 0, 32, 0, 0, 511, 1023, 2047] [⟨0, 0, [], ⟨(some 76), (.fieldAddr 0 (.tmp 2)), none, []⟩⟩,
    ⟨1, 1, [], ⟨(some 77), (.load none (.tmp 76)), none, []⟩⟩,
    ⟨2, 0, [], ⟨(some 78), (.move (.tmp 9)), none, []⟩⟩,
    ⟨3, 0, [], ⟨(some 79), (.move (.tmp 11)), none, []⟩⟩,
    ⟨5, 0, [], ⟨(some 81), (.fieldAddr 1 (.tmp 2)), none, []⟩⟩,
    ⟨6, 32, [], ⟨(some 82), (.load none (.tmp 81)), none, []⟩⟩,
    ⟨7, 0, [], ⟨(some 83), (.move (.tmp 10)), none, []⟩⟩,
    ⟨8, 0, [], ⟨(some 84), (.move (.tmp 12)), none, []⟩⟩,
    ⟨4, 15, [6], ⟨(some 80), (.call (.func 16) [(.tmp 77), (.tmp 78), (.tmp 79)]), none, [((.load none (.tmp 81)), none, (some 82))]⟩⟩,
    ⟨9, 511, [], ⟨(some 85), (.call (.func 16) [(.tmp 82), (.tmp 83), (.tmp 84)]), none, []⟩⟩,
    ⟨10, 1023, [], ⟨(some 16), (.move (.tmp 80)), none, []⟩⟩,
    ⟨11, 2047, [], ⟨(some 17), (.move (.tmp 85)), none, []⟩⟩]))
  (.seq (.keep [2, 16, 17, 18] (.ops [⟨(some 18), (.move (.const (.slice none 0 0))), none, []⟩]))
  (.seq (.keep [18] (.seq (.keep [16, 17, 18, 87, 88, 89] (.ops [⟨(some 86), (.fieldAddr 2 (.tmp 2)), none, []⟩,
    ⟨(some 87), (.load none (.tmp 86)), none, []⟩,
    ⟨(some 88), (.len (.tmp 87)), none, []⟩,
    ⟨(some 89), (.move (.const (.int .i64 0))), none, []⟩]))
  (.block 4
    (.loop
      (.keep [16, 17, 18, 87, 88, 89] (.seq (.keep [16, 17, 18, 87, 88, 89, 90] (.ops [⟨(some 90), (.bin .lss (.tmp 89) (.tmp 88)), none, []⟩]))
      (.seq (.keep [16, 17, 18, 87, 88, 89] (.cond (.tmp 90)
        .skip
        (.exit 4)))
      (.seq (.keep [16, 17, 18, 87, 88, 89] (.block 5
        (.seq (.keep [16, 17, 18, 19, 20, 87, 88, 89] (.ops [⟨(some 91), (.move (.tmp 89)), none, []⟩,
          ⟨(some 92), (.indexAddr 7 (.tmp 87) (.tmp 89)), none, []⟩,
          ⟨(some 93), (.load (some 7) (.tmp 92)), none, []⟩,
          ⟨(some 20), (.alloc (.agg (List.replicate 7 (.int .i64 0)).toArray)), none, []⟩,
          ⟨(some 19), (.move (.tmp 91)), none, []⟩,
          ⟨none, (.store 7 (.tmp 20) (.tmp 93)), none, []⟩]))
        (.draw [0, 0, 2, 0, 0, 24, 56, 0, 0, 384, 896, 2046, 4094, 8191, 16383] [⟨0, 0, [], ⟨(some 94), (.move (.tmp 18)), none, []⟩⟩,
          ⟨1, 0, [], ⟨(some 95), (.fieldAddr 0 (.tmp 20)), none, []⟩⟩,
          ⟨2, 2, [], ⟨(some 96), (.load none (.tmp 95)), none, []⟩⟩,
          ⟨3, 0, [], ⟨(some 97), (.move (.tmp 16)), none, []⟩⟩,
          ⟨4, 0, [], ⟨(some 98), (.move (.tmp 19)), none, []⟩⟩,
          ⟨5, 24, [], ⟨(some 99), (.indexAddr 1 (.tmp 97) (.tmp 98)), none, []⟩⟩,
          ⟨6, 56, [], ⟨(some 100), (.load none (.tmp 99)), none, []⟩⟩,
          ⟨7, 0, [], ⟨(some 101), (.move (.tmp 17)), none, []⟩⟩,
          ⟨8, 0, [], ⟨(some 102), (.move (.tmp 19)), none, []⟩⟩,
          ⟨9, 384, [], ⟨(some 103), (.indexAddr 1 (.tmp 101) (.tmp 102)), none, []⟩⟩,
          ⟨10, 896, [], ⟨(some 104), (.load none (.tmp 103)), none, []⟩⟩,
          ⟨11, 2046, [], ⟨(some 105), (.build [(.int .i64 0), (.int .i64 0), (.int .i64 0)] [(0, 1, (.tmp 96)), (1, 1, (.tmp 100)), (2, 1, (.tmp 104))]), none, []⟩⟩,
          ⟨12, 4094, [], ⟨(some 106), (.buildSlice 1 [(.int .i64 0), (.int .i64 0), (.int .i64 0)] [(0, 3, (.tmp 105))]), none, []⟩⟩,
          ⟨13, 8191, [], ⟨(some 107), (.append 3 24 (.tmp 94) (.tmp 106)), none, []⟩⟩,
          ⟨14, 16383, [], ⟨(some 18), (.move (.tmp 107)), none, []⟩⟩]))))
      (.ops [⟨(some 108), (.bin .add (.tmp 89) (.const (.int .i64 1))), none, []⟩,
        ⟨(some 89), (.move (.tmp 108)), none, []⟩])))))))))
  (.seq (.keep [4] (.ops [⟨(some 109), (.move (.tmp 18)), none, []⟩,
    ⟨(some 4), (.move (.tmp 109)), none, []⟩]))
  .ret)))))))))))
theorem t29 : trF Try.prog Try.f29 s29 = some s29 := by kernel_rfl
theorem k29 : okS s29 = true := by kernel_rfl
theorem r29 : resT Try.prog Try.f29.results.toList = some [.t 4] := by kernel_rfl

def s30 : S :=
  (.seq (.keep [1, 2] (.ops [⟨(some 2), (.box (.tmp 0)), none, []⟩,
    ⟨(some 4), (.move (.const (.slice none 0 0))), none, []⟩]))
  (.seq (.keep [1, 2, 5] (.ops [⟨(some 5), (.move (.const (.slice none 0 0))), none, []⟩]))
  (.seq (.keep [1, 2, 5, 6] (.ops [⟨(some 6), (.move (.const (.slice none 0 0))), none, []⟩]))
  (.seq (.keep [1, 2, 5, 6, 7] (.ops [⟨(some 7), (.move (.const (.slice none 0 0))), none, []⟩]))
  (.seq (.keep [1, 2, 5, 6, 7, 8] (.ops [⟨(some 8), (.move (.const (.slice none 0 0))), none, []⟩]))
  (.seq (.keep [2, 5, 6, 7, 8] (.seq (.keep [1, 2, 5, 6, 7, 8, 9] (.ops [⟨(some 9), (.move (.const (.int .i64 0))), none, []⟩]))
  (.block 0
    (.loop
      (.keep [1, 2, 5, 6, 7, 8, 9] (.seq (.keep [1, 2, 5, 6, 7, 8, 9] (.seq (.keep [1, 2, 5, 6, 7, 8, 9, 19] (.ops [⟨(some 15), (.move (.tmp 9)), none, []⟩,
        ⟨(some 16), (.fieldAddr 2 (.tmp 2)), none, []⟩,
        ⟨(some 17), (.load none (.tmp 16)), none, []⟩,
        ⟨(some 18), (.len (.tmp 17)), none, []⟩,
        ⟨(some 19), (.bin .lss (.tmp 15) (.tmp 18)), none, []⟩]))
      (.cond (.tmp 19)
        .skip
        (.exit 0))))
      (.seq (.keep [1, 2, 5, 6, 7, 8, 9] (.block 1
        (.seq (.keep [1, 2, 5, 6, 7, 8, 9] (.ops [⟨(some 22), (.move (.tmp 5)), none, []⟩,
          ⟨(some 23), (.fieldAddr 2 (.tmp 2)), none, []⟩,
          ⟨(some 24), (.load none (.tmp 23)), none, []⟩,
          ⟨(some 25), (.move (.tmp 9)), none, []⟩,
          ⟨(some 26), (.indexAddr 7 (.tmp 24) (.tmp 25)), none, []⟩,
          ⟨(some 27), (.fieldAddr 1 (.tmp 26)), none, []⟩,
          ⟨(some 28), (.load (some 3) (.tmp 27)), none, []⟩,
          ⟨(some 29), (.buildSlice 1 [(.int .i64 0), (.int .i64 0), (.int .i64 0)] [(0, 3, (.tmp 28))]), none, []⟩,
          ⟨(some 30), (.append 3 24 (.tmp 22) (.tmp 29)), none, []⟩,
          ⟨(some 5), (.move (.tmp 30)), none, []⟩]))
        (.seq (.keep [1, 2, 5, 6, 7, 8, 9] (.ops [⟨(some 31), (.move (.tmp 6)), none, []⟩,
          ⟨(some 32), (.fieldAddr 2 (.tmp 2)), none, []⟩,
          ⟨(some 33), (.load none (.tmp 32)), none, []⟩,
          ⟨(some 34), (.move (.tmp 9)), none, []⟩,
          ⟨(some 35), (.indexAddr 7 (.tmp 33) (.tmp 34)), none, []⟩,
          ⟨(some 36), (.fieldAddr 4 (.tmp 35)), none, []⟩,
          ⟨(some 37), (.load (some 3) (.tmp 36)), none, []⟩,
          ⟨(some 38), (.buildSlice 1 [(.int .i64 0), (.int .i64 0), (.int .i64 0)] [(0, 3, (.tmp 37))]), none, []⟩,
          ⟨(some 39), (.append 3 24 (.tmp 31) (.tmp 38)), none, []⟩,
          ⟨(some 6), (.move (.tmp 39)), none, []⟩]))
        (.seq (.keep [1, 2, 5, 6, 7, 8, 9, 10] (.ops [⟨(some 40), (.move (.tmp 1)), none, []⟩,
          ⟨(some 41), (.fieldAddr 2 (.tmp 2)), none, []⟩,
          ⟨(some 42), (.load none (.tmp 41)), none, []⟩,
          ⟨(some 43), (.move (.tmp 9)), none, []⟩,
          ⟨(some 44), (.indexAddr 7 (.tmp 42) (.tmp 43)), none, []⟩,
          ⟨(some 45), (.fieldAddr 0 (.tmp 44)), none, []⟩,
          ⟨(some 46), (.load none (.tmp 45)), none, []⟩,
          ⟨(some 47), (.call (.func 46) [(.tmp 40), (.tmp 46)]), none, []⟩,
          ⟨(some 10), (.alloc (.agg #[(.int .i64 0), (.int .i64 0), (.int .i64 0)])), none, []⟩,
          ⟨none, (.store 3 (.tmp 10) (.tmp 47)), none, []⟩]))
        (.seq (.keep [1, 2, 5, 6, 7, 8, 9, 10] (.ops [⟨(some 48), (.move (.tmp 7)), none, []⟩,
          ⟨(some 49), (.fieldAddr 1 (.tmp 10)), none, []⟩,
          ⟨(some 50), (.load none (.tmp 49)), none, []⟩,
          ⟨(some 51), (.buildSlice 1 [(.int .i64 0)] [(0, 1, (.tmp 50))]), none, []⟩,
          ⟨(some 52), (.append 1 8 (.tmp 48) (.tmp 51)), none, []⟩,
          ⟨(some 7), (.move (.tmp 52)), none, []⟩]))
        (.ops [⟨(some 53), (.move (.tmp 8)), none, []⟩,
          ⟨(some 54), (.fieldAddr 2 (.tmp 10)), none, []⟩,
          ⟨(some 55), (.load none (.tmp 54)), none, []⟩,
          ⟨(some 56), (.buildSlice 1 [(.int .i64 0)] [(0, 1, (.tmp 55))]), none, []⟩,
          ⟨(some 57), (.append 1 8 (.tmp 53) (.tmp 56)), none, []⟩,
          ⟨(some 8), (.move (.tmp 57)), none, []⟩])))))))
      (.ops [⟨(some 20), (.move (.tmp 9)), none, []⟩,
        ⟨(some 21), (.bin .add (.tmp 20) (.const (.int .i64 1))), none, []⟩,
        ⟨(some 9), (.move (.tmp 21)), none, []⟩]))))))))
  (.seq (.keep [2, 6, 8, 11] (.ops [⟨(some 58), (.fieldAddr 0 (.tmp 2)), none, []⟩,
    ⟨(some 59), (.load none (.tmp 58)), none, []⟩,
    ⟨(some 60), (.move (.tmp 5)), none, []⟩,
    ⟨(some 61), (.move (.tmp 7)), none, []⟩,
    ⟨(some 62), (.call (.func 27) [(.tmp 59), (.tmp 60), (.tmp 61)]), none, []⟩,
    ⟨(some 11), (.move (.tmp 62)), none, []⟩]))
  (.seq (.keep [2, 11, 12] (.ops [⟨(some 63), (.fieldAddr 1 (.tmp 2)), none, []⟩,
    ⟨(some 64), (.load none (.tmp 63)), none, []⟩,
    ⟨(some 65), (.move (.tmp 6)), none, []⟩,
    ⟨(some 66), (.move (.tmp 8)), none, []⟩,
    ⟨(some 67), (.call (.func 27) [(.tmp 64), (.tmp 65), (.tmp 66)]), none, []⟩,
    ⟨(some 12), (.move (.tmp 67)), none, []⟩]))
  (.seq (.keep [2, 11, 12, 13] (.ops [⟨(some 13), (.move (.const (.slice none 0 0))), none, []⟩]))
  (.seq (.keep [13] (.seq (.keep [2, 11, 12, 13, 14] (.ops [⟨(some 14), (.move (.const (.int .i64 0))), none, []⟩]))
  (.block 2
    (.loop
      (.keep [2, 11, 12, 13, 14] (.seq (.keep [2, 11, 12, 13, 14] (.seq (.keep [2, 11, 12, 13, 14, 72] (.ops [⟨(some 68), (.move (.tmp 14)), none, []⟩,
        ⟨(some 69), (.fieldAddr 2 (.tmp 2)), none, []⟩,
        ⟨(some 70), (.load none (.tmp 69)), none, []⟩,
        ⟨(some 71), (.len (.tmp 70)), none, []⟩,
        ⟨(some 72), (.bin .lss (.tmp 68) (.tmp 71)), none, []⟩]))
      (.cond (.tmp 72)
        .skip
        (.exit 2))))
      (.seq (.keep [2, 11, 12, 13, 14] (.block 3
        (.draw [0, 0, 2, 0, 14, 30, 62, 0, 0, 384, 896, 0, 0, 6144, 14336, 32766, 65534, 131071, 262143] [⟨0, 0, [], ⟨(some 75), (.move (.tmp 13)), none, []⟩⟩,
          ⟨1, 0, [], ⟨(some 76), (.fieldAddr 2 (.tmp 2)), none, []⟩⟩,
          ⟨2, 2, [], ⟨(some 77), (.load none (.tmp 76)), none, []⟩⟩,
          ⟨3, 0, [], ⟨(some 78), (.move (.tmp 14)), none, []⟩⟩,
          ⟨4, 14, [], ⟨(some 79), (.indexAddr 7 (.tmp 77) (.tmp 78)), none, []⟩⟩,
          ⟨5, 30, [], ⟨(some 80), (.fieldAddr 0 (.tmp 79)), none, []⟩⟩,
          ⟨6, 62, [], ⟨(some 81), (.load none (.tmp 80)), none, []⟩⟩,
          ⟨7, 0, [], ⟨(some 82), (.move (.tmp 11)), none, []⟩⟩,
          ⟨8, 0, [], ⟨(some 83), (.move (.tmp 14)), none, []⟩⟩,
          ⟨9, 384, [], ⟨(some 84), (.indexAddr 1 (.tmp 82) (.tmp 83)), none, []⟩⟩,
          ⟨10, 896, [], ⟨(some 85), (.load none (.tmp 84)), none, []⟩⟩,
          ⟨11, 0, [], ⟨(some 86), (.move (.tmp 12)), none, []⟩⟩,
          ⟨12, 0, [], ⟨(some 87), (.move (.tmp 14)), none, []⟩⟩,
          ⟨13, 6144, [], ⟨(some 88), (.indexAddr 1 (.tmp 86) (.tmp 87)), none, []⟩⟩,
          ⟨14, 14336, [], ⟨(some 89), (.load none (.tmp 88)), none, []⟩⟩,
          ⟨15, 32766, [], ⟨(some 90), (.build [(.int .i64 0), (.int .i64 0), (.int .i64 0)] [(0, 1, (.tmp 81)), (1, 1, (.tmp 85)), (2, 1, (.tmp 89))]), none, []⟩⟩,
          ⟨16, 65534, [], ⟨(some 91), (.buildSlice 1 [(.int .i64 0), (.int .i64 0), (.int .i64 0)] [(0, 3, (.tmp 90))]), none, []⟩⟩,
          ⟨17, 131071, [], ⟨(some 92), (.append 3 24 (.tmp 75) (.tmp 91)), none, []⟩⟩,
          ⟨18, 262143, [], ⟨(some 13), (.move (.tmp 92)), none, []⟩⟩])))
      (.ops [⟨(some 73), (.move (.tmp 14)), none, []⟩,
        ⟨(some 74), (.bin .add (.tmp 73) (.const (.int .i64 1))), none, []⟩,
        ⟨(some 14), (.move (.tmp 74)), none, []⟩]))))))))
  (.seq (.keep [4] (.ops [⟨(some 93), (.move (.tmp 13)), none, []⟩,
    ⟨(some 4), (.move (.tmp 93)), none, []⟩]))
  .ret)))))))))))
theorem t30 : trF Try.prog Try.f30 s30 = some s30 := by kernel_rfl
theorem k30 : okS s30 = true := by kernel_rfl
theorem r30 : resT Try.prog Try.f30.results.toList = some [.t 4] := by kernel_rfl

def s31 : S :=
  (.seq (.keep [0] (.ops [⟨(some 2), (.move (.const (.bool false))), none, []⟩]))
  (.seq (.keep [2] (.ops [⟨(some 3), (.move (.tmp 0)), none, []⟩,
    ⟨(some 4), (.bin .geq (.tmp 3) (.const (.int .i64 0))), none, []⟩,
    ⟨(some 5), (.move (.tmp 4)), none, []⟩,
    ⟨(some 6), (.move (.tmp 0)), (some (5, true)), []⟩,
    ⟨(some 7), (.bin .leq (.tmp 6) (.const (.int .i64 1073741824))), (some (5, true)), []⟩,
    ⟨(some 8), (.pick (.tmp 5) (.tmp 7) (.const (.bool false))), none, []⟩,
    ⟨(some 2), (.move (.tmp 8)), none, []⟩]))
  .ret))
theorem t31 : trF Try.prog Try.f31 s31 = some s31 := by kernel_rfl
theorem k31 : okS s31 = true := by kernel_rfl
theorem r31 : resT Try.prog Try.f31.results.toList = some [.t 2] := by kernel_rfl

def s32 : S :=
  (.seq (.keep [1, 2] (.ops [⟨(some 2), (.box (.tmp 0)), none, []⟩,
    ⟨(some 3), (.move (.const (.int .i64 0))), none, []⟩]))
  (.seq (.keep [3] (.ops [⟨(some 4), (.load none (.tmp 1)), none, []⟩,
    ⟨(some 5), (.makeFunc (.func 34) [] [(.tmp 2)]), none, []⟩,
    ⟨(some 6), (.call (.func 33) [(.tmp 4), (.tmp 5)]), none, []⟩,
    ⟨(some 3), (.move (.tmp 6)), none, []⟩]))
  .ret))
theorem t32 : trF Try.prog Try.f32 s32 = some s32 := by kernel_rfl
theorem k32 : okS s32 = true := by kernel_rfl
theorem r32 : resT Try.prog Try.f32.results.toList = some [.t 3] := by kernel_rfl

def s33 : S :=
  (.seq (.keep [0, 1] (.ops [⟨(some 4), (.move (.const (.int .i64 0))), none, []⟩]))
  (.seq (.keep [0, 1, 5] (.ops [⟨(some 5), (.move (.const (.int .i64 0))), none, []⟩]))
  (.seq (.keep [5] (.seq (.keep [1, 5, 8, 9, 10] (.ops [⟨(some 8), (.move (.tmp 0)), none, []⟩,
    ⟨(some 9), (.len (.tmp 8)), none, []⟩,
    ⟨(some 10), (.move (.const (.int .i64 0))), none, []⟩]))
  (.block 0
    (.loop
      (.keep [1, 5, 8, 9, 10] (.seq (.keep [1, 5, 8, 9, 10, 11] (.ops [⟨(some 11), (.bin .lss (.tmp 10) (.tmp 9)), none, []⟩]))
      (.seq (.keep [1, 5, 8, 9, 10] (.cond (.tmp 11)
        .skip
        (.exit 0)))
      (.seq (.keep [1, 5, 8, 9, 10] (.block 1
        (.seq (.keep [1, 5, 7, 8, 9, 10] (.ops [⟨(some 12), (.indexAddr 3 (.tmp 8) (.tmp 10)), none, []⟩,
          ⟨(some 13), (.load (some 3) (.tmp 12)), none, []⟩,
          ⟨(some 7), (.alloc (.agg #[(.int .i64 0), (.int .i64 0), (.int .i64 0)])), none, []⟩,
          ⟨none, (.store 3 (.tmp 7) (.tmp 13)), none, []⟩]))
        (.ops [⟨(some 14), (.move (.tmp 5)), none, []⟩,
          ⟨(some 15), (.move (.tmp 1)), none, []⟩,
          ⟨(some 16), (.load (some 3) (.tmp 7)), none, []⟩,
          ⟨(some 17), (.call (.tmp 15) [(.tmp 16)]), none, []⟩,
          ⟨(some 18), (.bin .add (.tmp 14) (.tmp 17)), none, []⟩,
          ⟨(some 5), (.move (.tmp 18)), none, []⟩]))))
      (.ops [⟨(some 19), (.bin .add (.tmp 10) (.const (.int .i64 1))), none, []⟩,
        ⟨(some 10), (.move (.tmp 19)), none, []⟩])))))))))
  (.seq (.keep [4] (.ops [⟨(some 20), (.move (.tmp 5)), none, []⟩,
    ⟨(some 4), (.move (.tmp 20)), none, []⟩]))
  .ret))))
theorem t33 : trF Try.prog Try.f33 s33 = some s33 := by kernel_rfl
theorem k33 : okS s33 = true := by kernel_rfl
theorem r33 : resT Try.prog Try.f33.results.toList = some [.t 4] := by kernel_rfl

def s34 : S :=
  (.seq (.keep [1, 2] (.ops [⟨(some 2), (.box (.tmp 0)), none, []⟩,
    ⟨(some 3), (.move (.const (.int .i64 0))), none, []⟩]))
  (.seq (.keep [3] (.ops [⟨(some 4), (.load (some 3) (.tmp 2)), none, []⟩,
    ⟨(some 5), (.load none (.tmp 1)), none, []⟩,
    ⟨(some 6), (.call (.func 35) [(.tmp 4), (.tmp 5)]), none, []⟩,
    ⟨(some 3), (.move (.tmp 6)), none, []⟩]))
  .ret))
theorem t34 : trF Try.prog Try.f34 s34 = some s34 := by kernel_rfl
theorem k34 : okS s34 = true := by kernel_rfl
theorem r34 : resT Try.prog Try.f34.results.toList = some [.t 3] := by kernel_rfl

def s35 : S :=
  (.seq (.keep [1, 2] (.ops [⟨(some 2), (.box (.tmp 0)), none, []⟩,
    ⟨(some 4), (.move (.const (.int .i64 0))), none, []⟩]))
  (.seq (.keep [4] (.ops [⟨(some 5), (.fieldAddr 1 (.tmp 2)), none, []⟩,
    ⟨(some 6), (.load none (.tmp 5)), none, []⟩,
    ⟨(some 7), (.fieldAddr 0 (.tmp 2)), none, []⟩,
    ⟨(some 8), (.load none (.tmp 7)), none, []⟩,
    ⟨(some 9), (.move (.tmp 1)), none, []⟩,
    ⟨(some 10), (.fieldAddr 2 (.tmp 2)), none, []⟩,
    ⟨(some 11), (.load none (.tmp 10)), none, []⟩,
    ⟨(some 12), (.bin .mul (.tmp 9) (.tmp 11)), none, []⟩,
    ⟨(some 13), (.bin .add (.tmp 8) (.tmp 12)), none, []⟩,
    ⟨(some 14), (.minmax false [(.tmp 6), (.tmp 13)]), none, []⟩,
    ⟨(some 4), (.move (.tmp 14)), none, []⟩]))
  .ret))
theorem t35 : trF Try.prog Try.f35 s35 = some s35 := by kernel_rfl
theorem k35 : okS s35 = true := by kernel_rfl
theorem r35 : resT Try.prog Try.f35.results.toList = some [.t 4] := by kernel_rfl

def s36 : S :=
  (.seq (.keep [0, 1] (.ops [⟨(some 4), (.move (.const (.int .i64 0))), none, []⟩]))
  (.seq (.keep [1, 5, 6] (.ops [⟨(some 8), (.move (.tmp 0)), none, []⟩,
    ⟨(some 5), (.move (.const (.int .i64 0))), none, []⟩,
    ⟨(some 6), (.move (.tmp 8)), none, []⟩]))
  (.seq (.keep [5] (.block 0
    (.loop
      (.keep [1, 5, 6] (.seq (.keep [1, 5, 6] (.seq (.keep [1, 5, 6, 11] (.ops [⟨(some 9), (.move (.tmp 5)), none, []⟩,
        ⟨(some 10), (.move (.tmp 6)), none, []⟩,
        ⟨(some 11), (.bin .lss (.tmp 9) (.tmp 10)), none, []⟩]))
      (.cond (.tmp 11)
        .skip
        (.exit 0))))
      (.block 1
        (.seq (.keep [1, 5, 6, 7] (.ops [⟨(some 12), (.move (.tmp 5)), none, []⟩,
          ⟨(some 13), (.move (.tmp 6)), none, []⟩,
          ⟨(some 14), (.bin .add (.tmp 12) (.tmp 13)), none, []⟩,
          ⟨(some 15), (.convInt .u64 (.tmp 14)), none, []⟩,
          ⟨(some 16), (.bin .shr (.tmp 15) (.const (.int .u64 1))), none, []⟩,
          ⟨(some 17), (.convInt .i64 (.tmp 16)), none, []⟩,
          ⟨(some 7), (.move (.tmp 17)), none, []⟩]))
        (.seq (.keep [1, 5, 6, 7, 21] (.ops [⟨(some 18), (.move (.tmp 1)), none, []⟩,
          ⟨(some 19), (.move (.tmp 7)), none, []⟩,
          ⟨(some 20), (.call (.tmp 18) [(.tmp 19)]), none, []⟩,
          ⟨(some 21), (.un .not (.tmp 20)), none, []⟩]))
        (.cond (.tmp 21)
          (.ops [⟨(some 22), (.move (.tmp 7)), none, []⟩,
            ⟨(some 23), (.bin .add (.tmp 22) (.const (.int .i64 1))), none, []⟩,
            ⟨(some 5), (.move (.tmp 23)), none, []⟩])
          (.ops [⟨(some 24), (.move (.tmp 7)), none, []⟩,
            ⟨(some 6), (.move (.tmp 24)), none, []⟩]))))))))))
  (.seq (.keep [4] (.ops [⟨(some 25), (.move (.tmp 5)), none, []⟩,
    ⟨(some 4), (.move (.tmp 25)), none, []⟩]))
  .ret))))
theorem t36 : trF Try.prog Try.f36 s36 = some s36 := by kernel_rfl
theorem k36 : okS s36 = true := by kernel_rfl
theorem r36 : resT Try.prog Try.f36.results.toList = some [.t 4] := by kernel_rfl

def s37 : S :=
  (.seq (.keep [0, 1, 2] (.ops [⟨(some 4), (.move (.const (.bool false))), none, []⟩]))
  (.seq (.keep [4] (.draw [0, 0, 2, 7, 0, 31, 63] [⟨0, 0, [], ⟨(some 5), (.load none (.tmp 1)), none, []⟩⟩,
    ⟨1, 0, [], ⟨(some 6), (.move (.tmp 0)), none, []⟩⟩,
    ⟨2, 2, [], ⟨(some 7), (.bin .add (.tmp 6) (.const (.int .i64 1))), none, []⟩⟩,
    ⟨4, 0, [], ⟨(some 9), (.load none (.tmp 2)), none, []⟩⟩,
    ⟨3, 7, [4], ⟨(some 8), (.call (.tmp 5) [(.tmp 7)]), none, [((.load none (.tmp 2)), none, (some 9))]⟩⟩,
    ⟨5, 31, [], ⟨(some 10), (.bin .gtr (.tmp 8) (.tmp 9)), none, []⟩⟩,
    ⟨6, 63, [], ⟨(some 4), (.move (.tmp 10)), none, []⟩⟩]))
  .ret))
theorem t37 : trF Try.prog Try.f37 s37 = some s37 := by kernel_rfl
theorem k37 : okS s37 = true := by kernel_rfl
theorem r37 : resT Try.prog Try.f37.results.toList = some [.t 4] := by kernel_rfl

def s38 : S :=
  (.seq (.keep [0, 1] (.ops [⟨(some 4), (.move (.const (.int .i64 0))), none, []⟩]))
  (.seq (.keep [0, 1, 5] (.ops [⟨(some 5), (.move (.const (.int .i64 0))), none, []⟩]))
  (.seq (.keep [5] (.seq (.keep [1, 5, 8, 9, 10] (.ops [⟨(some 8), (.move (.tmp 0)), none, []⟩,
    ⟨(some 9), (.len (.tmp 8)), none, []⟩,
    ⟨(some 10), (.move (.const (.int .i64 0))), none, []⟩]))
  (.block 0
    (.loop
      (.keep [1, 5, 8, 9, 10] (.seq (.keep [1, 5, 8, 9, 10, 11] (.ops [⟨(some 11), (.bin .lss (.tmp 10) (.tmp 9)), none, []⟩]))
      (.seq (.keep [1, 5, 8, 9, 10] (.cond (.tmp 11)
        .skip
        (.exit 0)))
      (.seq (.keep [1, 5, 8, 9, 10] (.block 1
        (.seq (.keep [1, 5, 7, 8, 9, 10] (.ops [⟨(some 12), (.indexAddr 7 (.tmp 8) (.tmp 10)), none, []⟩,
          ⟨(some 13), (.load (some 7) (.tmp 12)), none, []⟩,
          ⟨(some 7), (.alloc (.agg (List.replicate 7 (.int .i64 0)).toArray)), none, []⟩,
          ⟨none, (.store 7 (.tmp 7) (.tmp 13)), none, []⟩]))
        (.ops [⟨(some 14), (.move (.tmp 5)), none, []⟩,
          ⟨(some 15), (.move (.tmp 1)), none, []⟩,
          ⟨(some 16), (.load (some 7) (.tmp 7)), none, []⟩,
          ⟨(some 17), (.call (.tmp 15) [(.tmp 16)]), none, []⟩,
          ⟨(some 18), (.bin .add (.tmp 14) (.tmp 17)), none, []⟩,
          ⟨(some 5), (.move (.tmp 18)), none, []⟩]))))
      (.ops [⟨(some 19), (.bin .add (.tmp 10) (.const (.int .i64 1))), none, []⟩,
        ⟨(some 10), (.move (.tmp 19)), none, []⟩])))))))))
  (.seq (.keep [4] (.ops [⟨(some 20), (.move (.tmp 5)), none, []⟩,
    ⟨(some 4), (.move (.tmp 20)), none, []⟩]))
  .ret))))
theorem t38 : trF Try.prog Try.f38 s38 = some s38 := by kernel_rfl
theorem k38 : okS s38 = true := by kernel_rfl
theorem r38 : resT Try.prog Try.f38.results.toList = some [.t 4] := by kernel_rfl

def s39 : S :=
  (.seq (.keep [1] (.ops [⟨(some 1), (.box (.tmp 0)), none, []⟩,
    ⟨(some 2), (.move (.const (.int .i64 0))), none, []⟩]))
  (.seq (.keep [2] (.ops [⟨(some 3), (.fieldAddr 1 (.tmp 1)), none, []⟩,
    ⟨(some 4), (.fieldAddr 0 (.tmp 3)), none, []⟩,
    ⟨(some 5), (.load none (.tmp 4)), none, []⟩,
    ⟨(some 2), (.move (.tmp 5)), none, []⟩]))
  .ret))
theorem t39 : trF Try.prog Try.f39 s39 = some s39 := by kernel_rfl
theorem k39 : okS s39 = true := by kernel_rfl
theorem r39 : resT Try.prog Try.f39.results.toList = some [.t 2] := by kernel_rfl

def s40 : S :=
  (.seq (.keep [1] (.ops [⟨(some 1), (.box (.tmp 0)), none, []⟩,
    ⟨(some 2), (.move (.const (.int .i64 0))), none, []⟩]))
  (.seq (.keep [2] (.ops [⟨(some 3), (.fieldAddr 4 (.tmp 1)), none, []⟩,
    ⟨(some 4), (.fieldAddr 0 (.tmp 3)), none, []⟩,
    ⟨(some 5), (.load none (.tmp 4)), none, []⟩,
    ⟨(some 2), (.move (.tmp 5)), none, []⟩]))
  .ret))
theorem t40 : trF Try.prog Try.f40 s40 = some s40 := by kernel_rfl
theorem k40 : okS s40 = true := by kernel_rfl
theorem r40 : resT Try.prog Try.f40.results.toList = some [.t 2] := by kernel_rfl

def s41 : S :=
  (.seq (.keep [2, 3] (.ops [⟨(some 2), (.box (.tmp 0)), none, []⟩,
    ⟨(some 3), (.box (.tmp 1)), none, []⟩,
    ⟨(some 4), (.move (.const (.int .i64 0))), none, []⟩,
    ⟨(some 5), (.move (.const (.bool false))), none, []⟩]))
  (.seq (.keep [2, 3, 6] (.ops [⟨(some 7), (.fieldAddr 2 (.tmp 2)), none, []⟩,
    ⟨(some 8), (.load none (.tmp 7)), none, []⟩,
    ⟨(some 9), (.len (.tmp 8)), none, []⟩,
    ⟨(some 10), (.makeFunc (.func 47) [] [(.tmp 2), (.tmp 3)]), none, []⟩,
    ⟨(some 11), (.call (.func 36) [(.tmp 9), (.tmp 10)]), none, []⟩,
    ⟨(some 6), (.move (.tmp 11)), none, []⟩]))
  (.seq (.keep [4, 5] (.draw [0, 0, 0, 4, 12, 30, 62, 126, 254, 126, 1022, 2046, 4094, 126, 16382, 32766, 127, 131071] [⟨0, 0, [], ⟨(some 12), (.move (.tmp 6)), none, []⟩⟩,
    ⟨1, 0, [], ⟨(some 13), (.move (.tmp 6)), none, []⟩⟩,
    ⟨2, 0, [], ⟨(some 14), (.fieldAddr 2 (.tmp 2)), none, []⟩⟩,
    ⟨3, 4, [], ⟨(some 15), (.load none (.tmp 14)), none, []⟩⟩,
    ⟨4, 12, [], ⟨(some 16), (.len (.tmp 15)), none, []⟩⟩,
    ⟨5, 30, [], ⟨(some 17), (.bin .lss (.tmp 13) (.tmp 16)), none, []⟩⟩,
    ⟨6, 62, [], ⟨(some 18), (.move (.tmp 17)), none, []⟩⟩,
    ⟨7, 126, [], ⟨(some 19), (.fieldAddr 2 (.tmp 2)), (some (18, true)), []⟩⟩,
    ⟨8, 254, [], ⟨(some 20), (.load none (.tmp 19)), (some (18, true)), []⟩⟩,
    ⟨9, 126, [], ⟨(some 21), (.move (.tmp 6)), (some (18, true)), []⟩⟩,
    ⟨10, 1022, [], ⟨(some 22), (.indexAddr 7 (.tmp 20) (.tmp 21)), (some (18, true)), []⟩⟩,
    ⟨11, 2046, [], ⟨(some 23), (.fieldAddr 0 (.tmp 22)), (some (18, true)), []⟩⟩,
    ⟨12, 4094, [], ⟨(some 24), (.load none (.tmp 23)), (some (18, true)), []⟩⟩,
    ⟨13, 126, [], ⟨(some 25), (.load none (.tmp 3)), (some (18, true)), []⟩⟩,
    ⟨14, 16382, [], ⟨(some 26), (.bin .eql (.tmp 24) (.tmp 25)), (some (18, true)), []⟩⟩,
    ⟨15, 32766, [], ⟨(some 27), (.pick (.tmp 18) (.tmp 26) (.const (.bool false))), none, []⟩⟩,
    ⟨16, 127, [], ⟨(some 4), (.move (.tmp 12)), none, []⟩⟩,
    ⟨17, 131071, [], ⟨(some 5), (.move (.tmp 27)), none, []⟩⟩]))
  .ret)))
theorem t41 : trF Try.prog Try.f41 s41 = some s41 := by kernel_rfl
theorem k41 : okS s41 = true := by kernel_rfl
theorem r41 : resT Try.prog Try.f41.results.toList = some [.t 4, .t 5] := by kernel_rfl

def s42 : S :=
  (.seq (.keep [0, 1, 2] (.ops [⟨(some 6), (.move (.const (.int .i64 0))), none, []⟩]))
  (.seq (.keep [0, 1, 2, 7] (.ops [⟨(some 7), (.move (.const (.int .i64 0))), none, []⟩]))
  (.seq (.keep [0, 1, 2, 7, 8] (.ops [⟨(some 8), (.move (.const (.int .i64 1073741824))), none, []⟩]))
  (.seq (.keep [7] (.block 0
    (.loop
      (.keep [0, 1, 2, 7, 8] (.seq (.keep [0, 1, 2, 7, 8] (.seq (.keep [0, 1, 2, 7, 8, 12] (.ops [⟨(some 10), (.move (.tmp 7)), none, []⟩,
        ⟨(some 11), (.move (.tmp 8)), none, []⟩,
        ⟨(some 12), (.bin .lss (.tmp 10) (.tmp 11)), none, []⟩]))
      (.cond (.tmp 12)
        .skip
        (.exit 0))))
      (.block 1
        (.seq (.keep [0, 1, 2, 7, 8, 9] (.ops [⟨(some 13), (.move (.tmp 7)), none, []⟩,
          ⟨(some 14), (.move (.tmp 8)), none, []⟩,
          ⟨(some 15), (.bin .add (.tmp 13) (.tmp 14)), none, []⟩,
          ⟨(some 16), (.bin .add (.tmp 15) (.const (.int .i64 1))), none, []⟩,
          ⟨(some 17), (.bin .quo (.tmp 16) (.const (.int .i64 2))), none, []⟩,
          ⟨(some 9), (.move (.tmp 17)), none, []⟩]))
        (.seq (.keep [0, 1, 2, 7, 8, 9, 23] (.ops [⟨(some 18), (.move (.tmp 1)), none, []⟩,
          ⟨(some 19), (.move (.tmp 2)), none, []⟩,
          ⟨(some 20), (.move (.tmp 9)), none, []⟩,
          ⟨(some 21), (.call (.func 43) [(.tmp 18), (.tmp 19), (.tmp 20)]), none, []⟩,
          ⟨(some 22), (.move (.tmp 0)), none, []⟩,
          ⟨(some 23), (.bin .leq (.tmp 21) (.tmp 22)), none, []⟩]))
        (.cond (.tmp 23)
          (.ops [⟨(some 24), (.move (.tmp 9)), none, []⟩,
            ⟨(some 7), (.move (.tmp 24)), none, []⟩])
          (.ops [⟨(some 25), (.move (.tmp 9)), none, []⟩,
            ⟨(some 26), (.bin .sub (.tmp 25) (.const (.int .i64 1))), none, []⟩,
            ⟨(some 8), (.move (.tmp 26)), none, []⟩]))))))))))
  (.seq (.keep [6] (.ops [⟨(some 27), (.move (.tmp 7)), none, []⟩,
    ⟨(some 6), (.move (.tmp 27)), none, []⟩]))
  .ret)))))
theorem t42 : trF Try.prog Try.f42 s42 = some s42 := by kernel_rfl
theorem k42 : okS s42 = true := by kernel_rfl
theorem r42 : resT Try.prog Try.f42.results.toList = some [.t 6] := by kernel_rfl

def s43 : S :=
  (.seq (.keep [0, 1, 2] (.ops [⟨(some 6), (.move (.const (.int .i64 0))), none, []⟩]))
  (.seq (.keep [0, 1, 2, 7] (.ops [⟨(some 7), (.move (.const (.int .i64 0))), none, []⟩]))
  (.seq (.keep [7] (.seq (.keep [0, 1, 2, 7, 8] (.ops [⟨(some 8), (.move (.const (.int .i64 0))), none, []⟩]))
  (.block 0
    (.loop
      (.keep [0, 1, 2, 7, 8] (.seq (.keep [0, 1, 2, 7, 8] (.seq (.keep [0, 1, 2, 7, 8, 12] (.ops [⟨(some 9), (.move (.tmp 8)), none, []⟩,
        ⟨(some 10), (.move (.tmp 0)), none, []⟩,
        ⟨(some 11), (.len (.tmp 10)), none, []⟩,
        ⟨(some 12), (.bin .lss (.tmp 9) (.tmp 11)), none, []⟩]))
      (.cond (.tmp 12)
        .skip
        (.exit 0))))
      (.seq (.keep [0, 1, 2, 7, 8] (.block 1
        (.draw [0, 0, 0, 6, 14, 0, 0, 96, 224, 0, 1022, 2047, 4095] [⟨0, 0, [], ⟨(some 15), (.move (.tmp 7)), none, []⟩⟩,
          ⟨1, 0, [], ⟨(some 16), (.move (.tmp 0)), none, []⟩⟩,
          ⟨2, 0, [], ⟨(some 17), (.move (.tmp 8)), none, []⟩⟩,
          ⟨3, 6, [], ⟨(some 18), (.indexAddr 3 (.tmp 16) (.tmp 17)), none, []⟩⟩,
          ⟨4, 14, [], ⟨(some 19), (.load (some 3) (.tmp 18)), none, []⟩⟩,
          ⟨5, 0, [], ⟨(some 20), (.move (.tmp 1)), none, []⟩⟩,
          ⟨6, 0, [], ⟨(some 21), (.move (.tmp 8)), none, []⟩⟩,
          ⟨7, 96, [], ⟨(some 22), (.indexAddr 1 (.tmp 20) (.tmp 21)), none, []⟩⟩,
          ⟨8, 224, [], ⟨(some 23), (.load none (.tmp 22)), none, []⟩⟩,
          ⟨9, 0, [], ⟨(some 24), (.move (.tmp 2)), none, []⟩⟩,
          ⟨10, 1022, [], ⟨(some 25), (.call (.func 44) [(.tmp 19), (.tmp 23), (.tmp 24)]), none, []⟩⟩,
          ⟨11, 2047, [], ⟨(some 26), (.bin .add (.tmp 15) (.tmp 25)), none, []⟩⟩,
          ⟨12, 4095, [], ⟨(some 7), (.move (.tmp 26)), none, []⟩⟩])))
      (.ops [⟨(some 13), (.move (.tmp 8)), none, []⟩,
        ⟨(some 14), (.bin .add (.tmp 13) (.const (.int .i64 1))), none, []⟩,
        ⟨(some 8), (.move (.tmp 14)), none, []⟩]))))))))
  (.seq (.keep [6] (.ops [⟨(some 27), (.move (.tmp 7)), none, []⟩,
    ⟨(some 6), (.move (.tmp 27)), none, []⟩]))
  .ret))))
theorem t43 : trF Try.prog Try.f43 s43 = some s43 := by kernel_rfl
theorem k43 : okS s43 = true := by kernel_rfl
theorem r43 : resT Try.prog Try.f43.results.toList = some [.t 6] := by kernel_rfl

def s44 : S :=
  (.seq (.keep [1, 2, 3] (.ops [⟨(some 3), (.box (.tmp 0)), none, []⟩,
    ⟨(some 6), (.move (.const (.int .i64 0))), none, []⟩]))
  (.seq (.keep [6] (.draw [0, 0, 3, 0, 0, 31, 0, 0, 128, 448, 1023, 2047, 4095] [⟨0, 0, [], ⟨(some 7), (.load (some 3) (.tmp 3)), none, []⟩⟩,
    ⟨1, 0, [], ⟨(some 8), (.move (.tmp 1)), none, []⟩⟩,
    ⟨3, 0, [], ⟨(some 10), (.load (some 3) (.tmp 3)), none, []⟩⟩,
    ⟨4, 0, [], ⟨(some 11), (.move (.tmp 1)), none, []⟩⟩,
    ⟨6, 0, [], ⟨(some 13), (.move (.tmp 2)), none, []⟩⟩,
    ⟨7, 0, [], ⟨(some 14), (.fieldAddr 2 (.tmp 3)), none, []⟩⟩,
    ⟨8, 128, [], ⟨(some 15), (.load none (.tmp 14)), none, []⟩⟩,
    ⟨9, 448, [], ⟨(some 16), (.bin .mul (.tmp 13) (.tmp 15)), none, []⟩⟩,
    ⟨2, 3, [3, 8], ⟨(some 9), (.call (.func 48) [(.tmp 7), (.tmp 8)]), none, [((.load (some 3) (.tmp 3)), none, (some 10)), ((.load none (.tmp 14)), none, (some 15))]⟩⟩,
    ⟨5, 31, [8], ⟨(some 12), (.call (.func 49) [(.tmp 10), (.tmp 11)]), none, [((.load none (.tmp 14)), none, (some 15))]⟩⟩,
    ⟨10, 1023, [], ⟨(some 17), (.bin .add (.tmp 12) (.tmp 16)), none, []⟩⟩,
    ⟨11, 2047, [], ⟨(some 18), (.minmax false [(.tmp 9), (.tmp 17)]), none, []⟩⟩,
    ⟨12, 4095, [], ⟨(some 6), (.move (.tmp 18)), none, []⟩⟩]))
  .ret))
theorem t44 : trF Try.prog Try.f44 s44 = some s44 := by kernel_rfl
theorem k44 : okS s44 = true := by kernel_rfl
theorem r44 : resT Try.prog Try.f44.results.toList = some [.t 6] := by kernel_rfl

def s45 : S :=
  (.seq (.keep [0] (.ops [⟨(some 2), (.move (.const (.int .i64 0))), none, []⟩]))
  (.seq (.keep [2] (.ops [⟨(some 3), (.move (.tmp 0)), none, []⟩,
    ⟨(some 4), (.minmax false [(.tmp 3), (.const (.int .i64 1073741824))]), none, []⟩,
    ⟨(some 5), (.minmax true [(.const (.int .i64 0)), (.tmp 4)]), none, []⟩,
    ⟨(some 2), (.move (.tmp 5)), none, []⟩]))
  .ret))
theorem t45 : trF Try.prog Try.f45 s45 = some s45 := by kernel_rfl
theorem k45 : okS s45 = true := by kernel_rfl
theorem r45 : resT Try.prog Try.f45.results.toList = some [.t 2] := by kernel_rfl

def s46 : S :=
  (.seq (.keep [0, 1, 4] (.ops [⟨(some 4), (.alloc (.agg #[(.int .i64 0), (.int .i64 0), (.int .i64 0)])), none, []⟩]))
  (.seq (.keep [1, 4] (.seq (.keep [0, 1, 4, 5] (.ops [⟨(some 5), (.move (.const (.int .i64 0))), none, []⟩]))
  (.block 0
    (.loop
      (.keep [0, 1, 4, 5] (.seq (.keep [0, 1, 4, 5] (.seq (.keep [0, 1, 4, 5, 9] (.ops [⟨(some 6), (.move (.tmp 5)), none, []⟩,
        ⟨(some 7), (.move (.tmp 0)), none, []⟩,
        ⟨(some 8), (.len (.tmp 7)), none, []⟩,
        ⟨(some 9), (.bin .lss (.tmp 6) (.tmp 8)), none, []⟩]))
      (.cond (.tmp 9)
        .skip
        (.exit 0))))
      (.seq (.keep [0, 1, 4, 5] (.block 1
        (.seq (.keep [0, 1, 4, 5, 18] (.ops [⟨(some 12), (.move (.tmp 0)), none, []⟩,
          ⟨(some 13), (.move (.tmp 5)), none, []⟩,
          ⟨(some 14), (.indexAddr 3 (.tmp 12) (.tmp 13)), none, []⟩,
          ⟨(some 15), (.fieldAddr 0 (.tmp 14)), none, []⟩,
          ⟨(some 16), (.load none (.tmp 15)), none, []⟩,
          ⟨(some 17), (.move (.tmp 1)), none, []⟩,
          ⟨(some 18), (.bin .eql (.tmp 16) (.tmp 17)), none, []⟩]))
        (.cond (.tmp 18)
          (.seq (.keep [4] (.draw [0, 0, 0, 6, 14, 30, 62, 0, 0, 384, 896, 1920, 4094, 8191, 16383] [⟨0, 0, [], ⟨(some 19), (.move (.tmp 1)), none, []⟩⟩,
            ⟨1, 0, [], ⟨(some 20), (.move (.tmp 0)), none, []⟩⟩,
            ⟨2, 0, [], ⟨(some 21), (.move (.tmp 5)), none, []⟩⟩,
            ⟨3, 6, [], ⟨(some 22), (.indexAddr 3 (.tmp 20) (.tmp 21)), none, []⟩⟩,
            ⟨4, 14, [], ⟨(some 23), (.fieldAddr 1 (.tmp 22)), none, []⟩⟩,
            ⟨5, 30, [], ⟨(some 24), (.load none (.tmp 23)), none, []⟩⟩,
            ⟨7, 0, [], ⟨(some 26), (.move (.tmp 0)), none, []⟩⟩,
            ⟨8, 0, [], ⟨(some 27), (.move (.tmp 5)), none, []⟩⟩,
            ⟨9, 384, [], ⟨(some 28), (.indexAddr 3 (.tmp 26) (.tmp 27)), none, []⟩⟩,
            ⟨10, 896, [], ⟨(some 29), (.fieldAddr 2 (.tmp 28)), none, []⟩⟩,
            ⟨11, 1920, [], ⟨(some 30), (.load none (.tmp 29)), none, []⟩⟩,
            ⟨6, 62, [11], ⟨(some 25), (.call (.func 50) [(.tmp 24)]), none, [((.load none (.tmp 29)), none, (some 30))]⟩⟩,
            ⟨12, 4094, [], ⟨(some 31), (.call (.func 50) [(.tmp 30)]), none, []⟩⟩,
            ⟨13, 8191, [], ⟨(some 32), (.build [(.int .i64 0), (.int .i64 0), (.int .i64 0)] [(0, 1, (.tmp 19)), (1, 1, (.tmp 25)), (2, 1, (.tmp 31))]), none, []⟩⟩,
            ⟨14, 16383, [], ⟨none, (.store 3 (.tmp 4) (.tmp 32)), none, []⟩⟩]))
          .ret)
          .skip))))
      (.ops [⟨(some 10), (.move (.tmp 5)), none, []⟩,
        ⟨(some 11), (.bin .add (.tmp 10) (.const (.int .i64 1))), none, []⟩,
        ⟨(some 5), (.move (.tmp 11)), none, []⟩]))))))))
  (.seq (.keep [4] (.ops [⟨(some 33), (.move (.tmp 1)), none, []⟩,
    ⟨(some 34), (.build [(.int .i64 0), (.int .i64 0), (.int .i64 0)] [(0, 1, (.tmp 33))]), none, []⟩,
    ⟨none, (.store 3 (.tmp 4) (.tmp 34)), none, []⟩]))
  .ret)))
theorem t46 : trF Try.prog Try.f46 s46 = some s46 := by kernel_rfl
theorem k46 : okS s46 = true := by kernel_rfl
theorem r46 : resT Try.prog Try.f46.results.toList = some [.c 4 (some 3)] := by kernel_rfl

def s47 : S :=
  (.seq (.keep [0, 1, 2] (.ops [⟨(some 4), (.move (.const (.bool false))), none, []⟩]))
  (.seq (.keep [4] (.draw [0, 1, 0, 7, 15, 31, 0, 127, 255] [⟨0, 0, [], ⟨(some 5), (.fieldAddr 2 (.tmp 1)), none, []⟩⟩,
    ⟨1, 1, [], ⟨(some 6), (.load none (.tmp 5)), none, []⟩⟩,
    ⟨2, 0, [], ⟨(some 7), (.move (.tmp 0)), none, []⟩⟩,
    ⟨3, 7, [], ⟨(some 8), (.indexAddr 7 (.tmp 6) (.tmp 7)), none, []⟩⟩,
    ⟨4, 15, [], ⟨(some 9), (.fieldAddr 0 (.tmp 8)), none, []⟩⟩,
    ⟨5, 31, [], ⟨(some 10), (.load none (.tmp 9)), none, []⟩⟩,
    ⟨6, 0, [], ⟨(some 11), (.load none (.tmp 2)), none, []⟩⟩,
    ⟨7, 127, [], ⟨(some 12), (.bin .geq (.tmp 10) (.tmp 11)), none, []⟩⟩,
    ⟨8, 255, [], ⟨(some 4), (.move (.tmp 12)), none, []⟩⟩]))
  .ret))
theorem t47 : trF Try.prog Try.f47 s47 = some s47 := by kernel_rfl
theorem k47 : okS s47 = true := by kernel_rfl
theorem r47 : resT Try.prog Try.f47.results.toList = some [.t 4] := by kernel_rfl

def s48 : S :=
  (.seq (.keep [1, 2] (.ops [⟨(some 2), (.box (.tmp 0)), none, []⟩,
    ⟨(some 4), (.move (.const (.int .i64 0))), none, []⟩]))
  (.seq (.keep [4] (.ops [⟨(some 5), (.fieldAddr 1 (.tmp 2)), none, []⟩,
    ⟨(some 6), (.load none (.tmp 5)), none, []⟩,
    ⟨(some 7), (.move (.tmp 1)), none, []⟩,
    ⟨(some 8), (.minmax false [(.tmp 6), (.tmp 7)]), none, []⟩,
    ⟨(some 4), (.move (.tmp 8)), none, []⟩]))
  .ret))
theorem t48 : trF Try.prog Try.f48 s48 = some s48 := by kernel_rfl
theorem k48 : okS s48 = true := by kernel_rfl
theorem r48 : resT Try.prog Try.f48.results.toList = some [.t 4] := by kernel_rfl

def s49 : S :=
  (.seq (.keep [1, 2] (.ops [⟨(some 2), (.box (.tmp 0)), none, []⟩,
    ⟨(some 4), (.move (.const (.int .i64 0))), none, []⟩]))
  (.seq (.keep [4] (.ops [⟨(some 5), (.fieldAddr 0 (.tmp 2)), none, []⟩,
    ⟨(some 6), (.load none (.tmp 5)), none, []⟩,
    ⟨(some 7), (.move (.tmp 1)), none, []⟩,
    ⟨(some 8), (.minmax false [(.tmp 6), (.tmp 7)]), none, []⟩,
    ⟨(some 4), (.move (.tmp 8)), none, []⟩]))
  .ret))
theorem t49 : trF Try.prog Try.f49 s49 = some s49 := by kernel_rfl
theorem k49 : okS s49 = true := by kernel_rfl
theorem r49 : resT Try.prog Try.f49.results.toList = some [.t 4] := by kernel_rfl

def s50 : S :=
  (.seq (.keep [0] (.ops [⟨(some 2), (.move (.const (.int .i64 0))), none, []⟩]))
  (.seq (.keep [2] (.ops [⟨(some 3), (.move (.tmp 0)), none, []⟩,
    ⟨(some 4), (.minmax false [(.tmp 3), (.const (.int .i64 1073741824))]), none, []⟩,
    ⟨(some 5), (.minmax true [(.const (.int .i64 0)), (.tmp 4)]), none, []⟩,
    ⟨(some 2), (.move (.tmp 5)), none, []⟩]))
  .ret))
theorem t50 : trF Try.prog Try.f50 s50 = some s50 := by kernel_rfl
theorem k50 : okS s50 = true := by kernel_rfl
theorem r50 : resT Try.prog Try.f50.results.toList = some [.t 2] := by kernel_rfl

end Go.Proofs.Ytimcgoghjebalaa
