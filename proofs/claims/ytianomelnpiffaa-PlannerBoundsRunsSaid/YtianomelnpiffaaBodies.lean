/- The bodies of the functions, resolved, checked by the kernel. Conditions: none. -/
import Derived.Test.YtianomelnpiffaaProg
import Derived.KernelRfl
import Derived.Test.YtianomelnpiffaaCn28
set_option linter.all false
namespace Go.Proofs.Ytianomelnpiffaa
open Go Go.Cn

def s3 : S :=
  (.seq (.keep [3, 6, 7, 8, 10, 11] (.ops [⟨(some 6), (.box (.tmp 0)), none, []⟩,
    ⟨(some 7), (.box (.tmp 1)), none, []⟩,
    ⟨(some 8), (.box (.tmp 2)), none, []⟩,
    ⟨(some 10), (.box (.tmp 4)), none, []⟩,
    ⟨(some 11), (.box (.tmp 5)), none, []⟩,
    ⟨(some 12), (.move (.const (.bool false))), none, []⟩]))
  (.seq (.keep [3, 6, 7, 8, 10, 11, 13, 14] (.ops [⟨(some 20), (.load (some 4) (.tmp 6)), none, []⟩,
    ⟨(some 21), (.load (some 2) (.tmp 7)), none, []⟩,
    ⟨(some 22), (.move (.tmp 3)), none, []⟩,
    ⟨(some 23), (.call (.func 9) [(.tmp 20), (.tmp 21), (.tmp 22)]), none, []⟩,
    ⟨(some 19), (.move (.tmp 23)), none, []⟩,
    ⟨(some 24), (.extract (.tmp 19) 0), none, []⟩,
    ⟨(some 25), (.extract (.tmp 19) 1), none, []⟩,
    ⟨(some 13), (.move (.tmp 24)), none, []⟩,
    ⟨(some 14), (.move (.tmp 25)), none, []⟩]))
  (.seq (.keep [3, 6, 7, 8, 10, 11, 13, 14, 15, 16] (.ops [⟨(some 27), (.load (some 4) (.tmp 6)), none, []⟩,
    ⟨(some 28), (.load (some 2) (.tmp 7)), none, []⟩,
    ⟨(some 29), (.load (some 2) (.tmp 8)), none, []⟩,
    ⟨(some 30), (.call (.func 10) [(.tmp 27), (.tmp 28), (.tmp 29)]), none, []⟩,
    ⟨(some 26), (.move (.tmp 30)), none, []⟩,
    ⟨(some 31), (.extract (.tmp 26) 0), none, []⟩,
    ⟨(some 32), (.extract (.tmp 26) 1), none, []⟩,
    ⟨(some 15), (.alloc (.agg #[(.int .i64 0), (.int .i64 0), (.int .i64 0)])), none, []⟩,
    ⟨none, (.store 3 (.tmp 15) (.tmp 31)), none, []⟩,
    ⟨(some 16), (.move (.tmp 32)), none, []⟩]))
  (.seq (.keep [6, 7, 8, 10, 11, 13, 14, 15, 16, 17] (.ops [⟨(some 33), (.load (some 4) (.tmp 6)), none, []⟩,
    ⟨(some 34), (.load (some 2) (.tmp 7)), none, []⟩,
    ⟨(some 35), (.move (.tmp 3)), none, []⟩,
    ⟨(some 36), (.call (.func 11) [(.tmp 33), (.tmp 34), (.tmp 35)]), none, []⟩,
    ⟨(some 17), (.alloc (.agg #[(.slice none 0 0), (.int .i64 0)])), none, []⟩,
    ⟨none, (.store 2 (.tmp 17) (.tmp 36)), none, []⟩]))
  (.seq (.keep [6, 7, 10, 11, 13, 14, 15, 16, 17, 18] (.ops [⟨(some 37), (.load (some 4) (.tmp 6)), none, []⟩,
    ⟨(some 38), (.load (some 2) (.tmp 7)), none, []⟩,
    ⟨(some 39), (.load (some 2) (.tmp 8)), none, []⟩,
    ⟨(some 40), (.call (.func 12) [(.tmp 37), (.tmp 38), (.tmp 39)]), none, []⟩,
    ⟨(some 18), (.alloc (.agg (List.replicate 4 (.int .i64 0)).toArray)), none, []⟩,
    ⟨none, (.store 4 (.tmp 18) (.tmp 40)), none, []⟩]))
  (.seq (.keep [12] (.draw [0, 1, 3, 3, 15, 3, 3, 127, 255, 511, 1023, 2047, 2047, 6143, 16383, 32767, 65535, 131071, 131071, 393215, 1048575, 2097151, 4194303, 8388607, 8388607, 25165823, 67108863, 134217727, 268435455, 536870911, 536870911, 1610612735, 4294967295, 8589934591, 17179869183, 34359738367, 34359738367, 137438953471, 34359738367, 34359738367, 1099511627775, 2199023255551, 4398046511103, 8796093022207] [⟨0, 0, [], ⟨(some 41), (.call (.func 13) []), none, []⟩⟩,
    ⟨1, 1, [], ⟨(some 42), (.move (.tmp 41)), none, []⟩⟩,
    ⟨2, 3, [], ⟨(some 43), (.load (some 4) (.tmp 6)), (some (42, true)), []⟩⟩,
    ⟨3, 3, [], ⟨(some 44), (.load (some 2) (.tmp 7)), (some (42, true)), []⟩⟩,
    ⟨5, 3, [], ⟨(some 46), (.load (some 4) (.tmp 6)), (some (42, true)), []⟩⟩,
    ⟨6, 3, [], ⟨(some 47), (.load (some 2) (.tmp 7)), (some (42, true)), []⟩⟩,
    ⟨4, 15, [5, 6], ⟨(some 45), (.call (.func 14) [(.tmp 43), (.tmp 44)]), (some (42, true)), [((.load (some 4) (.tmp 6)), (some (42, true)), (some 46)), ((.load (some 2) (.tmp 7)), (some (42, true)), (some 47))]⟩⟩,
    ⟨7, 127, [], ⟨(some 48), (.call (.func 15) [(.tmp 46), (.tmp 47)]), (some (42, true)), []⟩⟩,
    ⟨8, 255, [], ⟨(some 49), (.bin .eql (.tmp 45) (.tmp 48)), (some (42, true)), []⟩⟩,
    ⟨9, 511, [], ⟨(some 50), (.pick (.tmp 42) (.tmp 49) (.const (.bool false))), none, []⟩⟩,
    ⟨10, 1023, [], ⟨(some 51), (.move (.tmp 50)), none, []⟩⟩,
    ⟨11, 2047, [], ⟨(some 52), (.move (.tmp 13)), (some (51, true)), []⟩⟩,
    ⟨12, 2047, [], ⟨(some 53), (.fieldAddr 0 (.tmp 17)), (some (51, true)), []⟩⟩,
    ⟨13, 6143, [], ⟨(some 54), (.load none (.tmp 53)), (some (51, true)), []⟩⟩,
    ⟨14, 16383, [], ⟨(some 55), (.call (.func 16) [(.tmp 52), (.tmp 54)]), (some (51, true)), []⟩⟩,
    ⟨15, 32767, [], ⟨(some 56), (.pick (.tmp 51) (.tmp 55) (.const (.bool false))), none, []⟩⟩,
    ⟨16, 65535, [], ⟨(some 57), (.move (.tmp 56)), none, []⟩⟩,
    ⟨17, 131071, [], ⟨(some 58), (.move (.tmp 14)), (some (57, true)), []⟩⟩,
    ⟨18, 131071, [], ⟨(some 59), (.fieldAddr 1 (.tmp 17)), (some (57, true)), []⟩⟩,
    ⟨19, 393215, [], ⟨(some 60), (.load none (.tmp 59)), (some (57, true)), []⟩⟩,
    ⟨20, 1048575, [], ⟨(some 61), (.bin .eql (.tmp 58) (.tmp 60)), (some (57, true)), []⟩⟩,
    ⟨21, 2097151, [], ⟨(some 62), (.pick (.tmp 57) (.tmp 61) (.const (.bool false))), none, []⟩⟩,
    ⟨22, 4194303, [], ⟨(some 63), (.move (.tmp 62)), none, []⟩⟩,
    ⟨23, 8388607, [], ⟨(some 64), (.load (some 3) (.tmp 15)), (some (63, true)), []⟩⟩,
    ⟨24, 8388607, [], ⟨(some 65), (.fieldAddr 0 (.tmp 18)), (some (63, true)), []⟩⟩,
    ⟨25, 25165823, [], ⟨(some 66), (.load (some 3) (.tmp 65)), (some (63, true)), []⟩⟩,
    ⟨26, 67108863, [], ⟨(some 67), (.eqAgg false [(.int .i64), (.int .i64), (.int .i64)] (.tmp 64) (.tmp 66)), (some (63, true)), []⟩⟩,
    ⟨27, 134217727, [], ⟨(some 68), (.pick (.tmp 63) (.tmp 67) (.const (.bool false))), none, []⟩⟩,
    ⟨28, 268435455, [], ⟨(some 69), (.move (.tmp 68)), none, []⟩⟩,
    ⟨29, 536870911, [], ⟨(some 70), (.move (.tmp 16)), (some (69, true)), []⟩⟩,
    ⟨30, 536870911, [], ⟨(some 71), (.fieldAddr 3 (.tmp 18)), (some (69, true)), []⟩⟩,
    ⟨31, 1610612735, [], ⟨(some 72), (.load none (.tmp 71)), (some (69, true)), []⟩⟩,
    ⟨32, 4294967295, [], ⟨(some 73), (.bin .eql (.tmp 70) (.tmp 72)), (some (69, true)), []⟩⟩,
    ⟨33, 8589934591, [], ⟨(some 74), (.pick (.tmp 69) (.tmp 73) (.const (.bool false))), none, []⟩⟩,
    ⟨34, 17179869183, [], ⟨(some 75), (.move (.tmp 74)), none, []⟩⟩,
    ⟨35, 34359738367, [], ⟨(some 76), (.load (some 3) (.tmp 10)), (some (75, true)), []⟩⟩,
    ⟨36, 34359738367, [], ⟨(some 77), (.load (some 3) (.tmp 11)), (some (75, true)), []⟩⟩,
    ⟨38, 34359738367, [], ⟨(some 79), (.load (some 3) (.tmp 10)), (some (75, true)), []⟩⟩,
    ⟨39, 34359738367, [], ⟨(some 80), (.load (some 3) (.tmp 11)), (some (75, true)), []⟩⟩,
    ⟨37, 137438953471, [38, 39], ⟨(some 78), (.call (.func 17) [(.tmp 76), (.tmp 77)]), (some (75, true)), [((.load (some 3) (.tmp 10)), (some (75, true)), (some 79)), ((.load (some 3) (.tmp 11)), (some (75, true)), (some 80))]⟩⟩,
    ⟨40, 1099511627775, [], ⟨(some 81), (.call (.func 18) [(.tmp 79), (.tmp 80)]), (some (75, true)), []⟩⟩,
    ⟨41, 2199023255551, [], ⟨(some 82), (.eqBool false (.tmp 78) (.tmp 81)), (some (75, true)), []⟩⟩,
    ⟨42, 4398046511103, [], ⟨(some 83), (.pick (.tmp 75) (.tmp 82) (.const (.bool false))), none, []⟩⟩,
    ⟨43, 8796093022207, [], ⟨(some 12), (.move (.tmp 83)), none, []⟩⟩]))
  .ret))))))
theorem t3 : trF Try.prog Try.f3 s3 = some s3 := by kernel_rfl
theorem k3 : okS s3 = true := by kernel_rfl
theorem r3 : resT Try.prog Try.f3.results.toList = some [.t 12] := by kernel_rfl

def s4 : S :=
  (.seq (.keep [3, 4, 5] (.ops [⟨(some 3), (.box (.tmp 0)), none, []⟩,
    ⟨(some 4), (.box (.tmp 1)), none, []⟩,
    ⟨(some 5), (.box (.tmp 2)), none, []⟩,
    ⟨(some 6), (.move (.const (.bool false))), none, []⟩]))
  (.seq (.keep [3, 4, 5, 7, 8, 9] (.ops [⟨(some 12), (.load (some 4) (.tmp 3)), none, []⟩,
    ⟨(some 13), (.load (some 2) (.tmp 4)), none, []⟩,
    ⟨(some 14), (.load (some 3) (.tmp 5)), none, []⟩,
    ⟨(some 15), (.call (.func 19) [(.tmp 12), (.tmp 13), (.tmp 14)]), none, []⟩,
    ⟨(some 11), (.move (.tmp 15)), none, []⟩,
    ⟨(some 16), (.extract (.tmp 11) 0), none, []⟩,
    ⟨(some 17), (.extract (.tmp 11) 1), none, []⟩,
    ⟨(some 18), (.extract (.tmp 11) 2), none, []⟩,
    ⟨(some 7), (.alloc (.agg #[(.int .i64 0), (.int .i64 0)])), none, []⟩,
    ⟨(some 8), (.alloc (.agg #[(.int .i64 0), (.int .i64 0), (.int .i64 0)])), none, []⟩,
    ⟨none, (.store 2 (.tmp 7) (.tmp 16)), none, []⟩,
    ⟨none, (.store 3 (.tmp 8) (.tmp 17)), none, []⟩,
    ⟨(some 9), (.move (.tmp 18)), none, []⟩]))
  (.seq (.keep [7, 8, 9, 10] (.ops [⟨(some 19), (.load (some 4) (.tmp 3)), none, []⟩,
    ⟨(some 20), (.load (some 2) (.tmp 4)), none, []⟩,
    ⟨(some 21), (.load (some 3) (.tmp 5)), none, []⟩,
    ⟨(some 22), (.call (.func 20) [(.tmp 19), (.tmp 20), (.tmp 21)]), none, []⟩,
    ⟨(some 10), (.alloc (.agg (List.replicate 6 (.int .i64 0)).toArray)), none, []⟩,
    ⟨none, (.store 6 (.tmp 10) (.tmp 22)), none, []⟩]))
  (.seq (.keep [6] (.ops [⟨(some 23), (.call (.func 13) []), none, []⟩,
    ⟨(some 24), (.move (.tmp 23)), none, []⟩,
    ⟨(some 25), (.load (some 2) (.tmp 7)), (some (24, true)), []⟩,
    ⟨(some 26), (.fieldAddr 0 (.tmp 10)), (some (24, true)), []⟩,
    ⟨(some 27), (.load (some 2) (.tmp 26)), (some (24, true)), []⟩,
    ⟨(some 28), (.eqAgg false [(.int .i64), (.int .i64)] (.tmp 25) (.tmp 27)), (some (24, true)), []⟩,
    ⟨(some 29), (.pick (.tmp 24) (.tmp 28) (.const (.bool false))), none, []⟩,
    ⟨(some 30), (.move (.tmp 29)), none, []⟩,
    ⟨(some 31), (.load (some 3) (.tmp 8)), (some (30, true)), []⟩,
    ⟨(some 32), (.fieldAddr 2 (.tmp 10)), (some (30, true)), []⟩,
    ⟨(some 33), (.load (some 3) (.tmp 32)), (some (30, true)), []⟩,
    ⟨(some 34), (.eqAgg false [(.int .i64), (.int .i64), (.int .i64)] (.tmp 31) (.tmp 33)), (some (30, true)), []⟩,
    ⟨(some 35), (.pick (.tmp 30) (.tmp 34) (.const (.bool false))), none, []⟩,
    ⟨(some 36), (.move (.tmp 35)), none, []⟩,
    ⟨(some 37), (.move (.tmp 9)), (some (36, true)), []⟩,
    ⟨(some 38), (.fieldAddr 5 (.tmp 10)), (some (36, true)), []⟩,
    ⟨(some 39), (.load none (.tmp 38)), (some (36, true)), []⟩,
    ⟨(some 40), (.bin .eql (.tmp 37) (.tmp 39)), (some (36, true)), []⟩,
    ⟨(some 41), (.pick (.tmp 36) (.tmp 40) (.const (.bool false))), none, []⟩,
    ⟨(some 6), (.move (.tmp 41)), none, []⟩]))
  .ret))))
theorem t4 : trF Try.prog Try.f4 s4 = some s4 := by kernel_rfl
theorem k4 : okS s4 = true := by kernel_rfl
theorem r4 : resT Try.prog Try.f4.results.toList = some [.t 6] := by kernel_rfl

def s5 : S :=
  (.seq (.keep [5, 6, 7, 8, 9] (.ops [⟨(some 5), (.box (.tmp 0)), none, []⟩,
    ⟨(some 6), (.box (.tmp 1)), none, []⟩,
    ⟨(some 7), (.box (.tmp 2)), none, []⟩,
    ⟨(some 8), (.box (.tmp 3)), none, []⟩,
    ⟨(some 9), (.box (.tmp 4)), none, []⟩,
    ⟨(some 10), (.move (.const (.bool false))), none, []⟩]))
  (.seq (.keep [5, 6, 7, 8, 9] (.seq (.keep [5, 6, 7, 8, 9, 24] (.ops [⟨(some 21), (.load (some 4) (.tmp 5)), none, []⟩,
    ⟨(some 22), (.load (some 2) (.tmp 6)), none, []⟩,
    ⟨(some 23), (.call (.func 15) [(.tmp 21), (.tmp 22)]), none, []⟩,
    ⟨(some 24), (.bin .neq (.tmp 23) (.const (.int .i64 0))), none, []⟩]))
  (.cond (.tmp 24)
    (.seq (.keep [10] (.ops [⟨(some 25), (.call (.func 13) []), none, []⟩,
      ⟨(some 10), (.move (.tmp 25)), none, []⟩]))
    .ret)
    .skip)))
  (.seq (.keep [5, 6, 7, 8, 9, 11, 12, 13] (.ops [⟨(some 27), (.load (some 4) (.tmp 5)), none, []⟩,
    ⟨(some 28), (.load (some 2) (.tmp 6)), none, []⟩,
    ⟨(some 29), (.load (some 3) (.tmp 7)), none, []⟩,
    ⟨(some 30), (.call (.func 19) [(.tmp 27), (.tmp 28), (.tmp 29)]), none, []⟩,
    ⟨(some 26), (.move (.tmp 30)), none, []⟩,
    ⟨(some 31), (.extract (.tmp 26) 0), none, []⟩,
    ⟨(some 32), (.extract (.tmp 26) 1), none, []⟩,
    ⟨(some 33), (.extract (.tmp 26) 2), none, []⟩,
    ⟨(some 11), (.alloc (.agg #[(.int .i64 0), (.int .i64 0)])), none, []⟩,
    ⟨(some 12), (.alloc (.agg #[(.int .i64 0), (.int .i64 0), (.int .i64 0)])), none, []⟩,
    ⟨none, (.store 2 (.tmp 11) (.tmp 31)), none, []⟩,
    ⟨none, (.store 3 (.tmp 12) (.tmp 32)), none, []⟩,
    ⟨(some 13), (.move (.tmp 33)), none, []⟩]))
  (.seq (.keep [5, 6, 7, 9, 11, 12, 13, 14, 15] (.ops [⟨(some 35), (.load (some 4) (.tmp 5)), none, []⟩,
    ⟨(some 36), (.load (some 2) (.tmp 6)), none, []⟩,
    ⟨(some 37), (.load (some 2) (.tmp 8)), none, []⟩,
    ⟨(some 38), (.call (.func 10) [(.tmp 35), (.tmp 36), (.tmp 37)]), none, []⟩,
    ⟨(some 34), (.move (.tmp 38)), none, []⟩,
    ⟨(some 39), (.extract (.tmp 34) 0), none, []⟩,
    ⟨(some 40), (.extract (.tmp 34) 1), none, []⟩,
    ⟨(some 14), (.alloc (.agg #[(.int .i64 0), (.int .i64 0), (.int .i64 0)])), none, []⟩,
    ⟨none, (.store 3 (.tmp 14) (.tmp 39)), none, []⟩,
    ⟨(some 15), (.move (.tmp 40)), none, []⟩]))
  (.seq (.keep [5, 6, 7, 9, 11, 12, 14, 15] (.seq (.keep [5, 6, 7, 9, 11, 12, 13, 14, 15, 42] (.ops [⟨(some 41), (.move (.tmp 13)), none, []⟩,
    ⟨(some 42), (.bin .neq (.tmp 41) (.const (.int .i64 0))), none, []⟩]))
  (.cond (.tmp 42)
    (.seq (.keep [10] (.ops [⟨(some 43), (.call (.func 13) []), none, []⟩,
      ⟨(some 44), (.move (.tmp 43)), none, []⟩,
      ⟨(some 45), (.move (.tmp 13)), (some (44, true)), []⟩,
      ⟨(some 46), (.bin .eql (.tmp 45) (.const (.int .i64 4))), (some (44, true)), []⟩,
      ⟨(some 47), (.pick (.tmp 44) (.tmp 46) (.const (.bool false))), none, []⟩,
      ⟨(some 48), (.move (.tmp 47)), none, []⟩,
      ⟨(some 49), (.move (.tmp 15)), (some (48, true)), []⟩,
      ⟨(some 50), (.bin .neq (.tmp 49) (.const (.int .i64 0))), (some (48, true)), []⟩,
      ⟨(some 51), (.move (.tmp 50)), (some (48, true)), []⟩,
      ⟨(some 52), (.load (some 3) (.tmp 14)), (some (51, false)), []⟩,
      ⟨(some 53), (.load (some 3) (.tmp 7)), (some (51, false)), []⟩,
      ⟨(some 54), (.call (.func 17) [(.tmp 52), (.tmp 53)]), (some (51, false)), []⟩,
      ⟨(some 55), (.un .not (.tmp 54)), (some (51, false)), []⟩,
      ⟨(some 56), (.pick (.tmp 51) (.const (.bool true)) (.tmp 55)), (some (48, true)), []⟩,
      ⟨(some 57), (.pick (.tmp 48) (.tmp 56) (.const (.bool false))), none, []⟩,
      ⟨(some 10), (.move (.tmp 57)), none, []⟩]))
    .ret)
    .skip)))
  (.seq (.keep [5, 6, 7, 9, 12, 14, 15, 16, 17] (.ops [⟨(some 59), (.load (some 4) (.tmp 5)), none, []⟩,
    ⟨(some 60), (.load (some 2) (.tmp 6)), none, []⟩,
    ⟨(some 61), (.load (some 2) (.tmp 11)), none, []⟩,
    ⟨(some 62), (.call (.func 10) [(.tmp 59), (.tmp 60), (.tmp 61)]), none, []⟩,
    ⟨(some 58), (.move (.tmp 62)), none, []⟩,
    ⟨(some 63), (.extract (.tmp 58) 0), none, []⟩,
    ⟨(some 64), (.extract (.tmp 58) 1), none, []⟩,
    ⟨(some 16), (.alloc (.agg #[(.int .i64 0), (.int .i64 0), (.int .i64 0)])), none, []⟩,
    ⟨none, (.store 3 (.tmp 16) (.tmp 63)), none, []⟩,
    ⟨(some 17), (.move (.tmp 64)), none, []⟩]))
  (.seq (.keep [5, 6, 7, 9, 12, 14, 15] (.seq (.keep [5, 6, 7, 9, 12, 14, 15, 77] (.ops [⟨(some 65), (.move (.tmp 17)), none, []⟩,
    ⟨(some 66), (.bin .neq (.tmp 65) (.const (.int .i64 0))), none, []⟩,
    ⟨(some 67), (.move (.tmp 66)), none, []⟩,
    ⟨(some 68), (.load (some 3) (.tmp 16)), (some (67, false)), []⟩,
    ⟨(some 69), (.load (some 3) (.tmp 12)), (some (67, false)), []⟩,
    ⟨(some 70), (.eqAgg true [(.int .i64), (.int .i64), (.int .i64)] (.tmp 68) (.tmp 69)), (some (67, false)), []⟩,
    ⟨(some 71), (.pick (.tmp 67) (.const (.bool true)) (.tmp 70)), none, []⟩,
    ⟨(some 72), (.move (.tmp 71)), none, []⟩,
    ⟨(some 73), (.load (some 3) (.tmp 12)), (some (72, false)), []⟩,
    ⟨(some 74), (.load (some 3) (.tmp 7)), (some (72, false)), []⟩,
    ⟨(some 75), (.call (.func 17) [(.tmp 73), (.tmp 74)]), (some (72, false)), []⟩,
    ⟨(some 76), (.un .not (.tmp 75)), (some (72, false)), []⟩,
    ⟨(some 77), (.pick (.tmp 72) (.const (.bool true)) (.tmp 76)), none, []⟩]))
  (.cond (.tmp 77)
    (.seq (.keep [10] (.ops [⟨(some 10), (.move (.const (.bool false))), none, []⟩]))
    .ret)
    .skip)))
  (.seq (.keep [5, 6, 7, 9, 12] (.seq (.keep [5, 6, 7, 9, 12, 126] (.ops [⟨(some 78), (.move (.tmp 15)), none, []⟩,
    ⟨(some 79), (.bin .eql (.tmp 78) (.const (.int .i64 0))), none, []⟩,
    ⟨(some 80), (.move (.tmp 79)), none, []⟩,
    ⟨(some 81), (.load (some 3) (.tmp 14)), (some (80, true)), []⟩,
    ⟨(some 82), (.load (some 3) (.tmp 7)), (some (80, true)), []⟩,
    ⟨(some 83), (.call (.func 17) [(.tmp 81), (.tmp 82)]), (some (80, true)), []⟩,
    ⟨(some 84), (.pick (.tmp 80) (.tmp 83) (.const (.bool false))), none, []⟩,
    ⟨(some 85), (.move (.tmp 84)), none, []⟩,
    ⟨(some 86), (.fieldAddr 2 (.tmp 14)), (some (85, true)), []⟩,
    ⟨(some 87), (.load none (.tmp 86)), (some (85, true)), []⟩,
    ⟨(some 88), (.fieldAddr 2 (.tmp 12)), (some (85, true)), []⟩,
    ⟨(some 89), (.load none (.tmp 88)), (some (85, true)), []⟩,
    ⟨(some 90), (.bin .lss (.tmp 87) (.tmp 89)), (some (85, true)), []⟩,
    ⟨(some 91), (.move (.tmp 90)), (some (85, true)), []⟩,
    ⟨(some 92), (.fieldAddr 2 (.tmp 14)), (some (91, false)), []⟩,
    ⟨(some 93), (.load none (.tmp 92)), (some (91, false)), []⟩,
    ⟨(some 94), (.fieldAddr 2 (.tmp 12)), (some (91, false)), []⟩,
    ⟨(some 95), (.load none (.tmp 94)), (some (91, false)), []⟩,
    ⟨(some 96), (.bin .eql (.tmp 93) (.tmp 95)), (some (91, false)), []⟩,
    ⟨(some 97), (.move (.tmp 96)), (some (91, false)), []⟩,
    ⟨(some 98), (.fieldAddr 1 (.tmp 14)), (some (97, true)), []⟩,
    ⟨(some 99), (.load none (.tmp 98)), (some (97, true)), []⟩,
    ⟨(some 100), (.fieldAddr 1 (.tmp 12)), (some (97, true)), []⟩,
    ⟨(some 101), (.load none (.tmp 100)), (some (97, true)), []⟩,
    ⟨(some 102), (.bin .lss (.tmp 99) (.tmp 101)), (some (97, true)), []⟩,
    ⟨(some 103), (.pick (.tmp 97) (.tmp 102) (.const (.bool false))), (some (91, false)), []⟩,
    ⟨(some 104), (.pick (.tmp 91) (.const (.bool true)) (.tmp 103)), (some (85, true)), []⟩,
    ⟨(some 105), (.move (.tmp 104)), (some (85, true)), []⟩,
    ⟨(some 106), (.fieldAddr 2 (.tmp 14)), (some (105, false)), []⟩,
    ⟨(some 107), (.load none (.tmp 106)), (some (105, false)), []⟩,
    ⟨(some 108), (.fieldAddr 2 (.tmp 12)), (some (105, false)), []⟩,
    ⟨(some 109), (.load none (.tmp 108)), (some (105, false)), []⟩,
    ⟨(some 110), (.bin .eql (.tmp 107) (.tmp 109)), (some (105, false)), []⟩,
    ⟨(some 111), (.move (.tmp 110)), (some (105, false)), []⟩,
    ⟨(some 112), (.fieldAddr 1 (.tmp 14)), (some (111, true)), []⟩,
    ⟨(some 113), (.load none (.tmp 112)), (some (111, true)), []⟩,
    ⟨(some 114), (.fieldAddr 1 (.tmp 12)), (some (111, true)), []⟩,
    ⟨(some 115), (.load none (.tmp 114)), (some (111, true)), []⟩,
    ⟨(some 116), (.bin .eql (.tmp 113) (.tmp 115)), (some (111, true)), []⟩,
    ⟨(some 117), (.pick (.tmp 111) (.tmp 116) (.const (.bool false))), (some (105, false)), []⟩,
    ⟨(some 118), (.move (.tmp 117)), (some (105, false)), []⟩,
    ⟨(some 119), (.fieldAddr 0 (.tmp 14)), (some (118, true)), []⟩,
    ⟨(some 120), (.load none (.tmp 119)), (some (118, true)), []⟩,
    ⟨(some 121), (.fieldAddr 0 (.tmp 12)), (some (118, true)), []⟩,
    ⟨(some 122), (.load none (.tmp 121)), (some (118, true)), []⟩,
    ⟨(some 123), (.bin .lss (.tmp 120) (.tmp 122)), (some (118, true)), []⟩,
    ⟨(some 124), (.pick (.tmp 118) (.tmp 123) (.const (.bool false))), (some (105, false)), []⟩,
    ⟨(some 125), (.pick (.tmp 105) (.const (.bool true)) (.tmp 124)), (some (85, true)), []⟩,
    ⟨(some 126), (.pick (.tmp 85) (.tmp 125) (.const (.bool false))), none, []⟩]))
  (.cond (.tmp 126)
    (.seq (.keep [10] (.ops [⟨(some 10), (.move (.const (.bool false))), none, []⟩]))
    .ret)
    .skip)))
  (.seq (.keep [12, 19, 20] (.ops [⟨(some 128), (.load (some 4) (.tmp 5)), none, []⟩,
    ⟨(some 129), (.load (some 2) (.tmp 6)), none, []⟩,
    ⟨(some 130), (.fieldAddr 0 (.tmp 7)), none, []⟩,
    ⟨(some 131), (.load none (.tmp 130)), none, []⟩,
    ⟨(some 132), (.fieldAddr 0 (.tmp 9)), none, []⟩,
    ⟨(some 133), (.load none (.tmp 132)), none, []⟩,
    ⟨(some 134), (.minmax true [(.tmp 131), (.tmp 133)]), none, []⟩,
    ⟨(some 135), (.fieldAddr 1 (.tmp 7)), none, []⟩,
    ⟨(some 136), (.load none (.tmp 135)), none, []⟩,
    ⟨(some 137), (.fieldAddr 1 (.tmp 9)), none, []⟩,
    ⟨(some 138), (.load none (.tmp 137)), none, []⟩,
    ⟨(some 139), (.minmax true [(.tmp 136), (.tmp 138)]), none, []⟩,
    ⟨(some 140), (.fieldAddr 2 (.tmp 7)), none, []⟩,
    ⟨(some 141), (.load none (.tmp 140)), none, []⟩,
    ⟨(some 142), (.fieldAddr 2 (.tmp 9)), none, []⟩,
    ⟨(some 143), (.load none (.tmp 142)), none, []⟩,
    ⟨(some 144), (.minmax true [(.tmp 141), (.tmp 143)]), none, []⟩,
    ⟨(some 145), (.build [(.int .i64 0), (.int .i64 0), (.int .i64 0)] [(0, 1, (.tmp 134)), (1, 1, (.tmp 139)), (2, 1, (.tmp 144))]), none, []⟩,
    ⟨(some 146), (.call (.func 19) [(.tmp 128), (.tmp 129), (.tmp 145)]), none, []⟩,
    ⟨(some 127), (.move (.tmp 146)), none, []⟩,
    ⟨(some 147), (.extract (.tmp 127) 0), none, []⟩,
    ⟨(some 148), (.extract (.tmp 127) 1), none, []⟩,
    ⟨(some 149), (.extract (.tmp 127) 2), none, []⟩,
    ⟨(some 18), (.alloc (.agg #[(.int .i64 0), (.int .i64 0)])), none, []⟩,
    ⟨(some 19), (.alloc (.agg #[(.int .i64 0), (.int .i64 0), (.int .i64 0)])), none, []⟩,
    ⟨none, (.store 2 (.tmp 18) (.tmp 147)), none, []⟩,
    ⟨none, (.store 3 (.tmp 19) (.tmp 148)), none, []⟩,
    ⟨(some 20), (.move (.tmp 149)), none, []⟩]))
  (.seq (.keep [10] (.ops [⟨(some 150), (.call (.func 13) []), none, []⟩,
    ⟨(some 151), (.move (.tmp 150)), none, []⟩,
    ⟨(some 152), (.move (.tmp 20)), (some (151, true)), []⟩,
    ⟨(some 153), (.bin .eql (.tmp 152) (.const (.int .i64 0))), (some (151, true)), []⟩,
    ⟨(some 154), (.pick (.tmp 151) (.tmp 153) (.const (.bool false))), none, []⟩,
    ⟨(some 155), (.move (.tmp 154)), none, []⟩,
    ⟨(some 156), (.fieldAddr 2 (.tmp 19)), (some (155, true)), []⟩,
    ⟨(some 157), (.load none (.tmp 156)), (some (155, true)), []⟩,
    ⟨(some 158), (.fieldAddr 2 (.tmp 12)), (some (155, true)), []⟩,
    ⟨(some 159), (.load none (.tmp 158)), (some (155, true)), []⟩,
    ⟨(some 160), (.bin .leq (.tmp 157) (.tmp 159)), (some (155, true)), []⟩,
    ⟨(some 161), (.pick (.tmp 155) (.tmp 160) (.const (.bool false))), none, []⟩,
    ⟨(some 10), (.move (.tmp 161)), none, []⟩]))
  .ret))))))))))
theorem t5 : trF Try.prog Try.f5 s5 = some s5 := by kernel_rfl
theorem k5 : okS s5 = true := by kernel_rfl
theorem r5 : resT Try.prog Try.f5.results.toList = some [.t 10] := by kernel_rfl

def s6 : S :=
  (.seq (.keep [2, 3, 4] (.ops [⟨(some 3), (.box (.tmp 0)), none, []⟩,
    ⟨(some 4), (.box (.tmp 1)), none, []⟩,
    ⟨(some 6), (.move (.const (.bool false))), none, []⟩]))
  (.seq (.keep [2, 3, 4] (.seq (.keep [2, 3, 4, 16] (.ops [⟨(some 13), (.load (some 4) (.tmp 3)), none, []⟩,
    ⟨(some 14), (.load (some 2) (.tmp 4)), none, []⟩,
    ⟨(some 15), (.call (.func 15) [(.tmp 13), (.tmp 14)]), none, []⟩,
    ⟨(some 16), (.bin .neq (.tmp 15) (.const (.int .i64 0))), none, []⟩]))
  (.cond (.tmp 16)
    (.seq (.keep [6] (.ops [⟨(some 17), (.call (.func 13) []), none, []⟩,
      ⟨(some 6), (.move (.tmp 17)), none, []⟩]))
    .ret)
    .skip)))
  (.seq (.keep [2, 3, 4, 7, 8] (.ops [⟨(some 19), (.load (some 4) (.tmp 3)), none, []⟩,
    ⟨(some 20), (.load (some 2) (.tmp 4)), none, []⟩,
    ⟨(some 21), (.call (.func 9) [(.tmp 19), (.tmp 20), (.const (.int .i64 16))]), none, []⟩,
    ⟨(some 18), (.move (.tmp 21)), none, []⟩,
    ⟨(some 22), (.extract (.tmp 18) 0), none, []⟩,
    ⟨(some 23), (.extract (.tmp 18) 1), none, []⟩,
    ⟨(some 7), (.move (.tmp 22)), none, []⟩,
    ⟨(some 8), (.move (.tmp 23)), none, []⟩]))
  (.seq (.keep [3, 4, 7, 8, 9] (.ops [⟨(some 24), (.move (.tmp 2)), none, []⟩,
    ⟨(some 25), (.convInt .i64 (.tmp 24)), none, []⟩,
    ⟨(some 26), (.bin .rem (.tmp 25) (.const (.int .i64 16))), none, []⟩,
    ⟨(some 27), (.bin .add (.const (.int .i64 1)) (.tmp 26)), none, []⟩,
    ⟨(some 9), (.move (.tmp 27)), none, []⟩]))
  (.seq (.keep [3, 7, 8, 9, 10, 11] (.ops [⟨(some 29), (.load (some 4) (.tmp 3)), none, []⟩,
    ⟨(some 30), (.load (some 2) (.tmp 4)), none, []⟩,
    ⟨(some 31), (.move (.tmp 9)), none, []⟩,
    ⟨(some 32), (.call (.func 9) [(.tmp 29), (.tmp 30), (.tmp 31)]), none, []⟩,
    ⟨(some 28), (.move (.tmp 32)), none, []⟩,
    ⟨(some 33), (.extract (.tmp 28) 0), none, []⟩,
    ⟨(some 34), (.extract (.tmp 28) 1), none, []⟩,
    ⟨(some 10), (.move (.tmp 33)), none, []⟩,
    ⟨(some 11), (.move (.tmp 34)), none, []⟩]))
  (.seq (.keep [3, 7, 10] (.seq (.keep [3, 7, 10, 60] (.draw [0, 1, 3, 7, 15, 31, 63, 127, 255, 511, 1023, 2047, 4095, 8191, 4095, 20479, 65535, 131071, 262143, 524287, 1048575, 2097151, 524287, 4718591, 16777215, 33554431] [⟨0, 0, [], ⟨(some 35), (.move (.tmp 8)), none, []⟩⟩,
    ⟨1, 1, [], ⟨(some 36), (.bin .neq (.tmp 35) (.const (.int .i64 0))), none, []⟩⟩,
    ⟨2, 3, [], ⟨(some 37), (.move (.tmp 36)), none, []⟩⟩,
    ⟨3, 7, [], ⟨(some 38), (.move (.tmp 11)), (some (37, false)), []⟩⟩,
    ⟨4, 15, [], ⟨(some 39), (.bin .neq (.tmp 38) (.const (.int .i64 0))), (some (37, false)), []⟩⟩,
    ⟨5, 31, [], ⟨(some 40), (.pick (.tmp 37) (.const (.bool true)) (.tmp 39)), none, []⟩⟩,
    ⟨6, 63, [], ⟨(some 41), (.move (.tmp 40)), none, []⟩⟩,
    ⟨7, 127, [], ⟨(some 42), (.move (.tmp 7)), (some (41, false)), []⟩⟩,
    ⟨8, 255, [], ⟨(some 43), (.len (.tmp 42)), (some (41, false)), []⟩⟩,
    ⟨9, 511, [], ⟨(some 44), (.bin .neq (.tmp 43) (.const (.int .i64 17))), (some (41, false)), []⟩⟩,
    ⟨10, 1023, [], ⟨(some 45), (.pick (.tmp 41) (.const (.bool true)) (.tmp 44)), none, []⟩⟩,
    ⟨11, 2047, [], ⟨(some 46), (.move (.tmp 45)), none, []⟩⟩,
    ⟨12, 4095, [], ⟨(some 47), (.move (.tmp 10)), (some (46, false)), []⟩⟩,
    ⟨13, 8191, [], ⟨(some 48), (.len (.tmp 47)), (some (46, false)), []⟩⟩,
    ⟨14, 4095, [], ⟨(some 49), (.move (.tmp 9)), (some (46, false)), []⟩⟩,
    ⟨15, 20479, [], ⟨(some 50), (.bin .add (.tmp 49) (.const (.int .i64 1))), (some (46, false)), []⟩⟩,
    ⟨16, 65535, [], ⟨(some 51), (.bin .neq (.tmp 48) (.tmp 50)), (some (46, false)), []⟩⟩,
    ⟨17, 131071, [], ⟨(some 52), (.pick (.tmp 46) (.const (.bool true)) (.tmp 51)), none, []⟩⟩,
    ⟨18, 262143, [], ⟨(some 53), (.move (.tmp 52)), none, []⟩⟩,
    ⟨19, 524287, [], ⟨(some 54), (.move (.tmp 7)), (some (53, false)), []⟩⟩,
    ⟨20, 1048575, [], ⟨(some 55), (.indexAddr 1 (.tmp 54) (.const (.int .i64 0))), (some (53, false)), []⟩⟩,
    ⟨21, 2097151, [], ⟨(some 56), (.load none (.tmp 55)), (some (53, false)), []⟩⟩,
    ⟨22, 524287, [], ⟨(some 57), (.fieldAddr 0 (.tmp 3)), (some (53, false)), []⟩⟩,
    ⟨23, 4718591, [], ⟨(some 58), (.load none (.tmp 57)), (some (53, false)), []⟩⟩,
    ⟨24, 16777215, [], ⟨(some 59), (.bin .neq (.tmp 56) (.tmp 58)), (some (53, false)), []⟩⟩,
    ⟨25, 33554431, [], ⟨(some 60), (.pick (.tmp 53) (.const (.bool true)) (.tmp 59)), none, []⟩⟩]))
  (.cond (.tmp 60)
    (.seq (.keep [6] (.ops [⟨(some 6), (.move (.const (.bool false))), none, []⟩]))
    .ret)
    .skip)))
  (.seq (.keep [3, 7] (.seq (.keep [3, 7, 10, 12] (.ops [⟨(some 12), (.move (.const (.int .i64 1))), none, []⟩]))
  (.block 0
    (.loop
      (.keep [3, 7, 10, 12] (.seq (.keep [3, 7, 10, 12] (.seq (.keep [3, 7, 10, 12, 64] (.ops [⟨(some 61), (.move (.tmp 12)), none, []⟩,
        ⟨(some 62), (.move (.tmp 7)), none, []⟩,
        ⟨(some 63), (.len (.tmp 62)), none, []⟩,
        ⟨(some 64), (.bin .lss (.tmp 61) (.tmp 63)), none, []⟩]))
      (.cond (.tmp 64)
        .skip
        (.exit 0))))
      (.seq (.keep [3, 7, 10, 12] (.block 1
        (.seq (.keep [3, 7, 10, 12, 138] (.draw [0, 0, 3, 7, 0, 0, 32, 112, 240, 511, 1023, 2047, 2047, 8191, 16383, 32767, 65535, 131071, 262143, 262143, 1048575, 2097151, 262143, 4456447, 16777215, 33554431, 67108863, 134217727, 268435455, 536870911, 1073741823, 1073741823, 3221225471, 8589934591, 17179869183, 1073741823, 1073741823, 69793218559, 241591910399, 516469817343, 1099511627775, 2199023255551, 4398046511103, 8796093022207, 8796093022207, 35184372088831, 70368744177663, 8796093022207, 8796093022207, 290271069732863, 993958511509503, 2119858418352127, 4503599627370495, 9007199254740991, 18014398509481983, 36028797018963967, 72057594037927935, 72057594037927935, 216172782113783807, 576460752303423487, 1152921504606846975, 2305843009213693951, 2305843009213693951, 9223372036854775807, 18446744073709551615, 2305843009213693951, 2305843009213693951, 112986307451471003647, 260560260041147416575, 590295810358705651711, 1180591620717411303423, 2361183241434822606847] [⟨0, 0, [], ⟨(some 67), (.move (.tmp 7)), none, []⟩⟩,
          ⟨1, 0, [], ⟨(some 68), (.move (.tmp 12)), none, []⟩⟩,
          ⟨2, 3, [], ⟨(some 69), (.indexAddr 1 (.tmp 67) (.tmp 68)), none, []⟩⟩,
          ⟨3, 7, [], ⟨(some 70), (.load none (.tmp 69)), none, []⟩⟩,
          ⟨4, 0, [], ⟨(some 71), (.move (.tmp 7)), none, []⟩⟩,
          ⟨5, 0, [], ⟨(some 72), (.move (.tmp 12)), none, []⟩⟩,
          ⟨6, 32, [], ⟨(some 73), (.bin .sub (.tmp 72) (.const (.int .i64 1))), none, []⟩⟩,
          ⟨7, 112, [], ⟨(some 74), (.indexAddr 1 (.tmp 71) (.tmp 73)), none, []⟩⟩,
          ⟨8, 240, [], ⟨(some 75), (.load none (.tmp 74)), none, []⟩⟩,
          ⟨9, 511, [], ⟨(some 76), (.bin .gtr (.tmp 70) (.tmp 75)), none, []⟩⟩,
          ⟨10, 1023, [], ⟨(some 77), (.move (.tmp 76)), none, []⟩⟩,
          ⟨11, 2047, [], ⟨(some 78), (.move (.tmp 7)), (some (77, false)), []⟩⟩,
          ⟨12, 2047, [], ⟨(some 79), (.move (.tmp 12)), (some (77, false)), []⟩⟩,
          ⟨13, 8191, [], ⟨(some 80), (.indexAddr 1 (.tmp 78) (.tmp 79)), (some (77, false)), []⟩⟩,
          ⟨14, 16383, [], ⟨(some 81), (.load none (.tmp 80)), (some (77, false)), []⟩⟩,
          ⟨15, 32767, [], ⟨(some 82), (.bin .lss (.tmp 81) (.const (.int .i64 0))), (some (77, false)), []⟩⟩,
          ⟨16, 65535, [], ⟨(some 83), (.pick (.tmp 77) (.const (.bool true)) (.tmp 82)), none, []⟩⟩,
          ⟨17, 131071, [], ⟨(some 84), (.move (.tmp 83)), none, []⟩⟩,
          ⟨18, 262143, [], ⟨(some 85), (.move (.tmp 7)), (some (84, false)), []⟩⟩,
          ⟨19, 262143, [], ⟨(some 86), (.move (.tmp 12)), (some (84, false)), []⟩⟩,
          ⟨20, 1048575, [], ⟨(some 87), (.indexAddr 1 (.tmp 85) (.tmp 86)), (some (84, false)), []⟩⟩,
          ⟨21, 2097151, [], ⟨(some 88), (.load none (.tmp 87)), (some (84, false)), []⟩⟩,
          ⟨22, 262143, [], ⟨(some 89), (.fieldAddr 1 (.tmp 3)), (some (84, false)), []⟩⟩,
          ⟨23, 4456447, [], ⟨(some 90), (.load none (.tmp 89)), (some (84, false)), []⟩⟩,
          ⟨24, 16777215, [], ⟨(some 91), (.bin .gtr (.tmp 88) (.tmp 90)), (some (84, false)), []⟩⟩,
          ⟨25, 33554431, [], ⟨(some 92), (.pick (.tmp 84) (.const (.bool true)) (.tmp 91)), none, []⟩⟩,
          ⟨26, 67108863, [], ⟨(some 93), (.move (.tmp 92)), none, []⟩⟩,
          ⟨27, 134217727, [], ⟨(some 94), (.move (.tmp 12)), (some (93, false)), []⟩⟩,
          ⟨28, 268435455, [], ⟨(some 95), (.bin .gtr (.tmp 94) (.const (.int .i64 2))), (some (93, false)), []⟩⟩,
          ⟨29, 536870911, [], ⟨(some 96), (.move (.tmp 95)), (some (93, false)), []⟩⟩,
          ⟨30, 1073741823, [], ⟨(some 97), (.move (.tmp 7)), (some (96, true)), []⟩⟩,
          ⟨31, 1073741823, [], ⟨(some 98), (.move (.tmp 12)), (some (96, true)), []⟩⟩,
          ⟨32, 3221225471, [], ⟨(some 99), (.bin .sub (.tmp 98) (.const (.int .i64 1))), (some (96, true)), []⟩⟩,
          ⟨33, 8589934591, [], ⟨(some 100), (.indexAddr 1 (.tmp 97) (.tmp 99)), (some (96, true)), []⟩⟩,
          ⟨34, 17179869183, [], ⟨(some 101), (.load none (.tmp 100)), (some (96, true)), []⟩⟩,
          ⟨35, 1073741823, [], ⟨(some 102), (.move (.tmp 7)), (some (96, true)), []⟩⟩,
          ⟨36, 1073741823, [], ⟨(some 103), (.move (.tmp 12)), (some (96, true)), []⟩⟩,
          ⟨37, 69793218559, [], ⟨(some 104), (.bin .sub (.tmp 103) (.const (.int .i64 2))), (some (96, true)), []⟩⟩,
          ⟨38, 241591910399, [], ⟨(some 105), (.indexAddr 1 (.tmp 102) (.tmp 104)), (some (96, true)), []⟩⟩,
          ⟨39, 516469817343, [], ⟨(some 106), (.load none (.tmp 105)), (some (96, true)), []⟩⟩,
          ⟨40, 1099511627775, [], ⟨(some 107), (.bin .eql (.tmp 101) (.tmp 106)), (some (96, true)), []⟩⟩,
          ⟨41, 2199023255551, [], ⟨(some 108), (.pick (.tmp 96) (.tmp 107) (.const (.bool false))), (some (93, false)), []⟩⟩,
          ⟨42, 4398046511103, [], ⟨(some 109), (.move (.tmp 108)), (some (93, false)), []⟩⟩,
          ⟨43, 8796093022207, [], ⟨(some 110), (.move (.tmp 7)), (some (109, true)), []⟩⟩,
          ⟨44, 8796093022207, [], ⟨(some 111), (.move (.tmp 12)), (some (109, true)), []⟩⟩,
          ⟨45, 35184372088831, [], ⟨(some 112), (.indexAddr 1 (.tmp 110) (.tmp 111)), (some (109, true)), []⟩⟩,
          ⟨46, 70368744177663, [], ⟨(some 113), (.load none (.tmp 112)), (some (109, true)), []⟩⟩,
          ⟨47, 8796093022207, [], ⟨(some 114), (.move (.tmp 7)), (some (109, true)), []⟩⟩,
          ⟨48, 8796093022207, [], ⟨(some 115), (.move (.tmp 12)), (some (109, true)), []⟩⟩,
          ⟨49, 290271069732863, [], ⟨(some 116), (.bin .sub (.tmp 115) (.const (.int .i64 1))), (some (109, true)), []⟩⟩,
          ⟨50, 993958511509503, [], ⟨(some 117), (.indexAddr 1 (.tmp 114) (.tmp 116)), (some (109, true)), []⟩⟩,
          ⟨51, 2119858418352127, [], ⟨(some 118), (.load none (.tmp 117)), (some (109, true)), []⟩⟩,
          ⟨52, 4503599627370495, [], ⟨(some 119), (.bin .neq (.tmp 113) (.tmp 118)), (some (109, true)), []⟩⟩,
          ⟨53, 9007199254740991, [], ⟨(some 120), (.pick (.tmp 109) (.tmp 119) (.const (.bool false))), (some (93, false)), []⟩⟩,
          ⟨54, 18014398509481983, [], ⟨(some 121), (.pick (.tmp 93) (.const (.bool true)) (.tmp 120)), none, []⟩⟩,
          ⟨55, 36028797018963967, [], ⟨(some 122), (.move (.tmp 121)), none, []⟩⟩,
          ⟨56, 72057594037927935, [], ⟨(some 123), (.move (.tmp 12)), (some (122, false)), []⟩⟩,
          ⟨57, 72057594037927935, [], ⟨(some 124), (.move (.tmp 10)), (some (122, false)), []⟩⟩,
          ⟨58, 216172782113783807, [], ⟨(some 125), (.len (.tmp 124)), (some (122, false)), []⟩⟩,
          ⟨59, 576460752303423487, [], ⟨(some 126), (.bin .lss (.tmp 123) (.tmp 125)), (some (122, false)), []⟩⟩,
          ⟨60, 1152921504606846975, [], ⟨(some 127), (.move (.tmp 126)), (some (122, false)), []⟩⟩,
          ⟨61, 2305843009213693951, [], ⟨(some 128), (.move (.tmp 10)), (some (127, true)), []⟩⟩,
          ⟨62, 2305843009213693951, [], ⟨(some 129), (.move (.tmp 12)), (some (127, true)), []⟩⟩,
          ⟨63, 9223372036854775807, [], ⟨(some 130), (.indexAddr 1 (.tmp 128) (.tmp 129)), (some (127, true)), []⟩⟩,
          ⟨64, 18446744073709551615, [], ⟨(some 131), (.load none (.tmp 130)), (some (127, true)), []⟩⟩,
          ⟨65, 2305843009213693951, [], ⟨(some 132), (.move (.tmp 7)), (some (127, true)), []⟩⟩,
          ⟨66, 2305843009213693951, [], ⟨(some 133), (.move (.tmp 12)), (some (127, true)), []⟩⟩,
          ⟨67, 112986307451471003647, [], ⟨(some 134), (.indexAddr 1 (.tmp 132) (.tmp 133)), (some (127, true)), []⟩⟩,
          ⟨68, 260560260041147416575, [], ⟨(some 135), (.load none (.tmp 134)), (some (127, true)), []⟩⟩,
          ⟨69, 590295810358705651711, [], ⟨(some 136), (.bin .neq (.tmp 131) (.tmp 135)), (some (127, true)), []⟩⟩,
          ⟨70, 1180591620717411303423, [], ⟨(some 137), (.pick (.tmp 127) (.tmp 136) (.const (.bool false))), (some (122, false)), []⟩⟩,
          ⟨71, 2361183241434822606847, [], ⟨(some 138), (.pick (.tmp 122) (.const (.bool true)) (.tmp 137)), none, []⟩⟩]))
        (.cond (.tmp 138)
          (.seq (.keep [6] (.ops [⟨(some 6), (.move (.const (.bool false))), none, []⟩]))
          .ret)
          .skip))))
      (.ops [⟨(some 65), (.move (.tmp 12)), none, []⟩,
        ⟨(some 66), (.bin .add (.tmp 65) (.const (.int .i64 1))), none, []⟩,
        ⟨(some 12), (.move (.tmp 66)), none, []⟩]))))))))
  (.seq (.keep [6] (.ops [⟨(some 139), (.call (.func 13) []), none, []⟩,
    ⟨(some 140), (.move (.tmp 139)), none, []⟩,
    ⟨(some 141), (.fieldAddr 2 (.tmp 3)), (some (140, true)), []⟩,
    ⟨(some 142), (.load none (.tmp 141)), (some (140, true)), []⟩,
    ⟨(some 143), (.bin .gtr (.tmp 142) (.const (.int .i64 0))), (some (140, true)), []⟩,
    ⟨(some 144), (.move (.tmp 143)), (some (140, true)), []⟩,
    ⟨(some 145), (.move (.tmp 7)), (some (144, false)), []⟩,
    ⟨(some 146), (.indexAddr 1 (.tmp 145) (.const (.int .i64 1))), (some (144, false)), []⟩,
    ⟨(some 147), (.load none (.tmp 146)), (some (144, false)), []⟩,
    ⟨(some 148), (.bin .eql (.tmp 147) (.const (.int .i64 0))), (some (144, false)), []⟩,
    ⟨(some 149), (.pick (.tmp 144) (.const (.bool true)) (.tmp 148)), (some (140, true)), []⟩,
    ⟨(some 150), (.pick (.tmp 140) (.tmp 149) (.const (.bool false))), none, []⟩,
    ⟨(some 6), (.move (.tmp 150)), none, []⟩]))
  .ret))))))))
theorem t6 : trF Try.prog Try.f6 s6 = some s6 := by kernel_rfl
theorem k6 : okS s6 = true := by kernel_rfl
theorem r6 : resT Try.prog Try.f6.results.toList = some [.t 6] := by kernel_rfl

def s7 : S :=
  (.seq (.keep [2, 3, 4, 5] (.ops [⟨(some 4), (.box (.tmp 0)), none, []⟩,
    ⟨(some 5), (.box (.tmp 1)), none, []⟩,
    ⟨(some 8), (.move (.const (.bool false))), none, []⟩]))
  (.seq (.keep [2, 3, 4, 5] (.seq (.keep [2, 3, 4, 5, 44] (.ops [⟨(some 21), (.load (some 4) (.tmp 4)), none, []⟩,
    ⟨(some 22), (.load (some 2) (.tmp 5)), none, []⟩,
    ⟨(some 23), (.call (.func 15) [(.tmp 21), (.tmp 22)]), none, []⟩,
    ⟨(some 24), (.bin .neq (.tmp 23) (.const (.int .i64 0))), none, []⟩,
    ⟨(some 25), (.move (.tmp 24)), none, []⟩,
    ⟨(some 26), (.fieldAddr 2 (.tmp 4)), (some (25, false)), []⟩,
    ⟨(some 27), (.load none (.tmp 26)), (some (25, false)), []⟩,
    ⟨(some 28), (.bin .gtr (.tmp 27) (.const (.int .i64 50))), (some (25, false)), []⟩,
    ⟨(some 29), (.pick (.tmp 25) (.const (.bool true)) (.tmp 28)), none, []⟩,
    ⟨(some 30), (.move (.tmp 29)), none, []⟩,
    ⟨(some 31), (.fieldAddr 1 (.tmp 5)), (some (30, false)), []⟩,
    ⟨(some 32), (.load none (.tmp 31)), (some (30, false)), []⟩,
    ⟨(some 33), (.bin .gtr (.tmp 32) (.const (.int .i64 50))), (some (30, false)), []⟩,
    ⟨(some 34), (.pick (.tmp 30) (.const (.bool true)) (.tmp 33)), none, []⟩,
    ⟨(some 35), (.move (.tmp 34)), none, []⟩,
    ⟨(some 36), (.move (.tmp 3)), (some (35, false)), []⟩,
    ⟨(some 37), (.len (.tmp 36)), (some (35, false)), []⟩,
    ⟨(some 38), (.bin .eql (.tmp 37) (.const (.int .i64 0))), (some (35, false)), []⟩,
    ⟨(some 39), (.pick (.tmp 35) (.const (.bool true)) (.tmp 38)), none, []⟩,
    ⟨(some 40), (.move (.tmp 39)), none, []⟩,
    ⟨(some 41), (.move (.tmp 3)), (some (40, false)), []⟩,
    ⟨(some 42), (.len (.tmp 41)), (some (40, false)), []⟩,
    ⟨(some 43), (.bin .gtr (.tmp 42) (.const (.int .i64 2000))), (some (40, false)), []⟩,
    ⟨(some 44), (.pick (.tmp 40) (.const (.bool true)) (.tmp 43)), none, []⟩]))
  (.cond (.tmp 44)
    (.seq (.keep [8] (.ops [⟨(some 45), (.call (.func 13) []), none, []⟩,
      ⟨(some 8), (.move (.tmp 45)), none, []⟩]))
    .ret)
    .skip)))
  (.seq (.keep [3, 4, 5, 9] (.ops [⟨(some 46), (.move (.tmp 2)), none, []⟩,
    ⟨(some 47), (.convInt .i64 (.tmp 46)), none, []⟩,
    ⟨(some 48), (.bin .rem (.tmp 47) (.const (.int .i64 6))), none, []⟩,
    ⟨(some 49), (.bin .add (.const (.int .i64 1)) (.tmp 48)), none, []⟩,
    ⟨(some 9), (.move (.tmp 49)), none, []⟩]))
  (.seq (.keep [3, 4, 5, 9, 10, 11] (.ops [⟨(some 51), (.load (some 4) (.tmp 4)), none, []⟩,
    ⟨(some 52), (.load (some 2) (.tmp 5)), none, []⟩,
    ⟨(some 53), (.move (.tmp 9)), none, []⟩,
    ⟨(some 54), (.call (.func 9) [(.tmp 51), (.tmp 52), (.tmp 53)]), none, []⟩,
    ⟨(some 50), (.move (.tmp 54)), none, []⟩,
    ⟨(some 55), (.extract (.tmp 50) 0), none, []⟩,
    ⟨(some 56), (.extract (.tmp 50) 1), none, []⟩,
    ⟨(some 10), (.move (.tmp 55)), none, []⟩,
    ⟨(some 11), (.move (.tmp 56)), none, []⟩]))
  (.seq (.keep [3, 4, 5, 9, 10] (.seq (.keep [3, 4, 5, 9, 10, 65] (.ops [⟨(some 57), (.move (.tmp 11)), none, []⟩,
    ⟨(some 58), (.bin .neq (.tmp 57) (.const (.int .i64 0))), none, []⟩,
    ⟨(some 59), (.move (.tmp 58)), none, []⟩,
    ⟨(some 60), (.move (.tmp 10)), (some (59, false)), []⟩,
    ⟨(some 61), (.len (.tmp 60)), (some (59, false)), []⟩,
    ⟨(some 62), (.move (.tmp 9)), (some (59, false)), []⟩,
    ⟨(some 63), (.bin .add (.tmp 62) (.const (.int .i64 1))), (some (59, false)), []⟩,
    ⟨(some 64), (.bin .neq (.tmp 61) (.tmp 63)), (some (59, false)), []⟩,
    ⟨(some 65), (.pick (.tmp 59) (.const (.bool true)) (.tmp 64)), none, []⟩]))
  (.cond (.tmp 65)
    (.seq (.keep [8] (.ops [⟨(some 8), (.move (.const (.bool false))), none, []⟩]))
    .ret)
    .skip)))
  (.seq (.keep [3, 4, 5, 9, 10, 12] (.ops [⟨(some 66), (.fieldAddr 0 (.tmp 4)), none, []⟩,
    ⟨(some 67), (.load none (.tmp 66)), none, []⟩,
    ⟨(some 12), (.move (.tmp 67)), none, []⟩]))
  (.seq (.keep [3, 4, 5, 9, 10, 12, 13] (.ops [⟨(some 13), (.move (.const (.int .i64 0))), none, []⟩]))
  (.seq (.keep [9, 10, 12] (.seq (.keep [3, 4, 5, 9, 10, 12, 13, 14] (.ops [⟨(some 14), (.move (.const (.int .i64 0))), none, []⟩]))
  (.block 0
    (.loop
      (.keep [3, 4, 5, 9, 10, 12, 13, 14] (.seq (.keep [3, 4, 5, 9, 10, 12, 13, 14] (.seq (.keep [3, 4, 5, 9, 10, 12, 13, 14, 70] (.ops [⟨(some 68), (.move (.tmp 14)), none, []⟩,
        ⟨(some 69), (.move (.tmp 9)), none, []⟩,
        ⟨(some 70), (.bin .lss (.tmp 68) (.tmp 69)), none, []⟩]))
      (.cond (.tmp 70)
        .skip
        (.exit 0))))
      (.seq (.keep [3, 4, 5, 9, 10, 12, 13, 14] (.block 1
        (.seq (.keep [3, 4, 5, 9, 10, 12, 13, 14] (.seq (.keep [3, 4, 5, 9, 10, 12, 13, 14, 78] (.ops [⟨(some 73), (.move (.tmp 12)), none, []⟩,
          ⟨(some 74), (.move (.tmp 10)), none, []⟩,
          ⟨(some 75), (.move (.tmp 14)), none, []⟩,
          ⟨(some 76), (.indexAddr 1 (.tmp 74) (.tmp 75)), none, []⟩,
          ⟨(some 77), (.load none (.tmp 76)), none, []⟩,
          ⟨(some 78), (.bin .gtr (.tmp 73) (.tmp 77)), none, []⟩]))
        (.cond (.tmp 78)
          (.seq (.keep [8] (.ops [⟨(some 8), (.move (.const (.bool false))), none, []⟩]))
          .ret)
          .skip)))
        (.seq (.keep [3, 4, 5, 9, 10, 12, 13, 14, 15] (.ops [⟨(some 15), (.alloc (.agg (List.replicate 64 (.bool false)).toArray)), none, []⟩]))
        (.seq (.keep [3, 4, 5, 9, 10, 12, 13, 14, 15, 16] (.ops [⟨(some 16), (.move (.const (.int .i64 0))), none, []⟩]))
        (.seq (.keep [3, 4, 5, 9, 10, 13, 14, 16] (.seq (.keep [3, 4, 5, 9, 10, 12, 13, 14, 15, 16, 17] (.ops [⟨(some 17), (.move (.const (.int .i64 0))), none, []⟩]))
        (.block 2
          (.loop
            (.keep [3, 4, 5, 9, 10, 12, 13, 14, 15, 16, 17] (.seq (.keep [3, 4, 5, 9, 10, 12, 13, 14, 15, 16, 17] (.seq (.keep [3, 4, 5, 9, 10, 12, 13, 14, 15, 16, 17, 83] (.ops [⟨(some 79), (.move (.tmp 17)), none, []⟩,
              ⟨(some 80), (.load (some 2) (.tmp 5)), none, []⟩,
              ⟨(some 81), (.move (.tmp 12)), none, []⟩,
              ⟨(some 82), (.call (.func 21) [(.tmp 80), (.tmp 81)]), none, []⟩,
              ⟨(some 83), (.bin .lss (.tmp 79) (.tmp 82)), none, []⟩]))
            (.cond (.tmp 83)
              .skip
              (.exit 2))))
            (.seq (.keep [3, 4, 5, 9, 10, 12, 13, 14, 15, 16, 17] (.block 3
              (.seq (.keep [3, 4, 5, 9, 10, 12, 13, 14, 15, 16, 17, 18] (.ops [⟨(some 18), (.move (.const (.int .i64 0))), none, []⟩]))
              (.block 4
                (.loop
                  (.keep [3, 4, 5, 9, 10, 12, 13, 14, 15, 16, 17, 18] (.seq (.keep [3, 4, 5, 9, 10, 12, 13, 14, 15, 16, 17, 18] (.seq (.keep [3, 4, 5, 9, 10, 12, 13, 14, 15, 16, 17, 18, 94] (.ops [⟨(some 86), (.move (.tmp 18)), none, []⟩,
                    ⟨(some 87), (.fieldAddr 2 (.tmp 4)), none, []⟩,
                    ⟨(some 88), (.load none (.tmp 87)), none, []⟩,
                    ⟨(some 89), (.bin .lss (.tmp 86) (.tmp 88)), none, []⟩,
                    ⟨(some 90), (.move (.tmp 89)), none, []⟩,
                    ⟨(some 91), (.fieldAddr 1 (.tmp 4)), (some (90, true)), []⟩,
                    ⟨(some 92), (.load none (.tmp 91)), (some (90, true)), []⟩,
                    ⟨(some 93), (.bin .gtr (.tmp 92) (.const (.int .i64 0))), (some (90, true)), []⟩,
                    ⟨(some 94), (.pick (.tmp 90) (.tmp 93) (.const (.bool false))), none, []⟩]))
                  (.cond (.tmp 94)
                    .skip
                    (.exit 4))))
                  (.seq (.keep [3, 4, 5, 9, 10, 12, 13, 14, 15, 16, 17, 18] (.block 5
                    (.seq (.keep [3, 4, 5, 9, 10, 12, 13, 14, 15, 16, 17, 18, 19] (.ops [⟨(some 97), (.move (.tmp 3)), none, []⟩,
                      ⟨(some 98), (.move (.tmp 13)), none, []⟩,
                      ⟨(some 99), (.move (.tmp 3)), none, []⟩,
                      ⟨(some 100), (.len (.tmp 99)), none, []⟩,
                      ⟨(some 101), (.bin .rem (.tmp 98) (.tmp 100)), none, []⟩,
                      ⟨(some 102), (.indexAddr 1 (.tmp 97) (.tmp 101)), none, []⟩,
                      ⟨(some 103), (.load none (.tmp 102)), none, []⟩,
                      ⟨(some 104), (.convInt .i64 (.tmp 103)), none, []⟩,
                      ⟨(some 19), (.move (.tmp 104)), none, []⟩]))
                    (.seq (.keep [3, 4, 5, 9, 10, 12, 13, 14, 15, 16, 17, 18, 19] (.ops [⟨(some 105), (.move (.tmp 13)), none, []⟩,
                      ⟨(some 106), (.bin .add (.tmp 105) (.const (.int .i64 1))), none, []⟩,
                      ⟨(some 13), (.move (.tmp 106)), none, []⟩]))
                    (.seq (.keep [3, 4, 5, 9, 10, 12, 13, 14, 15, 16, 17, 18, 19, 20] (.ops [⟨(some 107), (.move (.tmp 19)), none, []⟩,
                      ⟨(some 108), (.fieldAddr 1 (.tmp 4)), none, []⟩,
                      ⟨(some 109), (.load none (.tmp 108)), none, []⟩,
                      ⟨(some 110), (.bin .rem (.tmp 107) (.tmp 109)), none, []⟩,
                      ⟨(some 20), (.move (.tmp 110)), none, []⟩]))
                    (.seq (.keep [3, 4, 5, 9, 10, 12, 13, 14, 15, 16, 17, 18, 20, 118] (.ops [⟨(some 111), (.move (.tmp 19)), none, []⟩,
                      ⟨(some 112), (.bin .lss (.tmp 111) (.const (.int .i64 200))), none, []⟩,
                      ⟨(some 113), (.move (.tmp 112)), none, []⟩,
                      ⟨(some 114), (.move (.tmp 20)), (some (113, true)), []⟩,
                      ⟨(some 115), (.indexArr 64 1 (.tmp 15) (.tmp 114)), (some (113, true)), []⟩,
                      ⟨(some 116), (.load none (.tmp 115)), (some (113, true)), []⟩,
                      ⟨(some 117), (.un .not (.tmp 116)), (some (113, true)), []⟩,
                      ⟨(some 118), (.pick (.tmp 113) (.tmp 117) (.const (.bool false))), none, []⟩]))
                    (.cond (.tmp 118)
                      (.seq (.keep [3, 4, 5, 9, 10, 12, 13, 14, 15, 16, 17, 18] (.ops [⟨(some 119), (.move (.tmp 20)), none, []⟩,
                        ⟨(some 120), (.indexArr 64 1 (.tmp 15) (.tmp 119)), none, []⟩,
                        ⟨none, (.store 1 (.tmp 120) (.const (.bool true))), none, []⟩]))
                      (.ops [⟨(some 121), (.move (.tmp 16)), none, []⟩,
                        ⟨(some 122), (.bin .add (.tmp 121) (.const (.int .i64 1))), none, []⟩,
                        ⟨(some 16), (.move (.tmp 122)), none, []⟩]))
                      .skip)))))))
                  (.ops [⟨(some 95), (.move (.tmp 18)), none, []⟩,
                    ⟨(some 96), (.bin .add (.tmp 95) (.const (.int .i64 1))), none, []⟩,
                    ⟨(some 18), (.move (.tmp 96)), none, []⟩])))))))))
            (.ops [⟨(some 84), (.move (.tmp 17)), none, []⟩,
              ⟨(some 85), (.bin .add (.tmp 84) (.const (.int .i64 1))), none, []⟩,
              ⟨(some 17), (.move (.tmp 85)), none, []⟩]))))))))
        (.ops [⟨(some 123), (.move (.tmp 16)), none, []⟩,
          ⟨(some 12), (.move (.tmp 123)), none, []⟩])))))))
      (.ops [⟨(some 71), (.move (.tmp 14)), none, []⟩,
        ⟨(some 72), (.bin .add (.tmp 71) (.const (.int .i64 1))), none, []⟩,
        ⟨(some 14), (.move (.tmp 72)), none, []⟩]))))))))
  (.seq (.keep [8] (.ops [⟨(some 124), (.call (.func 13) []), none, []⟩,
    ⟨(some 125), (.move (.tmp 124)), none, []⟩,
    ⟨(some 126), (.move (.tmp 12)), (some (125, true)), []⟩,
    ⟨(some 127), (.move (.tmp 10)), (some (125, true)), []⟩,
    ⟨(some 128), (.move (.tmp 9)), (some (125, true)), []⟩,
    ⟨(some 129), (.indexAddr 1 (.tmp 127) (.tmp 128)), (some (125, true)), []⟩,
    ⟨(some 130), (.load none (.tmp 129)), (some (125, true)), []⟩,
    ⟨(some 131), (.bin .leq (.tmp 126) (.tmp 130)), (some (125, true)), []⟩,
    ⟨(some 132), (.pick (.tmp 125) (.tmp 131) (.const (.bool false))), none, []⟩,
    ⟨(some 8), (.move (.tmp 132)), none, []⟩]))
  .ret)))))))))
theorem t7 : trF Try.prog Try.f7 s7 = some s7 := by kernel_rfl
theorem k7 : okS s7 = true := by kernel_rfl
theorem r7 : resT Try.prog Try.f7.results.toList = some [.t 8] := by kernel_rfl

def s8 : S :=
  (.seq (.keep [5, 6, 7, 8, 9] (.ops [⟨(some 5), (.box (.tmp 0)), none, []⟩,
    ⟨(some 6), (.box (.tmp 1)), none, []⟩,
    ⟨(some 7), (.box (.tmp 2)), none, []⟩,
    ⟨(some 8), (.box (.tmp 3)), none, []⟩,
    ⟨(some 9), (.box (.tmp 4)), none, []⟩,
    ⟨(some 10), (.move (.const (.bool false))), none, []⟩]))
  (.seq (.keep [5, 6, 7, 8, 9] (.seq (.keep [5, 6, 7, 8, 9, 66] (.ops [⟨(some 15), (.load (some 4) (.tmp 5)), none, []⟩,
    ⟨(some 16), (.load (some 2) (.tmp 6)), none, []⟩,
    ⟨(some 17), (.call (.func 15) [(.tmp 15), (.tmp 16)]), none, []⟩,
    ⟨(some 18), (.bin .neq (.tmp 17) (.const (.int .i64 0))), none, []⟩,
    ⟨(some 19), (.move (.tmp 18)), none, []⟩,
    ⟨(some 20), (.load (some 4) (.tmp 7)), (some (19, false)), []⟩,
    ⟨(some 21), (.load (some 2) (.tmp 8)), (some (19, false)), []⟩,
    ⟨(some 22), (.call (.func 15) [(.tmp 20), (.tmp 21)]), (some (19, false)), []⟩,
    ⟨(some 23), (.bin .neq (.tmp 22) (.const (.int .i64 0))), (some (19, false)), []⟩,
    ⟨(some 24), (.pick (.tmp 19) (.const (.bool true)) (.tmp 23)), none, []⟩,
    ⟨(some 25), (.move (.tmp 24)), none, []⟩,
    ⟨(some 26), (.fieldAddr 0 (.tmp 5)), (some (25, false)), []⟩,
    ⟨(some 27), (.load none (.tmp 26)), (some (25, false)), []⟩,
    ⟨(some 28), (.fieldAddr 0 (.tmp 7)), (some (25, false)), []⟩,
    ⟨(some 29), (.load none (.tmp 28)), (some (25, false)), []⟩,
    ⟨(some 30), (.bin .neq (.tmp 27) (.tmp 29)), (some (25, false)), []⟩,
    ⟨(some 31), (.pick (.tmp 25) (.const (.bool true)) (.tmp 30)), none, []⟩,
    ⟨(some 32), (.move (.tmp 31)), none, []⟩,
    ⟨(some 33), (.fieldAddr 0 (.tmp 8)), (some (32, false)), []⟩,
    ⟨(some 34), (.load none (.tmp 33)), (some (32, false)), []⟩,
    ⟨(some 35), (.fieldAddr 0 (.tmp 6)), (some (32, false)), []⟩,
    ⟨(some 36), (.load none (.tmp 35)), (some (32, false)), []⟩,
    ⟨(some 37), (.bin .gtr (.tmp 34) (.tmp 36)), (some (32, false)), []⟩,
    ⟨(some 38), (.pick (.tmp 32) (.const (.bool true)) (.tmp 37)), none, []⟩,
    ⟨(some 39), (.move (.tmp 38)), none, []⟩,
    ⟨(some 40), (.fieldAddr 1 (.tmp 8)), (some (39, false)), []⟩,
    ⟨(some 41), (.load none (.tmp 40)), (some (39, false)), []⟩,
    ⟨(some 42), (.fieldAddr 1 (.tmp 6)), (some (39, false)), []⟩,
    ⟨(some 43), (.load none (.tmp 42)), (some (39, false)), []⟩,
    ⟨(some 44), (.bin .lss (.tmp 41) (.tmp 43)), (some (39, false)), []⟩,
    ⟨(some 45), (.pick (.tmp 39) (.const (.bool true)) (.tmp 44)), none, []⟩,
    ⟨(some 46), (.move (.tmp 45)), none, []⟩,
    ⟨(some 47), (.fieldAddr 1 (.tmp 7)), (some (46, false)), []⟩,
    ⟨(some 48), (.load none (.tmp 47)), (some (46, false)), []⟩,
    ⟨(some 49), (.fieldAddr 1 (.tmp 5)), (some (46, false)), []⟩,
    ⟨(some 50), (.load none (.tmp 49)), (some (46, false)), []⟩,
    ⟨(some 51), (.bin .lss (.tmp 48) (.tmp 50)), (some (46, false)), []⟩,
    ⟨(some 52), (.pick (.tmp 46) (.const (.bool true)) (.tmp 51)), none, []⟩,
    ⟨(some 53), (.move (.tmp 52)), none, []⟩,
    ⟨(some 54), (.fieldAddr 2 (.tmp 7)), (some (53, false)), []⟩,
    ⟨(some 55), (.load none (.tmp 54)), (some (53, false)), []⟩,
    ⟨(some 56), (.fieldAddr 2 (.tmp 5)), (some (53, false)), []⟩,
    ⟨(some 57), (.load none (.tmp 56)), (some (53, false)), []⟩,
    ⟨(some 58), (.bin .lss (.tmp 55) (.tmp 57)), (some (53, false)), []⟩,
    ⟨(some 59), (.pick (.tmp 53) (.const (.bool true)) (.tmp 58)), none, []⟩,
    ⟨(some 60), (.move (.tmp 59)), none, []⟩,
    ⟨(some 61), (.fieldAddr 3 (.tmp 7)), (some (60, false)), []⟩,
    ⟨(some 62), (.load none (.tmp 61)), (some (60, false)), []⟩,
    ⟨(some 63), (.fieldAddr 3 (.tmp 5)), (some (60, false)), []⟩,
    ⟨(some 64), (.load none (.tmp 63)), (some (60, false)), []⟩,
    ⟨(some 65), (.bin .lss (.tmp 62) (.tmp 64)), (some (60, false)), []⟩,
    ⟨(some 66), (.pick (.tmp 60) (.const (.bool true)) (.tmp 65)), none, []⟩]))
  (.cond (.tmp 66)
    (.seq (.keep [10] (.ops [⟨(some 67), (.call (.func 13) []), none, []⟩,
      ⟨(some 10), (.move (.tmp 67)), none, []⟩]))
    .ret)
    .skip)))
  (.seq (.keep [7, 8, 9, 11, 12] (.ops [⟨(some 69), (.load (some 4) (.tmp 5)), none, []⟩,
    ⟨(some 70), (.load (some 2) (.tmp 6)), none, []⟩,
    ⟨(some 71), (.load (some 2) (.tmp 9)), none, []⟩,
    ⟨(some 72), (.call (.func 10) [(.tmp 69), (.tmp 70), (.tmp 71)]), none, []⟩,
    ⟨(some 68), (.move (.tmp 72)), none, []⟩,
    ⟨(some 73), (.extract (.tmp 68) 0), none, []⟩,
    ⟨(some 74), (.extract (.tmp 68) 1), none, []⟩,
    ⟨(some 11), (.alloc (.agg #[(.int .i64 0), (.int .i64 0), (.int .i64 0)])), none, []⟩,
    ⟨none, (.store 3 (.tmp 11) (.tmp 73)), none, []⟩,
    ⟨(some 12), (.move (.tmp 74)), none, []⟩]))
  (.seq (.keep [11, 12, 13, 14] (.ops [⟨(some 76), (.load (some 4) (.tmp 7)), none, []⟩,
    ⟨(some 77), (.load (some 2) (.tmp 8)), none, []⟩,
    ⟨(some 78), (.load (some 2) (.tmp 9)), none, []⟩,
    ⟨(some 79), (.call (.func 10) [(.tmp 76), (.tmp 77), (.tmp 78)]), none, []⟩,
    ⟨(some 75), (.move (.tmp 79)), none, []⟩,
    ⟨(some 80), (.extract (.tmp 75) 0), none, []⟩,
    ⟨(some 81), (.extract (.tmp 75) 1), none, []⟩,
    ⟨(some 13), (.alloc (.agg #[(.int .i64 0), (.int .i64 0), (.int .i64 0)])), none, []⟩,
    ⟨none, (.store 3 (.tmp 13) (.tmp 80)), none, []⟩,
    ⟨(some 14), (.move (.tmp 81)), none, []⟩]))
  (.seq (.keep [10] (.ops [⟨(some 82), (.call (.func 13) []), none, []⟩,
    ⟨(some 83), (.move (.tmp 82)), none, []⟩,
    ⟨(some 84), (.move (.tmp 12)), (some (83, true)), []⟩,
    ⟨(some 85), (.move (.tmp 14)), (some (83, true)), []⟩,
    ⟨(some 86), (.bin .eql (.tmp 84) (.tmp 85)), (some (83, true)), []⟩,
    ⟨(some 87), (.pick (.tmp 83) (.tmp 86) (.const (.bool false))), none, []⟩,
    ⟨(some 88), (.move (.tmp 87)), none, []⟩,
    ⟨(some 89), (.load (some 3) (.tmp 11)), (some (88, true)), []⟩,
    ⟨(some 90), (.load (some 3) (.tmp 13)), (some (88, true)), []⟩,
    ⟨(some 91), (.call (.func 17) [(.tmp 89), (.tmp 90)]), (some (88, true)), []⟩,
    ⟨(some 92), (.pick (.tmp 88) (.tmp 91) (.const (.bool false))), none, []⟩,
    ⟨(some 10), (.move (.tmp 92)), none, []⟩]))
  .ret)))))
theorem t8 : trF Try.prog Try.f8 s8 = some s8 := by kernel_rfl
theorem k8 : okS s8 = true := by kernel_rfl
theorem r8 : resT Try.prog Try.f8.results.toList = some [.t 10] := by kernel_rfl

def s9 : S :=
  (.seq (.keep [2, 3, 4] (.ops [⟨(some 3), (.box (.tmp 0)), none, []⟩,
    ⟨(some 4), (.box (.tmp 1)), none, []⟩,
    ⟨(some 6), (.move (.const (.slice none 0 0))), none, []⟩,
    ⟨(some 7), (.move (.const (.int .i64 0))), none, []⟩]))
  (.seq (.keep [2, 3, 4] (.seq (.keep [2, 3, 4, 8] (.ops [⟨(some 9), (.load (some 4) (.tmp 3)), none, []⟩,
    ⟨(some 10), (.load (some 2) (.tmp 4)), none, []⟩,
    ⟨(some 11), (.call (.func 14) [(.tmp 9), (.tmp 10)]), none, []⟩,
    ⟨(some 8), (.move (.tmp 11)), none, []⟩]))
  (.seq (.keep [2, 3, 4, 8, 13] (.ops [⟨(some 12), (.move (.tmp 8)), none, []⟩,
    ⟨(some 13), (.bin .neq (.tmp 12) (.const (.int .i64 0))), none, []⟩]))
  (.cond (.tmp 13)
    (.seq (.keep [6, 7] (.ops [⟨(some 14), (.move (.tmp 8)), none, []⟩,
      ⟨(some 6), (.move (.const (.slice none 0 0))), none, []⟩,
      ⟨(some 7), (.move (.tmp 14)), none, []⟩]))
    .ret)
    .skip))))
  (.seq (.keep [2, 3, 4] (.seq (.keep [2, 3, 4, 17] (.ops [⟨(some 15), (.move (.tmp 2)), none, []⟩,
    ⟨(some 16), (.call (.func 22) [(.tmp 15), (.const (.int .i64 1)), (.const (.int .i64 16))]), none, []⟩,
    ⟨(some 17), (.un .not (.tmp 16)), none, []⟩]))
  (.cond (.tmp 17)
    (.seq (.keep [6, 7] (.ops [⟨(some 6), (.move (.const (.slice none 0 0))), none, []⟩,
      ⟨(some 7), (.move (.const (.int .i64 1))), none, []⟩]))
    .ret)
    .skip)))
  (.seq (.keep [6, 7] (.ops [⟨(some 18), (.load (some 4) (.tmp 3)), none, []⟩,
    ⟨(some 19), (.load (some 2) (.tmp 4)), none, []⟩,
    ⟨(some 20), (.build (List.replicate 6 (.int .i64 0)) [(0, 4, (.tmp 18)), (4, 2, (.tmp 19))]), none, []⟩,
    ⟨(some 21), (.move (.tmp 2)), none, []⟩,
    ⟨(some 22), (.call (.func 23) [(.tmp 20), (.tmp 21)]), none, []⟩,
    ⟨(some 6), (.move (.tmp 22)), none, []⟩,
    ⟨(some 7), (.move (.const (.int .i64 0))), none, []⟩]))
  .ret))))
theorem t9 : trF Try.prog Try.f9 s9 = some s9 := by kernel_rfl
theorem k9 : okS s9 = true := by kernel_rfl
theorem r9 : resT Try.prog Try.f9.results.toList = some [.t 6, .t 7] := by kernel_rfl

def s10 : S :=
  (.seq (.keep [3, 4, 5, 6, 7] (.ops [⟨(some 3), (.box (.tmp 0)), none, []⟩,
    ⟨(some 4), (.box (.tmp 1)), none, []⟩,
    ⟨(some 5), (.box (.tmp 2)), none, []⟩,
    ⟨(some 6), (.alloc (.agg #[(.int .i64 0), (.int .i64 0), (.int .i64 0)])), none, []⟩,
    ⟨(some 7), (.alloc (.int .i64 0)), none, []⟩]))
  (.seq (.keep [3, 4, 5, 6, 7] (.seq (.keep [3, 4, 5, 6, 7, 8] (.ops [⟨(some 10), (.load (some 4) (.tmp 3)), none, []⟩,
    ⟨(some 11), (.load (some 2) (.tmp 4)), none, []⟩,
    ⟨(some 12), (.call (.func 14) [(.tmp 10), (.tmp 11)]), none, []⟩,
    ⟨(some 8), (.move (.tmp 12)), none, []⟩]))
  (.seq (.keep [3, 4, 5, 6, 7, 8, 14] (.ops [⟨(some 13), (.move (.tmp 8)), none, []⟩,
    ⟨(some 14), (.bin .neq (.tmp 13) (.const (.int .i64 0))), none, []⟩]))
  (.cond (.tmp 14)
    (.seq (.keep [6, 7] (.ops [⟨(some 15), (.build [(.int .i64 0), (.int .i64 0), (.int .i64 0)] []), none, []⟩,
      ⟨(some 16), (.move (.tmp 8)), none, []⟩,
      ⟨none, (.store 3 (.tmp 6) (.tmp 15)), none, []⟩,
      ⟨none, (.store 1 (.tmp 7) (.tmp 16)), none, []⟩]))
    .ret)
    .skip))))
  (.seq (.keep [6, 7] (.seq (.keep [3, 4, 5, 6, 7, 17] (.ops [⟨(some 17), (.call (.func 24) []), none, []⟩]))
  (.block 0
    (.range (.tmp 17) #[18]
      (.keep [3, 4, 5, 6, 7, 9] (.ops [⟨(some 9), (.alloc (.agg #[(.int .i64 0), (.int .i64 0)])), none, []⟩,
        ⟨none, (.store 2 (.tmp 9) (.tmp 18)), none, []⟩]))
      (.block 1
        (.seq (.keep [3, 4, 5, 6, 7, 21] (.ops [⟨(some 19), (.load (some 2) (.tmp 9)), none, []⟩,
          ⟨(some 20), (.load (some 2) (.tmp 5)), none, []⟩,
          ⟨(some 21), (.eqAgg false [(.int .i64), (.int .i64)] (.tmp 19) (.tmp 20)), none, []⟩]))
        (.cond (.tmp 21)
          (.seq (.keep [] (.draw [0, 0, 3, 7, 0, 16, 63, 0, 128, 511, 1023, 2047] [⟨0, 0, [], ⟨(some 22), (.load (some 4) (.tmp 3)), none, []⟩⟩,
            ⟨1, 0, [], ⟨(some 23), (.load (some 2) (.tmp 4)), none, []⟩⟩,
            ⟨2, 3, [], ⟨(some 24), (.build (List.replicate 6 (.int .i64 0)) [(0, 4, (.tmp 22)), (4, 2, (.tmp 23))]), none, []⟩⟩,
            ⟨4, 0, [], ⟨(some 26), (.fieldAddr 0 (.tmp 5)), none, []⟩⟩,
            ⟨5, 16, [], ⟨(some 27), (.load none (.tmp 26)), none, []⟩⟩,
            ⟨7, 0, [], ⟨(some 29), (.fieldAddr 1 (.tmp 5)), none, []⟩⟩,
            ⟨8, 128, [], ⟨(some 30), (.load none (.tmp 29)), none, []⟩⟩,
            ⟨3, 7, [5, 8], ⟨(some 25), (.call (.func 25) [(.tmp 24)]), none, [((.load none (.tmp 26)), none, (some 27)), ((.load none (.tmp 29)), none, (some 30))]⟩⟩,
            ⟨6, 63, [], ⟨(some 28), (.lookup (.int .i64) .nilFunc false (.tmp 25) (.tmp 27)), none, []⟩⟩,
            ⟨9, 511, [], ⟨(some 31), (.call (.tmp 28) [(.tmp 30)]), none, []⟩⟩,
            ⟨10, 1023, [], ⟨none, (.store 3 (.tmp 6) (.tmp 31)), none, []⟩⟩,
            ⟨11, 2047, [], ⟨none, (.store 1 (.tmp 7) (.const (.int .i64 0))), none, []⟩⟩]))
          .ret)
          .skip)))))))
  (.seq (.keep [6, 7] (.ops [⟨(some 32), (.build [(.int .i64 0), (.int .i64 0), (.int .i64 0)] []), none, []⟩,
    ⟨none, (.store 3 (.tmp 6) (.tmp 32)), none, []⟩,
    ⟨none, (.store 1 (.tmp 7) (.const (.int .i64 1))), none, []⟩]))
  .ret))))
theorem t10 : trF Try.prog Try.f10 s10 = some s10 := by kernel_rfl
theorem k10 : okS s10 = true := by kernel_rfl
theorem r10 : resT Try.prog Try.f10.results.toList = some [.c 6 (some 3), .c 7 none] := by kernel_rfl

def s11 : S :=
  (.seq (.keep [2, 3, 4, 6] (.ops [⟨(some 3), (.box (.tmp 0)), none, []⟩,
    ⟨(some 4), (.box (.tmp 1)), none, []⟩,
    ⟨(some 6), (.alloc (.agg #[(.slice none 0 0), (.int .i64 0)])), none, []⟩]))
  (.seq (.keep [2, 3, 4, 6, 7] (.ops [⟨(some 10), (.load (some 4) (.tmp 3)), none, []⟩,
    ⟨(some 11), (.load (some 2) (.tmp 4)), none, []⟩,
    ⟨(some 12), (.call (.func 15) [(.tmp 10), (.tmp 11)]), none, []⟩,
    ⟨(some 7), (.move (.tmp 12)), none, []⟩]))
  (.seq (.keep [2, 3, 4, 6] (.seq (.keep [2, 3, 4, 6, 7, 14] (.ops [⟨(some 13), (.move (.tmp 7)), none, []⟩,
    ⟨(some 14), (.bin .neq (.tmp 13) (.const (.int .i64 0))), none, []⟩]))
  (.cond (.tmp 14)
    (.seq (.keep [6] (.ops [⟨(some 15), (.move (.tmp 7)), none, []⟩,
      ⟨(some 16), (.build [(.slice none 0 0), (.int .i64 0)] [(1, 1, (.tmp 15))]), none, []⟩,
      ⟨none, (.store 2 (.tmp 6) (.tmp 16)), none, []⟩]))
    .ret)
    .skip)))
  (.seq (.keep [2, 3, 4, 6] (.seq (.keep [2, 3, 4, 6, 19] (.ops [⟨(some 17), (.move (.tmp 2)), none, []⟩,
    ⟨(some 18), (.call (.func 26) [(.tmp 17), (.const (.int .i64 1)), (.const (.int .i64 16))]), none, []⟩,
    ⟨(some 19), (.un .not (.tmp 18)), none, []⟩]))
  (.cond (.tmp 19)
    (.seq (.keep [6] (.ops [⟨(some 20), (.build [(.slice none 0 0), (.int .i64 0)] [(1, 1, (.const (.int .i64 1)))]), none, []⟩,
      ⟨none, (.store 2 (.tmp 6) (.tmp 20)), none, []⟩]))
    .ret)
    .skip)))
  (.seq (.keep [2, 3, 4, 6, 8] (.ops [⟨(some 21), (.fieldAddr 0 (.tmp 3)), none, []⟩,
    ⟨(some 22), (.load none (.tmp 21)), none, []⟩,
    ⟨(some 23), (.buildSlice 1 [(.int .i64 0)] [(0, 1, (.tmp 22))]), none, []⟩,
    ⟨(some 8), (.move (.tmp 23)), none, []⟩]))
  (.seq (.keep [6, 8] (.seq (.keep [2, 3, 4, 6, 8, 9] (.ops [⟨(some 9), (.move (.const (.int .i64 0))), none, []⟩]))
  (.block 0
    (.loop
      (.keep [2, 3, 4, 6, 8, 9] (.seq (.keep [2, 3, 4, 6, 8, 9] (.seq (.keep [2, 3, 4, 6, 8, 9, 26] (.ops [⟨(some 24), (.move (.tmp 9)), none, []⟩,
        ⟨(some 25), (.move (.tmp 2)), none, []⟩,
        ⟨(some 26), (.bin .lss (.tmp 24) (.tmp 25)), none, []⟩]))
      (.cond (.tmp 26)
        .skip
        (.exit 0))))
      (.seq (.keep [2, 3, 4, 6, 8, 9] (.block 1
        (.draw [0, 0, 0, 0, 0, 24, 56, 124, 254, 510, 1023, 2047] [⟨0, 0, [], ⟨(some 29), (.move (.tmp 8)), none, []⟩⟩,
          ⟨1, 0, [], ⟨(some 30), (.load (some 4) (.tmp 3)), none, []⟩⟩,
          ⟨2, 0, [], ⟨(some 31), (.load (some 2) (.tmp 4)), none, []⟩⟩,
          ⟨3, 0, [], ⟨(some 32), (.move (.tmp 8)), none, []⟩⟩,
          ⟨4, 0, [], ⟨(some 33), (.move (.tmp 9)), none, []⟩⟩,
          ⟨5, 24, [], ⟨(some 34), (.indexAddr 1 (.tmp 32) (.tmp 33)), none, []⟩⟩,
          ⟨6, 56, [], ⟨(some 35), (.load none (.tmp 34)), none, []⟩⟩,
          ⟨7, 124, [1], ⟨(some 36), (.call (.func 21) [(.tmp 31), (.tmp 35)]), none, [((.load (some 4) (.tmp 3)), none, (some 30))]⟩⟩,
          ⟨8, 254, [], ⟨(some 37), (.call (.func 27) [(.tmp 30), (.tmp 36)]), none, []⟩⟩,
          ⟨9, 510, [], ⟨(some 38), (.buildSlice 1 [(.int .i64 0)] [(0, 1, (.tmp 37))]), none, []⟩⟩,
          ⟨10, 1023, [], ⟨(some 39), (.append 1 8 (.tmp 29) (.tmp 38)), none, []⟩⟩,
          ⟨11, 2047, [], ⟨(some 8), (.move (.tmp 39)), none, []⟩⟩])))
      (.ops [⟨(some 27), (.move (.tmp 9)), none, []⟩,
        ⟨(some 28), (.bin .add (.tmp 27) (.const (.int .i64 1))), none, []⟩,
        ⟨(some 9), (.move (.tmp 28)), none, []⟩]))))))))
  (.seq (.keep [6] (.ops [⟨(some 40), (.move (.tmp 8)), none, []⟩,
    ⟨(some 41), (.build [(.slice none 0 0), (.int .i64 0)] [(0, 1, (.tmp 40))]), none, []⟩,
    ⟨none, (.store 2 (.tmp 6) (.tmp 41)), none, []⟩]))
  .ret)))))))
theorem t11 : trF Try.prog Try.f11 s11 = some s11 := by kernel_rfl
theorem k11 : okS s11 = true := by kernel_rfl
theorem r11 : resT Try.prog Try.f11.results.toList = some [.c 6 (some 2)] := by kernel_rfl

def s12 : S :=
  (.seq (.keep [3, 4, 5, 6] (.ops [⟨(some 3), (.box (.tmp 0)), none, []⟩,
    ⟨(some 4), (.box (.tmp 1)), none, []⟩,
    ⟨(some 5), (.box (.tmp 2)), none, []⟩,
    ⟨(some 6), (.alloc (.agg (List.replicate 4 (.int .i64 0)).toArray)), none, []⟩]))
  (.seq (.keep [3, 4, 5, 6, 7] (.ops [⟨(some 11), (.load (some 4) (.tmp 3)), none, []⟩,
    ⟨(some 12), (.load (some 2) (.tmp 4)), none, []⟩,
    ⟨(some 13), (.call (.func 15) [(.tmp 11), (.tmp 12)]), none, []⟩,
    ⟨(some 7), (.move (.tmp 13)), none, []⟩]))
  (.seq (.keep [3, 4, 5, 6] (.seq (.keep [3, 4, 5, 6, 7, 15] (.ops [⟨(some 14), (.move (.tmp 7)), none, []⟩,
    ⟨(some 15), (.bin .neq (.tmp 14) (.const (.int .i64 0))), none, []⟩]))
  (.cond (.tmp 15)
    (.seq (.keep [6] (.ops [⟨(some 16), (.move (.tmp 7)), none, []⟩,
      ⟨(some 17), (.build (List.replicate 4 (.int .i64 0)) [(3, 1, (.tmp 16))]), none, []⟩,
      ⟨none, (.store 4 (.tmp 6) (.tmp 17)), none, []⟩]))
    .ret)
    .skip)))
  (.seq (.keep [3, 4, 5, 6, 8] (.ops [⟨(some 18), (.fieldAddr 1 (.tmp 4)), none, []⟩,
    ⟨(some 19), (.load none (.tmp 18)), none, []⟩,
    ⟨(some 20), (.bin .mul (.const (.int .i64 2)) (.tmp 19)), none, []⟩,
    ⟨(some 21), (.bin .add (.tmp 20) (.const (.int .i64 1))), none, []⟩,
    ⟨(some 8), (.move (.tmp 21)), none, []⟩]))
  (.seq (.keep [3, 4, 5, 6, 8] (.seq (.keep [3, 4, 5, 6, 8, 29] (.ops [⟨(some 22), (.fieldAddr 0 (.tmp 5)), none, []⟩,
    ⟨(some 23), (.load none (.tmp 22)), none, []⟩,
    ⟨(some 24), (.bin .eql (.tmp 23) (.const (.int .i64 1))), none, []⟩,
    ⟨(some 25), (.move (.tmp 24)), none, []⟩,
    ⟨(some 26), (.fieldAddr 1 (.tmp 5)), (some (25, true)), []⟩,
    ⟨(some 27), (.load none (.tmp 26)), (some (25, true)), []⟩,
    ⟨(some 28), (.call (.func 26) [(.tmp 27), (.const (.int .i64 1)), (.const (.int .i64 16))]), (some (25, true)), []⟩,
    ⟨(some 29), (.pick (.tmp 25) (.tmp 28) (.const (.bool false))), none, []⟩]))
  (.cond (.tmp 29)
    (.seq (.keep [3, 4, 5, 6, 9] (.ops [⟨(some 30), (.load (some 4) (.tmp 3)), none, []⟩,
      ⟨(some 31), (.load (some 2) (.tmp 4)), none, []⟩,
      ⟨(some 32), (.fieldAddr 1 (.tmp 5)), none, []⟩,
      ⟨(some 33), (.load none (.tmp 32)), none, []⟩,
      ⟨(some 34), (.call (.func 11) [(.tmp 30), (.tmp 31), (.tmp 33)]), none, []⟩,
      ⟨(some 35), (.field 0 none (.tmp 34)), none, []⟩,
      ⟨(some 9), (.move (.tmp 35)), none, []⟩]))
    (.seq (.keep [6] (.draw [0, 0, 0, 4, 14, 30, 63, 0, 128, 511, 0, 1151, 4095, 8191, 16383] [⟨0, 0, [], ⟨(some 36), (.load (some 2) (.tmp 4)), none, []⟩⟩,
      ⟨1, 0, [], ⟨(some 37), (.move (.tmp 9)), none, []⟩⟩,
      ⟨2, 0, [], ⟨(some 38), (.fieldAddr 1 (.tmp 5)), none, []⟩⟩,
      ⟨3, 4, [], ⟨(some 39), (.load none (.tmp 38)), none, []⟩⟩,
      ⟨4, 14, [], ⟨(some 40), (.indexAddr 1 (.tmp 37) (.tmp 39)), none, []⟩⟩,
      ⟨5, 30, [], ⟨(some 41), (.load none (.tmp 40)), none, []⟩⟩,
      ⟨7, 0, [], ⟨(some 43), (.fieldAddr 3 (.tmp 3)), none, []⟩⟩,
      ⟨8, 128, [], ⟨(some 44), (.load none (.tmp 43)), none, []⟩⟩,
      ⟨10, 0, [], ⟨(some 46), (.move (.tmp 9)), none, []⟩⟩,
      ⟨6, 63, [8], ⟨(some 42), (.call (.func 21) [(.tmp 36), (.tmp 41)]), none, [((.load none (.tmp 43)), none, (some 44))]⟩⟩,
      ⟨9, 511, [], ⟨(some 45), (.bin .add (.tmp 42) (.tmp 44)), none, []⟩⟩,
      ⟨11, 1151, [8], ⟨(some 47), (.call (.func 28) [(.tmp 46)]), none, [((.load none (.tmp 43)), none, (some 44))]⟩⟩,
      ⟨12, 4095, [], ⟨(some 48), (.build [(.int .i64 0), (.int .i64 0), (.int .i64 0)] [(0, 1, (.tmp 45)), (1, 1, (.tmp 47))]), none, []⟩⟩,
      ⟨13, 8191, [], ⟨(some 49), (.build (List.replicate 4 (.int .i64 0)) [(0, 3, (.tmp 48))]), none, []⟩⟩,
      ⟨14, 16383, [], ⟨none, (.store 4 (.tmp 6) (.tmp 49)), none, []⟩⟩]))
    .ret))
    .skip)))
  (.seq (.keep [3, 4, 5, 6, 8] (.seq (.keep [3, 4, 5, 6, 8, 57] (.ops [⟨(some 50), (.fieldAddr 0 (.tmp 5)), none, []⟩,
    ⟨(some 51), (.load none (.tmp 50)), none, []⟩,
    ⟨(some 52), (.bin .eql (.tmp 51) (.const (.int .i64 2))), none, []⟩,
    ⟨(some 53), (.move (.tmp 52)), none, []⟩,
    ⟨(some 54), (.fieldAddr 1 (.tmp 5)), (some (53, true)), []⟩,
    ⟨(some 55), (.load none (.tmp 54)), (some (53, true)), []⟩,
    ⟨(some 56), (.bin .eql (.tmp 55) (.const (.int .i64 0))), (some (53, true)), []⟩,
    ⟨(some 57), (.pick (.tmp 53) (.tmp 56) (.const (.bool false))), none, []⟩]))
  (.cond (.tmp 57)
    (.seq (.keep [6] (.ops [⟨(some 58), (.fieldAddr 1 (.tmp 4)), none, []⟩,
      ⟨(some 59), (.load none (.tmp 58)), none, []⟩,
      ⟨(some 60), (.fieldAddr 3 (.tmp 3)), none, []⟩,
      ⟨(some 61), (.load none (.tmp 60)), none, []⟩,
      ⟨(some 62), (.bin .add (.tmp 59) (.tmp 61)), none, []⟩,
      ⟨(some 63), (.fieldAddr 0 (.tmp 3)), none, []⟩,
      ⟨(some 64), (.load none (.tmp 63)), none, []⟩,
      ⟨(some 65), (.fieldAddr 1 (.tmp 3)), none, []⟩,
      ⟨(some 66), (.load none (.tmp 65)), none, []⟩,
      ⟨(some 67), (.move (.tmp 8)), none, []⟩,
      ⟨(some 68), (.bin .mul (.tmp 66) (.tmp 67)), none, []⟩,
      ⟨(some 69), (.build [(.int .i64 0), (.int .i64 0), (.int .i64 0)] [(0, 1, (.tmp 62)), (1, 1, (.tmp 64)), (2, 1, (.tmp 68))]), none, []⟩,
      ⟨(some 70), (.build (List.replicate 4 (.int .i64 0)) [(0, 3, (.tmp 69))]), none, []⟩,
      ⟨none, (.store 4 (.tmp 6) (.tmp 70)), none, []⟩]))
    .ret)
    .skip)))
  (.seq (.keep [6] (.seq (.keep [3, 4, 6, 8, 78] (.ops [⟨(some 71), (.fieldAddr 0 (.tmp 5)), none, []⟩,
    ⟨(some 72), (.load none (.tmp 71)), none, []⟩,
    ⟨(some 73), (.bin .eql (.tmp 72) (.const (.int .i64 3))), none, []⟩,
    ⟨(some 74), (.move (.tmp 73)), none, []⟩,
    ⟨(some 75), (.fieldAddr 1 (.tmp 5)), (some (74, true)), []⟩,
    ⟨(some 76), (.load none (.tmp 75)), (some (74, true)), []⟩,
    ⟨(some 77), (.bin .eql (.tmp 76) (.const (.int .i64 0))), (some (74, true)), []⟩,
    ⟨(some 78), (.pick (.tmp 74) (.tmp 77) (.const (.bool false))), none, []⟩]))
  (.cond (.tmp 78)
    (.seq (.keep [3, 4, 6, 8, 10] (.ops [⟨(some 79), (.load (some 4) (.tmp 3)), none, []⟩,
      ⟨(some 80), (.load (some 2) (.tmp 4)), none, []⟩,
      ⟨(some 81), (.call (.func 11) [(.tmp 79), (.tmp 80), (.const (.int .i64 1))]), none, []⟩,
      ⟨(some 82), (.field 0 none (.tmp 81)), none, []⟩,
      ⟨(some 10), (.move (.tmp 82)), none, []⟩]))
    (.seq (.keep [6] (.draw [0, 1, 0, 4, 15, 0, 32, 0, 128, 384, 0, 1920, 4095, 8191, 16383] [⟨0, 0, [], ⟨(some 83), (.fieldAddr 1 (.tmp 4)), none, []⟩⟩,
      ⟨1, 1, [], ⟨(some 84), (.load none (.tmp 83)), none, []⟩⟩,
      ⟨2, 0, [], ⟨(some 85), (.fieldAddr 3 (.tmp 3)), none, []⟩⟩,
      ⟨3, 4, [], ⟨(some 86), (.load none (.tmp 85)), none, []⟩⟩,
      ⟨4, 15, [], ⟨(some 87), (.bin .add (.tmp 84) (.tmp 86)), none, []⟩⟩,
      ⟨5, 0, [], ⟨(some 88), (.move (.tmp 10)), none, []⟩⟩,
      ⟨7, 0, [], ⟨(some 90), (.move (.tmp 10)), none, []⟩⟩,
      ⟨8, 128, [], ⟨(some 91), (.indexAddr 1 (.tmp 90) (.const (.int .i64 1))), none, []⟩⟩,
      ⟨9, 384, [], ⟨(some 92), (.load none (.tmp 91)), none, []⟩⟩,
      ⟨10, 0, [], ⟨(some 93), (.move (.tmp 8)), none, []⟩⟩,
      ⟨11, 1920, [], ⟨(some 94), (.bin .mul (.tmp 92) (.tmp 93)), none, []⟩⟩,
      ⟨6, 32, [1, 3, 9], ⟨(some 89), (.call (.func 28) [(.tmp 88)]), none, [((.load none (.tmp 83)), none, (some 84)), ((.load none (.tmp 85)), none, (some 86)), ((.load none (.tmp 91)), none, (some 92))]⟩⟩,
      ⟨12, 4095, [], ⟨(some 95), (.build [(.int .i64 0), (.int .i64 0), (.int .i64 0)] [(0, 1, (.tmp 87)), (1, 1, (.tmp 89)), (2, 1, (.tmp 94))]), none, []⟩⟩,
      ⟨13, 8191, [], ⟨(some 96), (.build (List.replicate 4 (.int .i64 0)) [(0, 3, (.tmp 95))]), none, []⟩⟩,
      ⟨14, 16383, [], ⟨none, (.store 4 (.tmp 6) (.tmp 96)), none, []⟩⟩]))
    .ret))
    .skip)))
  (.seq (.keep [6] (.ops [⟨(some 97), (.build (List.replicate 4 (.int .i64 0)) [(3, 1, (.const (.int .i64 1)))]), none, []⟩,
    ⟨none, (.store 4 (.tmp 6) (.tmp 97)), none, []⟩]))
  .ret))))))))
theorem t12 : trF Try.prog Try.f12 s12 = some s12 := by kernel_rfl
theorem k12 : okS s12 = true := by kernel_rfl
theorem r12 : resT Try.prog Try.f12.results.toList = some [.c 6 (some 4)] := by kernel_rfl

def s13 : S :=
  (.seq (.keep [] (.ops [⟨(some 0), (.move (.const (.bool false))), none, []⟩]))
  (.seq (.keep [1] (.ops [⟨(some 24), (.build (List.replicate 4 (.int .i64 0)) [(0, 1, (.const (.int .i64 40))), (1, 1, (.const (.int .i64 10))), (2, 1, (.const (.int .i64 1))), (3, 1, (.const (.int .i64 2)))]), none, []⟩,
    ⟨(some 1), (.alloc (.agg (List.replicate 4 (.int .i64 0)).toArray)), none, []⟩,
    ⟨none, (.store 4 (.tmp 1) (.tmp 24)), none, []⟩]))
  (.seq (.keep [1, 2] (.ops [⟨(some 25), (.build [(.int .i64 0), (.int .i64 0)] [(0, 1, (.const (.int .i64 4))), (1, 1, (.const (.int .i64 1)))]), none, []⟩,
    ⟨(some 2), (.alloc (.agg #[(.int .i64 0), (.int .i64 0)])), none, []⟩,
    ⟨none, (.store 2 (.tmp 2) (.tmp 25)), none, []⟩]))
  (.seq (.keep [1, 2, 3, 4] (.ops [⟨(some 27), (.load (some 4) (.tmp 1)), none, []⟩,
    ⟨(some 28), (.load (some 2) (.tmp 2)), none, []⟩,
    ⟨(some 29), (.call (.func 9) [(.tmp 27), (.tmp 28), (.const (.int .i64 3))]), none, []⟩,
    ⟨(some 26), (.move (.tmp 29)), none, []⟩,
    ⟨(some 30), (.extract (.tmp 26) 0), none, []⟩,
    ⟨(some 31), (.extract (.tmp 26) 1), none, []⟩,
    ⟨(some 3), (.move (.tmp 30)), none, []⟩,
    ⟨(some 4), (.move (.tmp 31)), none, []⟩]))
  (.seq (.keep [1, 2, 3, 4, 5, 6] (.ops [⟨(some 33), (.load (some 4) (.tmp 1)), none, []⟩,
    ⟨(some 34), (.load (some 2) (.tmp 2)), none, []⟩,
    ⟨(some 35), (.build [(.int .i64 0), (.int .i64 0)] [(0, 1, (.const (.int .i64 1))), (1, 1, (.const (.int .i64 1)))]), none, []⟩,
    ⟨(some 36), (.call (.func 10) [(.tmp 33), (.tmp 34), (.tmp 35)]), none, []⟩,
    ⟨(some 32), (.move (.tmp 36)), none, []⟩,
    ⟨(some 37), (.extract (.tmp 32) 0), none, []⟩,
    ⟨(some 38), (.extract (.tmp 32) 1), none, []⟩,
    ⟨(some 5), (.alloc (.agg #[(.int .i64 0), (.int .i64 0), (.int .i64 0)])), none, []⟩,
    ⟨none, (.store 3 (.tmp 5) (.tmp 37)), none, []⟩,
    ⟨(some 6), (.move (.tmp 38)), none, []⟩]))
  (.seq (.keep [1, 2, 3, 4, 5, 6, 7, 8] (.ops [⟨(some 40), (.load (some 4) (.tmp 1)), none, []⟩,
    ⟨(some 41), (.load (some 2) (.tmp 2)), none, []⟩,
    ⟨(some 42), (.build [(.int .i64 0), (.int .i64 0)] [(0, 1, (.const (.int .i64 1))), (1, 1, (.const (.int .i64 2)))]), none, []⟩,
    ⟨(some 43), (.call (.func 10) [(.tmp 40), (.tmp 41), (.tmp 42)]), none, []⟩,
    ⟨(some 39), (.move (.tmp 43)), none, []⟩,
    ⟨(some 44), (.extract (.tmp 39) 0), none, []⟩,
    ⟨(some 45), (.extract (.tmp 39) 1), none, []⟩,
    ⟨(some 7), (.alloc (.agg #[(.int .i64 0), (.int .i64 0), (.int .i64 0)])), none, []⟩,
    ⟨none, (.store 3 (.tmp 7) (.tmp 44)), none, []⟩,
    ⟨(some 8), (.move (.tmp 45)), none, []⟩]))
  (.seq (.keep [1, 2, 3, 4, 5, 6, 7, 8, 9, 10] (.ops [⟨(some 47), (.load (some 4) (.tmp 1)), none, []⟩,
    ⟨(some 48), (.load (some 2) (.tmp 2)), none, []⟩,
    ⟨(some 49), (.build [(.int .i64 0), (.int .i64 0)] [(0, 1, (.const (.int .i64 1))), (1, 1, (.const (.int .i64 3)))]), none, []⟩,
    ⟨(some 50), (.call (.func 10) [(.tmp 47), (.tmp 48), (.tmp 49)]), none, []⟩,
    ⟨(some 46), (.move (.tmp 50)), none, []⟩,
    ⟨(some 51), (.extract (.tmp 46) 0), none, []⟩,
    ⟨(some 52), (.extract (.tmp 46) 1), none, []⟩,
    ⟨(some 9), (.alloc (.agg #[(.int .i64 0), (.int .i64 0), (.int .i64 0)])), none, []⟩,
    ⟨none, (.store 3 (.tmp 9) (.tmp 51)), none, []⟩,
    ⟨(some 10), (.move (.tmp 52)), none, []⟩]))
  (.seq (.keep [1, 2, 3, 4, 5, 6, 7, 8, 9, 10, 11, 12] (.ops [⟨(some 54), (.load (some 4) (.tmp 1)), none, []⟩,
    ⟨(some 55), (.load (some 2) (.tmp 2)), none, []⟩,
    ⟨(some 56), (.build [(.int .i64 0), (.int .i64 0)] [(0, 1, (.const (.int .i64 2)))]), none, []⟩,
    ⟨(some 57), (.call (.func 10) [(.tmp 54), (.tmp 55), (.tmp 56)]), none, []⟩,
    ⟨(some 53), (.move (.tmp 57)), none, []⟩,
    ⟨(some 58), (.extract (.tmp 53) 0), none, []⟩,
    ⟨(some 59), (.extract (.tmp 53) 1), none, []⟩,
    ⟨(some 11), (.alloc (.agg #[(.int .i64 0), (.int .i64 0), (.int .i64 0)])), none, []⟩,
    ⟨none, (.store 3 (.tmp 11) (.tmp 58)), none, []⟩,
    ⟨(some 12), (.move (.tmp 59)), none, []⟩]))
  (.seq (.keep [1, 2, 3, 4, 5, 6, 7, 8, 9, 10, 11, 12, 13, 14] (.ops [⟨(some 61), (.load (some 4) (.tmp 1)), none, []⟩,
    ⟨(some 62), (.load (some 2) (.tmp 2)), none, []⟩,
    ⟨(some 63), (.build [(.int .i64 0), (.int .i64 0)] [(0, 1, (.const (.int .i64 3)))]), none, []⟩,
    ⟨(some 64), (.call (.func 10) [(.tmp 61), (.tmp 62), (.tmp 63)]), none, []⟩,
    ⟨(some 60), (.move (.tmp 64)), none, []⟩,
    ⟨(some 65), (.extract (.tmp 60) 0), none, []⟩,
    ⟨(some 66), (.extract (.tmp 60) 1), none, []⟩,
    ⟨(some 13), (.alloc (.agg #[(.int .i64 0), (.int .i64 0), (.int .i64 0)])), none, []⟩,
    ⟨none, (.store 3 (.tmp 13) (.tmp 65)), none, []⟩,
    ⟨(some 14), (.move (.tmp 66)), none, []⟩]))
  (.seq (.keep [1, 2, 5, 7, 9, 11, 13] (.seq (.keep [1, 2, 5, 7, 9, 11, 13, 94] (.ops [⟨(some 67), (.move (.tmp 4)), none, []⟩,
    ⟨(some 68), (.bin .neq (.tmp 67) (.const (.int .i64 0))), none, []⟩,
    ⟨(some 69), (.move (.tmp 68)), none, []⟩,
    ⟨(some 70), (.move (.tmp 6)), (some (69, false)), []⟩,
    ⟨(some 71), (.bin .neq (.tmp 70) (.const (.int .i64 0))), (some (69, false)), []⟩,
    ⟨(some 72), (.pick (.tmp 69) (.const (.bool true)) (.tmp 71)), none, []⟩,
    ⟨(some 73), (.move (.tmp 72)), none, []⟩,
    ⟨(some 74), (.move (.tmp 8)), (some (73, false)), []⟩,
    ⟨(some 75), (.bin .neq (.tmp 74) (.const (.int .i64 0))), (some (73, false)), []⟩,
    ⟨(some 76), (.pick (.tmp 73) (.const (.bool true)) (.tmp 75)), none, []⟩,
    ⟨(some 77), (.move (.tmp 76)), none, []⟩,
    ⟨(some 78), (.move (.tmp 10)), (some (77, false)), []⟩,
    ⟨(some 79), (.bin .neq (.tmp 78) (.const (.int .i64 0))), (some (77, false)), []⟩,
    ⟨(some 80), (.pick (.tmp 77) (.const (.bool true)) (.tmp 79)), none, []⟩,
    ⟨(some 81), (.move (.tmp 80)), none, []⟩,
    ⟨(some 82), (.move (.tmp 12)), (some (81, false)), []⟩,
    ⟨(some 83), (.bin .neq (.tmp 82) (.const (.int .i64 0))), (some (81, false)), []⟩,
    ⟨(some 84), (.pick (.tmp 81) (.const (.bool true)) (.tmp 83)), none, []⟩,
    ⟨(some 85), (.move (.tmp 84)), none, []⟩,
    ⟨(some 86), (.move (.tmp 14)), (some (85, false)), []⟩,
    ⟨(some 87), (.bin .neq (.tmp 86) (.const (.int .i64 0))), (some (85, false)), []⟩,
    ⟨(some 88), (.pick (.tmp 85) (.const (.bool true)) (.tmp 87)), none, []⟩,
    ⟨(some 89), (.move (.tmp 88)), none, []⟩,
    ⟨(some 90), (.move (.tmp 3)), (some (89, false)), []⟩,
    ⟨(some 91), (.buildSlice 4 (List.replicate 4 (.int .i64 0)) [(0, 1, (.const (.int .i64 40))), (1, 1, (.const (.int .i64 10))), (2, 1, (.const (.int .i64 4))), (3, 1, (.const (.int .i64 2)))]), (some (89, false)), []⟩,
    ⟨(some 92), (.call (.func 16) [(.tmp 90), (.tmp 91)]), (some (89, false)), []⟩,
    ⟨(some 93), (.un .not (.tmp 92)), (some (89, false)), []⟩,
    ⟨(some 94), (.pick (.tmp 89) (.const (.bool true)) (.tmp 93)), none, []⟩]))
  (.cond (.tmp 94)
    (.seq (.keep [0] (.ops [⟨(some 0), (.move (.const (.bool false))), none, []⟩]))
    .ret)
    .skip)))
  (.seq (.keep [1, 2, 5, 7, 11, 13] (.seq (.keep [1, 2, 5, 7, 11, 13, 152] (.ops [⟨(some 95), (.fieldAddr 0 (.tmp 5)), none, []⟩,
    ⟨(some 96), (.load none (.tmp 95)), none, []⟩,
    ⟨(some 97), (.bin .neq (.tmp 96) (.const (.int .i64 6))), none, []⟩,
    ⟨(some 98), (.move (.tmp 97)), none, []⟩,
    ⟨(some 99), (.fieldAddr 0 (.tmp 7)), (some (98, false)), []⟩,
    ⟨(some 100), (.load none (.tmp 99)), (some (98, false)), []⟩,
    ⟨(some 101), (.bin .neq (.tmp 100) (.const (.int .i64 4))), (some (98, false)), []⟩,
    ⟨(some 102), (.pick (.tmp 98) (.const (.bool true)) (.tmp 101)), none, []⟩,
    ⟨(some 103), (.move (.tmp 102)), none, []⟩,
    ⟨(some 104), (.fieldAddr 0 (.tmp 9)), (some (103, false)), []⟩,
    ⟨(some 105), (.load none (.tmp 104)), (some (103, false)), []⟩,
    ⟨(some 106), (.bin .neq (.tmp 105) (.const (.int .i64 4))), (some (103, false)), []⟩,
    ⟨(some 107), (.pick (.tmp 103) (.const (.bool true)) (.tmp 106)), none, []⟩,
    ⟨(some 108), (.move (.tmp 107)), none, []⟩,
    ⟨(some 109), (.fieldAddr 1 (.tmp 5)), (some (108, false)), []⟩,
    ⟨(some 110), (.load none (.tmp 109)), (some (108, false)), []⟩,
    ⟨(some 111), (.bin .neq (.tmp 110) (.const (.int .i64 50))), (some (108, false)), []⟩,
    ⟨(some 112), (.pick (.tmp 108) (.const (.bool true)) (.tmp 111)), none, []⟩,
    ⟨(some 113), (.move (.tmp 112)), none, []⟩,
    ⟨(some 114), (.fieldAddr 1 (.tmp 7)), (some (113, false)), []⟩,
    ⟨(some 115), (.load none (.tmp 114)), (some (113, false)), []⟩,
    ⟨(some 116), (.bin .neq (.tmp 115) (.const (.int .i64 54))), (some (113, false)), []⟩,
    ⟨(some 117), (.pick (.tmp 113) (.const (.bool true)) (.tmp 116)), none, []⟩,
    ⟨(some 118), (.move (.tmp 117)), none, []⟩,
    ⟨(some 119), (.fieldAddr 1 (.tmp 9)), (some (118, false)), []⟩,
    ⟨(some 120), (.load none (.tmp 119)), (some (118, false)), []⟩,
    ⟨(some 121), (.bin .neq (.tmp 120) (.const (.int .i64 56))), (some (118, false)), []⟩,
    ⟨(some 122), (.pick (.tmp 118) (.const (.bool true)) (.tmp 121)), none, []⟩,
    ⟨(some 123), (.move (.tmp 122)), none, []⟩,
    ⟨(some 124), (.fieldAddr 0 (.tmp 11)), (some (123, false)), []⟩,
    ⟨(some 125), (.load none (.tmp 124)), (some (123, false)), []⟩,
    ⟨(some 126), (.bin .neq (.tmp 125) (.const (.int .i64 3))), (some (123, false)), []⟩,
    ⟨(some 127), (.pick (.tmp 123) (.const (.bool true)) (.tmp 126)), none, []⟩,
    ⟨(some 128), (.move (.tmp 127)), none, []⟩,
    ⟨(some 129), (.fieldAddr 1 (.tmp 11)), (some (128, false)), []⟩,
    ⟨(some 130), (.load none (.tmp 129)), (some (128, false)), []⟩,
    ⟨(some 131), (.bin .neq (.tmp 130) (.const (.int .i64 40))), (some (128, false)), []⟩,
    ⟨(some 132), (.pick (.tmp 128) (.const (.bool true)) (.tmp 131)), none, []⟩,
    ⟨(some 133), (.move (.tmp 132)), none, []⟩,
    ⟨(some 134), (.fieldAddr 2 (.tmp 11)), (some (133, false)), []⟩,
    ⟨(some 135), (.load none (.tmp 134)), (some (133, false)), []⟩,
    ⟨(some 136), (.bin .neq (.tmp 135) (.const (.int .i64 30))), (some (133, false)), []⟩,
    ⟨(some 137), (.pick (.tmp 133) (.const (.bool true)) (.tmp 136)), none, []⟩,
    ⟨(some 138), (.move (.tmp 137)), none, []⟩,
    ⟨(some 139), (.fieldAddr 0 (.tmp 13)), (some (138, false)), []⟩,
    ⟨(some 140), (.load none (.tmp 139)), (some (138, false)), []⟩,
    ⟨(some 141), (.bin .neq (.tmp 140) (.const (.int .i64 3))), (some (138, false)), []⟩,
    ⟨(some 142), (.pick (.tmp 138) (.const (.bool true)) (.tmp 141)), none, []⟩,
    ⟨(some 143), (.move (.tmp 142)), none, []⟩,
    ⟨(some 144), (.fieldAddr 1 (.tmp 13)), (some (143, false)), []⟩,
    ⟨(some 145), (.load none (.tmp 144)), (some (143, false)), []⟩,
    ⟨(some 146), (.bin .neq (.tmp 145) (.const (.int .i64 50))), (some (143, false)), []⟩,
    ⟨(some 147), (.pick (.tmp 143) (.const (.bool true)) (.tmp 146)), none, []⟩,
    ⟨(some 148), (.move (.tmp 147)), none, []⟩,
    ⟨(some 149), (.fieldAddr 2 (.tmp 13)), (some (148, false)), []⟩,
    ⟨(some 150), (.load none (.tmp 149)), (some (148, false)), []⟩,
    ⟨(some 151), (.bin .neq (.tmp 150) (.const (.int .i64 30))), (some (148, false)), []⟩,
    ⟨(some 152), (.pick (.tmp 148) (.const (.bool true)) (.tmp 151)), none, []⟩]))
  (.cond (.tmp 152)
    (.seq (.keep [0] (.ops [⟨(some 0), (.move (.const (.bool false))), none, []⟩]))
    .ret)
    .skip)))
  (.seq (.keep [1, 2, 5, 7, 11, 13, 15, 16, 17] (.ops [⟨(some 154), (.load (some 4) (.tmp 1)), none, []⟩,
    ⟨(some 155), (.load (some 2) (.tmp 2)), none, []⟩,
    ⟨(some 156), (.build [(.int .i64 0), (.int .i64 0), (.int .i64 0)] [(0, 1, (.const (.int .i64 5))), (1, 1, (.const (.int .i64 60)))]), none, []⟩,
    ⟨(some 157), (.call (.func 19) [(.tmp 154), (.tmp 155), (.tmp 156)]), none, []⟩,
    ⟨(some 153), (.move (.tmp 157)), none, []⟩,
    ⟨(some 158), (.extract (.tmp 153) 0), none, []⟩,
    ⟨(some 159), (.extract (.tmp 153) 1), none, []⟩,
    ⟨(some 160), (.extract (.tmp 153) 2), none, []⟩,
    ⟨(some 15), (.alloc (.agg #[(.int .i64 0), (.int .i64 0)])), none, []⟩,
    ⟨(some 16), (.alloc (.agg #[(.int .i64 0), (.int .i64 0), (.int .i64 0)])), none, []⟩,
    ⟨none, (.store 2 (.tmp 15) (.tmp 158)), none, []⟩,
    ⟨none, (.store 3 (.tmp 16) (.tmp 159)), none, []⟩,
    ⟨(some 17), (.move (.tmp 160)), none, []⟩]))
  (.seq (.keep [1, 2, 5, 7, 11, 13, 15, 16, 17, 18, 20] (.ops [⟨(some 162), (.load (some 4) (.tmp 1)), none, []⟩,
    ⟨(some 163), (.load (some 2) (.tmp 2)), none, []⟩,
    ⟨(some 164), (.build [(.int .i64 0), (.int .i64 0), (.int .i64 0)] [(0, 1, (.const (.int .i64 3))), (1, 1, (.const (.int .i64 100))), (2, 1, (.const (.int .i64 100)))]), none, []⟩,
    ⟨(some 165), (.call (.func 19) [(.tmp 162), (.tmp 163), (.tmp 164)]), none, []⟩,
    ⟨(some 161), (.move (.tmp 165)), none, []⟩,
    ⟨(some 166), (.extract (.tmp 161) 0), none, []⟩,
    ⟨(some 167), (.extract (.tmp 161) 1), none, []⟩,
    ⟨(some 168), (.extract (.tmp 161) 2), none, []⟩,
    ⟨(some 18), (.alloc (.agg #[(.int .i64 0), (.int .i64 0)])), none, []⟩,
    ⟨(some 19), (.alloc (.agg #[(.int .i64 0), (.int .i64 0), (.int .i64 0)])), none, []⟩,
    ⟨none, (.store 2 (.tmp 18) (.tmp 166)), none, []⟩,
    ⟨none, (.store 3 (.tmp 19) (.tmp 167)), none, []⟩,
    ⟨(some 20), (.move (.tmp 168)), none, []⟩]))
  (.seq (.keep [1, 2, 5, 7, 11, 13, 15, 16, 17, 18, 20, 23] (.ops [⟨(some 170), (.load (some 4) (.tmp 1)), none, []⟩,
    ⟨(some 171), (.load (some 2) (.tmp 2)), none, []⟩,
    ⟨(some 172), (.build [(.int .i64 0), (.int .i64 0), (.int .i64 0)] [(0, 1, (.const (.int .i64 3))), (1, 1, (.const (.int .i64 100))), (2, 1, (.const (.int .i64 29)))]), none, []⟩,
    ⟨(some 173), (.call (.func 19) [(.tmp 170), (.tmp 171), (.tmp 172)]), none, []⟩,
    ⟨(some 169), (.move (.tmp 173)), none, []⟩,
    ⟨(some 174), (.extract (.tmp 169) 0), none, []⟩,
    ⟨(some 175), (.extract (.tmp 169) 1), none, []⟩,
    ⟨(some 176), (.extract (.tmp 169) 2), none, []⟩,
    ⟨(some 21), (.alloc (.agg #[(.int .i64 0), (.int .i64 0)])), none, []⟩,
    ⟨(some 22), (.alloc (.agg #[(.int .i64 0), (.int .i64 0), (.int .i64 0)])), none, []⟩,
    ⟨none, (.store 2 (.tmp 21) (.tmp 174)), none, []⟩,
    ⟨none, (.store 3 (.tmp 22) (.tmp 175)), none, []⟩,
    ⟨(some 23), (.move (.tmp 176)), none, []⟩]))
  (.seq (.keep [0] (.ops [⟨(some 177), (.move (.tmp 17)), none, []⟩,
    ⟨(some 178), (.bin .eql (.tmp 177) (.const (.int .i64 0))), none, []⟩,
    ⟨(some 179), (.move (.tmp 178)), none, []⟩,
    ⟨(some 180), (.fieldAddr 0 (.tmp 15)), (some (179, true)), []⟩,
    ⟨(some 181), (.load none (.tmp 180)), (some (179, true)), []⟩,
    ⟨(some 182), (.bin .eql (.tmp 181) (.const (.int .i64 1))), (some (179, true)), []⟩,
    ⟨(some 183), (.pick (.tmp 179) (.tmp 182) (.const (.bool false))), none, []⟩,
    ⟨(some 184), (.move (.tmp 183)), none, []⟩,
    ⟨(some 185), (.fieldAddr 1 (.tmp 15)), (some (184, true)), []⟩,
    ⟨(some 186), (.load none (.tmp 185)), (some (184, true)), []⟩,
    ⟨(some 187), (.bin .eql (.tmp 186) (.const (.int .i64 2))), (some (184, true)), []⟩,
    ⟨(some 188), (.pick (.tmp 184) (.tmp 187) (.const (.bool false))), none, []⟩,
    ⟨(some 189), (.move (.tmp 188)), none, []⟩,
    ⟨(some 190), (.load (some 3) (.tmp 16)), (some (189, true)), []⟩,
    ⟨(some 191), (.load (some 3) (.tmp 7)), (some (189, true)), []⟩,
    ⟨(some 192), (.eqAgg false [(.int .i64), (.int .i64), (.int .i64)] (.tmp 190) (.tmp 191)), (some (189, true)), []⟩,
    ⟨(some 193), (.pick (.tmp 189) (.tmp 192) (.const (.bool false))), none, []⟩,
    ⟨(some 194), (.move (.tmp 193)), none, []⟩,
    ⟨(some 195), (.move (.tmp 20)), (some (194, true)), []⟩,
    ⟨(some 196), (.bin .eql (.tmp 195) (.const (.int .i64 0))), (some (194, true)), []⟩,
    ⟨(some 197), (.pick (.tmp 194) (.tmp 196) (.const (.bool false))), none, []⟩,
    ⟨(some 198), (.move (.tmp 197)), none, []⟩,
    ⟨(some 199), (.fieldAddr 0 (.tmp 18)), (some (198, true)), []⟩,
    ⟨(some 200), (.load none (.tmp 199)), (some (198, true)), []⟩,
    ⟨(some 201), (.bin .eql (.tmp 200) (.const (.int .i64 2))), (some (198, true)), []⟩,
    ⟨(some 202), (.pick (.tmp 198) (.tmp 201) (.const (.bool false))), none, []⟩,
    ⟨(some 203), (.move (.tmp 202)), none, []⟩,
    ⟨(some 204), (.move (.tmp 23)), (some (203, true)), []⟩,
    ⟨(some 205), (.bin .eql (.tmp 204) (.const (.int .i64 4))), (some (203, true)), []⟩,
    ⟨(some 206), (.pick (.tmp 203) (.tmp 205) (.const (.bool false))), none, []⟩,
    ⟨(some 207), (.move (.tmp 206)), none, []⟩,
    ⟨(some 208), (.load (some 3) (.tmp 7)), (some (207, true)), []⟩,
    ⟨(some 209), (.load (some 3) (.tmp 5)), (some (207, true)), []⟩,
    ⟨(some 210), (.call (.func 17) [(.tmp 208), (.tmp 209)]), (some (207, true)), []⟩,
    ⟨(some 211), (.un .not (.tmp 210)), (some (207, true)), []⟩,
    ⟨(some 212), (.pick (.tmp 207) (.tmp 211) (.const (.bool false))), none, []⟩,
    ⟨(some 213), (.move (.tmp 212)), none, []⟩,
    ⟨(some 214), (.load (some 3) (.tmp 11)), (some (213, true)), []⟩,
    ⟨(some 215), (.load (some 3) (.tmp 13)), (some (213, true)), []⟩,
    ⟨(some 216), (.call (.func 17) [(.tmp 214), (.tmp 215)]), (some (213, true)), []⟩,
    ⟨(some 217), (.pick (.tmp 213) (.tmp 216) (.const (.bool false))), none, []⟩,
    ⟨(some 218), (.move (.tmp 217)), none, []⟩,
    ⟨(some 219), (.load (some 4) (.tmp 1)), (some (218, true)), []⟩,
    ⟨(some 220), (.load (some 2) (.tmp 2)), (some (218, true)), []⟩,
    ⟨(some 221), (.call (.func 14) [(.tmp 219), (.tmp 220)]), (some (218, true)), []⟩,
    ⟨(some 222), (.bin .eql (.tmp 221) (.const (.int .i64 0))), (some (218, true)), []⟩,
    ⟨(some 223), (.pick (.tmp 218) (.tmp 222) (.const (.bool false))), none, []⟩,
    ⟨(some 0), (.move (.tmp 223)), none, []⟩]))
  .ret)))))))))))))))
theorem t13 : trF Try.prog Try.f13 s13 = some s13 := by kernel_rfl
theorem k13 : okS s13 = true := by kernel_rfl
theorem r13 : resT Try.prog Try.f13.results.toList = some [.t 0] := by kernel_rfl

def s14 : S :=
  (.seq (.keep [2, 3] (.ops [⟨(some 2), (.box (.tmp 0)), none, []⟩,
    ⟨(some 3), (.box (.tmp 1)), none, []⟩,
    ⟨(some 4), (.move (.const (.int .i64 0))), none, []⟩]))
  (.seq (.keep [3, 5] (.ops [⟨(some 6), (.fieldAddr 0 (.tmp 2)), none, []⟩,
    ⟨(some 7), (.load none (.tmp 6)), none, []⟩,
    ⟨(some 8), (.call (.func 22) [(.tmp 7), (.const (.int .i64 1)), (.const (.int .i64 64))]), none, []⟩,
    ⟨(some 9), (.move (.tmp 8)), none, []⟩,
    ⟨(some 10), (.fieldAddr 1 (.tmp 2)), (some (9, true)), []⟩,
    ⟨(some 11), (.load none (.tmp 10)), (some (9, true)), []⟩,
    ⟨(some 12), (.fieldAddr 0 (.tmp 2)), (some (9, true)), []⟩,
    ⟨(some 13), (.load none (.tmp 12)), (some (9, true)), []⟩,
    ⟨(some 14), (.call (.func 22) [(.tmp 11), (.const (.int .i64 0)), (.tmp 13)]), (some (9, true)), []⟩,
    ⟨(some 15), (.pick (.tmp 9) (.tmp 14) (.const (.bool false))), none, []⟩,
    ⟨(some 16), (.move (.tmp 15)), none, []⟩,
    ⟨(some 17), (.fieldAddr 2 (.tmp 2)), (some (16, true)), []⟩,
    ⟨(some 18), (.load none (.tmp 17)), (some (16, true)), []⟩,
    ⟨(some 19), (.call (.func 22) [(.tmp 18), (.const (.int .i64 0)), (.const (.int .i64 1048576))]), (some (16, true)), []⟩,
    ⟨(some 20), (.pick (.tmp 16) (.tmp 19) (.const (.bool false))), none, []⟩,
    ⟨(some 21), (.move (.tmp 20)), none, []⟩,
    ⟨(some 22), (.fieldAddr 3 (.tmp 2)), (some (21, true)), []⟩,
    ⟨(some 23), (.load none (.tmp 22)), (some (21, true)), []⟩,
    ⟨(some 24), (.call (.func 22) [(.tmp 23), (.const (.int .i64 0)), (.const (.int .i64 1048576))]), (some (21, true)), []⟩,
    ⟨(some 25), (.pick (.tmp 21) (.tmp 24) (.const (.bool false))), none, []⟩,
    ⟨(some 5), (.move (.tmp 25)), none, []⟩]))
  (.seq (.keep [] (.seq (.keep [39] (.ops [⟨(some 26), (.move (.tmp 5)), none, []⟩,
    ⟨(some 27), (.un .not (.tmp 26)), none, []⟩,
    ⟨(some 28), (.move (.tmp 27)), none, []⟩,
    ⟨(some 29), (.fieldAddr 0 (.tmp 3)), (some (28, false)), []⟩,
    ⟨(some 30), (.load none (.tmp 29)), (some (28, false)), []⟩,
    ⟨(some 31), (.call (.func 22) [(.tmp 30), (.const (.int .i64 1)), (.const (.int .i64 1048576))]), (some (28, false)), []⟩,
    ⟨(some 32), (.un .not (.tmp 31)), (some (28, false)), []⟩,
    ⟨(some 33), (.pick (.tmp 28) (.const (.bool true)) (.tmp 32)), none, []⟩,
    ⟨(some 34), (.move (.tmp 33)), none, []⟩,
    ⟨(some 35), (.fieldAddr 1 (.tmp 3)), (some (34, false)), []⟩,
    ⟨(some 36), (.load none (.tmp 35)), (some (34, false)), []⟩,
    ⟨(some 37), (.call (.func 22) [(.tmp 36), (.const (.int .i64 0)), (.const (.int .i64 1048576))]), (some (34, false)), []⟩,
    ⟨(some 38), (.un .not (.tmp 37)), (some (34, false)), []⟩,
    ⟨(some 39), (.pick (.tmp 34) (.const (.bool true)) (.tmp 38)), none, []⟩]))
  (.cond (.tmp 39)
    (.seq (.keep [4] (.ops [⟨(some 4), (.move (.const (.int .i64 7))), none, []⟩]))
    .ret)
    .skip)))
  (.seq (.keep [4] (.ops [⟨(some 4), (.move (.const (.int .i64 0))), none, []⟩]))
  .ret))))
theorem t14 : trF Try.prog Try.f14 s14 = some s14 := by kernel_rfl
theorem k14 : okS s14 = true := by kernel_rfl
theorem r14 : resT Try.prog Try.f14.results.toList = some [.t 4] := by kernel_rfl

def s15 : S :=
  (.seq (.keep [2, 3] (.ops [⟨(some 2), (.box (.tmp 0)), none, []⟩,
    ⟨(some 3), (.box (.tmp 1)), none, []⟩,
    ⟨(some 4), (.move (.const (.int .i64 0))), none, []⟩]))
  (.seq (.keep [3] (.seq (.keep [3, 28] (.ops [⟨(some 5), (.fieldAddr 0 (.tmp 2)), none, []⟩,
    ⟨(some 6), (.load none (.tmp 5)), none, []⟩,
    ⟨(some 7), (.call (.func 26) [(.tmp 6), (.const (.int .i64 1)), (.const (.int .i64 64))]), none, []⟩,
    ⟨(some 8), (.un .not (.tmp 7)), none, []⟩,
    ⟨(some 9), (.move (.tmp 8)), none, []⟩,
    ⟨(some 10), (.fieldAddr 1 (.tmp 2)), (some (9, false)), []⟩,
    ⟨(some 11), (.load none (.tmp 10)), (some (9, false)), []⟩,
    ⟨(some 12), (.fieldAddr 0 (.tmp 2)), (some (9, false)), []⟩,
    ⟨(some 13), (.load none (.tmp 12)), (some (9, false)), []⟩,
    ⟨(some 14), (.call (.func 26) [(.tmp 11), (.const (.int .i64 0)), (.tmp 13)]), (some (9, false)), []⟩,
    ⟨(some 15), (.un .not (.tmp 14)), (some (9, false)), []⟩,
    ⟨(some 16), (.pick (.tmp 9) (.const (.bool true)) (.tmp 15)), none, []⟩,
    ⟨(some 17), (.move (.tmp 16)), none, []⟩,
    ⟨(some 18), (.fieldAddr 2 (.tmp 2)), (some (17, false)), []⟩,
    ⟨(some 19), (.load none (.tmp 18)), (some (17, false)), []⟩,
    ⟨(some 20), (.call (.func 26) [(.tmp 19), (.const (.int .i64 0)), (.const (.int .i64 1048576))]), (some (17, false)), []⟩,
    ⟨(some 21), (.un .not (.tmp 20)), (some (17, false)), []⟩,
    ⟨(some 22), (.pick (.tmp 17) (.const (.bool true)) (.tmp 21)), none, []⟩,
    ⟨(some 23), (.move (.tmp 22)), none, []⟩,
    ⟨(some 24), (.fieldAddr 3 (.tmp 2)), (some (23, false)), []⟩,
    ⟨(some 25), (.load none (.tmp 24)), (some (23, false)), []⟩,
    ⟨(some 26), (.call (.func 26) [(.tmp 25), (.const (.int .i64 0)), (.const (.int .i64 1048576))]), (some (23, false)), []⟩,
    ⟨(some 27), (.un .not (.tmp 26)), (some (23, false)), []⟩,
    ⟨(some 28), (.pick (.tmp 23) (.const (.bool true)) (.tmp 27)), none, []⟩]))
  (.cond (.tmp 28)
    (.seq (.keep [4] (.ops [⟨(some 4), (.move (.const (.int .i64 7))), none, []⟩]))
    .ret)
    .skip)))
  (.seq (.keep [] (.seq (.keep [38] (.ops [⟨(some 29), (.fieldAddr 0 (.tmp 3)), none, []⟩,
    ⟨(some 30), (.load none (.tmp 29)), none, []⟩,
    ⟨(some 31), (.call (.func 26) [(.tmp 30), (.const (.int .i64 1)), (.const (.int .i64 1048576))]), none, []⟩,
    ⟨(some 32), (.un .not (.tmp 31)), none, []⟩,
    ⟨(some 33), (.move (.tmp 32)), none, []⟩,
    ⟨(some 34), (.fieldAddr 1 (.tmp 3)), (some (33, false)), []⟩,
    ⟨(some 35), (.load none (.tmp 34)), (some (33, false)), []⟩,
    ⟨(some 36), (.call (.func 26) [(.tmp 35), (.const (.int .i64 0)), (.const (.int .i64 1048576))]), (some (33, false)), []⟩,
    ⟨(some 37), (.un .not (.tmp 36)), (some (33, false)), []⟩,
    ⟨(some 38), (.pick (.tmp 33) (.const (.bool true)) (.tmp 37)), none, []⟩]))
  (.cond (.tmp 38)
    (.seq (.keep [4] (.ops [⟨(some 4), (.move (.const (.int .i64 7))), none, []⟩]))
    .ret)
    .skip)))
  (.seq (.keep [4] (.ops [⟨(some 4), (.move (.const (.int .i64 0))), none, []⟩]))
  .ret))))
theorem t15 : trF Try.prog Try.f15 s15 = some s15 := by kernel_rfl
theorem k15 : okS s15 = true := by kernel_rfl
theorem r15 : resT Try.prog Try.f15.results.toList = some [.t 4] := by kernel_rfl

def s16 : S :=
  (.seq (.keep [0, 1] (.ops [⟨(some 4), (.move (.const (.bool false))), none, []⟩]))
  (.seq (.keep [0, 1] (.seq (.keep [0, 1, 10] (.ops [⟨(some 6), (.move (.tmp 0)), none, []⟩,
    ⟨(some 7), (.len (.tmp 6)), none, []⟩,
    ⟨(some 8), (.move (.tmp 1)), none, []⟩,
    ⟨(some 9), (.len (.tmp 8)), none, []⟩,
    ⟨(some 10), (.bin .neq (.tmp 7) (.tmp 9)), none, []⟩]))
  (.cond (.tmp 10)
    (.seq (.keep [4] (.ops [⟨(some 4), (.move (.const (.bool false))), none, []⟩]))
    .ret)
    .skip)))
  (.seq (.keep [] (.seq (.keep [0, 1, 5] (.ops [⟨(some 5), (.move (.const (.int .i64 0))), none, []⟩]))
  (.block 0
    (.loop
      (.keep [0, 1, 5] (.seq (.keep [0, 1, 5] (.seq (.keep [0, 1, 5, 14] (.ops [⟨(some 11), (.move (.tmp 5)), none, []⟩,
        ⟨(some 12), (.move (.tmp 0)), none, []⟩,
        ⟨(some 13), (.len (.tmp 12)), none, []⟩,
        ⟨(some 14), (.bin .lss (.tmp 11) (.tmp 13)), none, []⟩]))
      (.cond (.tmp 14)
        .skip
        (.exit 0))))
      (.seq (.keep [0, 1, 5] (.block 1
        (.seq (.keep [0, 1, 5, 25] (.draw [0, 0, 3, 7, 0, 0, 48, 112, 255] [⟨0, 0, [], ⟨(some 17), (.move (.tmp 0)), none, []⟩⟩,
          ⟨1, 0, [], ⟨(some 18), (.move (.tmp 5)), none, []⟩⟩,
          ⟨2, 3, [], ⟨(some 19), (.indexAddr 1 (.tmp 17) (.tmp 18)), none, []⟩⟩,
          ⟨3, 7, [], ⟨(some 20), (.load none (.tmp 19)), none, []⟩⟩,
          ⟨4, 0, [], ⟨(some 21), (.move (.tmp 1)), none, []⟩⟩,
          ⟨5, 0, [], ⟨(some 22), (.move (.tmp 5)), none, []⟩⟩,
          ⟨6, 48, [], ⟨(some 23), (.indexAddr 1 (.tmp 21) (.tmp 22)), none, []⟩⟩,
          ⟨7, 112, [], ⟨(some 24), (.load none (.tmp 23)), none, []⟩⟩,
          ⟨8, 255, [], ⟨(some 25), (.bin .neq (.tmp 20) (.tmp 24)), none, []⟩⟩]))
        (.cond (.tmp 25)
          (.seq (.keep [4] (.ops [⟨(some 4), (.move (.const (.bool false))), none, []⟩]))
          .ret)
          .skip))))
      (.ops [⟨(some 15), (.move (.tmp 5)), none, []⟩,
        ⟨(some 16), (.bin .add (.tmp 15) (.const (.int .i64 1))), none, []⟩,
        ⟨(some 5), (.move (.tmp 16)), none, []⟩]))))))))
  (.seq (.keep [4] (.ops [⟨(some 4), (.move (.const (.bool true))), none, []⟩]))
  .ret))))
theorem t16 : trF Try.prog Try.f16 s16 = some s16 := by kernel_rfl
theorem k16 : okS s16 = true := by kernel_rfl
theorem r16 : resT Try.prog Try.f16.results.toList = some [.t 4] := by kernel_rfl

def s17 : S :=
  (.seq (.keep [2, 3] (.ops [⟨(some 2), (.box (.tmp 0)), none, []⟩,
    ⟨(some 3), (.box (.tmp 1)), none, []⟩,
    ⟨(some 4), (.move (.const (.bool false))), none, []⟩]))
  (.seq (.keep [4] (.ops [⟨(some 5), (.fieldAddr 0 (.tmp 2)), none, []⟩,
    ⟨(some 6), (.load none (.tmp 5)), none, []⟩,
    ⟨(some 7), (.fieldAddr 0 (.tmp 3)), none, []⟩,
    ⟨(some 8), (.load none (.tmp 7)), none, []⟩,
    ⟨(some 9), (.bin .leq (.tmp 6) (.tmp 8)), none, []⟩,
    ⟨(some 10), (.move (.tmp 9)), none, []⟩,
    ⟨(some 11), (.fieldAddr 1 (.tmp 2)), (some (10, true)), []⟩,
    ⟨(some 12), (.load none (.tmp 11)), (some (10, true)), []⟩,
    ⟨(some 13), (.fieldAddr 1 (.tmp 3)), (some (10, true)), []⟩,
    ⟨(some 14), (.load none (.tmp 13)), (some (10, true)), []⟩,
    ⟨(some 15), (.bin .leq (.tmp 12) (.tmp 14)), (some (10, true)), []⟩,
    ⟨(some 16), (.pick (.tmp 10) (.tmp 15) (.const (.bool false))), none, []⟩,
    ⟨(some 17), (.move (.tmp 16)), none, []⟩,
    ⟨(some 18), (.fieldAddr 2 (.tmp 2)), (some (17, true)), []⟩,
    ⟨(some 19), (.load none (.tmp 18)), (some (17, true)), []⟩,
    ⟨(some 20), (.fieldAddr 2 (.tmp 3)), (some (17, true)), []⟩,
    ⟨(some 21), (.load none (.tmp 20)), (some (17, true)), []⟩,
    ⟨(some 22), (.bin .leq (.tmp 19) (.tmp 21)), (some (17, true)), []⟩,
    ⟨(some 23), (.pick (.tmp 17) (.tmp 22) (.const (.bool false))), none, []⟩,
    ⟨(some 4), (.move (.tmp 23)), none, []⟩]))
  .ret))
theorem t17 : trF Try.prog Try.f17 s17 = some s17 := by kernel_rfl
theorem k17 : okS s17 = true := by kernel_rfl
theorem r17 : resT Try.prog Try.f17.results.toList = some [.t 4] := by kernel_rfl

def s18 : S :=
  (.seq (.keep [2, 3] (.ops [⟨(some 2), (.box (.tmp 0)), none, []⟩,
    ⟨(some 3), (.box (.tmp 1)), none, []⟩,
    ⟨(some 4), (.move (.const (.bool false))), none, []⟩]))
  (.seq (.keep [4] (.ops [⟨(some 5), (.fieldAddr 0 (.tmp 2)), none, []⟩,
    ⟨(some 6), (.load none (.tmp 5)), none, []⟩,
    ⟨(some 7), (.fieldAddr 0 (.tmp 3)), none, []⟩,
    ⟨(some 8), (.load none (.tmp 7)), none, []⟩,
    ⟨(some 9), (.bin .leq (.tmp 6) (.tmp 8)), none, []⟩,
    ⟨(some 10), (.move (.tmp 9)), none, []⟩,
    ⟨(some 11), (.fieldAddr 1 (.tmp 2)), (some (10, true)), []⟩,
    ⟨(some 12), (.load none (.tmp 11)), (some (10, true)), []⟩,
    ⟨(some 13), (.fieldAddr 1 (.tmp 3)), (some (10, true)), []⟩,
    ⟨(some 14), (.load none (.tmp 13)), (some (10, true)), []⟩,
    ⟨(some 15), (.bin .leq (.tmp 12) (.tmp 14)), (some (10, true)), []⟩,
    ⟨(some 16), (.pick (.tmp 10) (.tmp 15) (.const (.bool false))), none, []⟩,
    ⟨(some 17), (.move (.tmp 16)), none, []⟩,
    ⟨(some 18), (.fieldAddr 2 (.tmp 2)), (some (17, true)), []⟩,
    ⟨(some 19), (.load none (.tmp 18)), (some (17, true)), []⟩,
    ⟨(some 20), (.fieldAddr 2 (.tmp 3)), (some (17, true)), []⟩,
    ⟨(some 21), (.load none (.tmp 20)), (some (17, true)), []⟩,
    ⟨(some 22), (.bin .leq (.tmp 19) (.tmp 21)), (some (17, true)), []⟩,
    ⟨(some 23), (.pick (.tmp 17) (.tmp 22) (.const (.bool false))), none, []⟩,
    ⟨(some 4), (.move (.tmp 23)), none, []⟩]))
  .ret))
theorem t18 : trF Try.prog Try.f18 s18 = some s18 := by kernel_rfl
theorem k18 : okS s18 = true := by kernel_rfl
theorem r18 : resT Try.prog Try.f18.results.toList = some [.t 4] := by kernel_rfl

def s19 : S :=
  (.seq (.keep [3, 4, 5, 6, 7, 8] (.ops [⟨(some 3), (.box (.tmp 0)), none, []⟩,
    ⟨(some 4), (.box (.tmp 1)), none, []⟩,
    ⟨(some 5), (.box (.tmp 2)), none, []⟩,
    ⟨(some 6), (.alloc (.agg #[(.int .i64 0), (.int .i64 0)])), none, []⟩,
    ⟨(some 7), (.alloc (.agg #[(.int .i64 0), (.int .i64 0), (.int .i64 0)])), none, []⟩,
    ⟨(some 8), (.move (.const (.int .i64 0))), none, []⟩]))
  (.seq (.keep [3, 4, 5, 6, 7, 8] (.seq (.keep [3, 4, 5, 6, 7, 8, 9] (.ops [⟨(some 15), (.load (some 4) (.tmp 3)), none, []⟩,
    ⟨(some 16), (.load (some 2) (.tmp 4)), none, []⟩,
    ⟨(some 17), (.call (.func 14) [(.tmp 15), (.tmp 16)]), none, []⟩,
    ⟨(some 9), (.move (.tmp 17)), none, []⟩]))
  (.seq (.keep [3, 4, 5, 6, 7, 8, 9, 19] (.ops [⟨(some 18), (.move (.tmp 9)), none, []⟩,
    ⟨(some 19), (.bin .neq (.tmp 18) (.const (.int .i64 0))), none, []⟩]))
  (.cond (.tmp 19)
    (.seq (.keep [6, 7, 8] (.ops [⟨(some 20), (.build [(.int .i64 0), (.int .i64 0)] []), none, []⟩,
      ⟨(some 21), (.build [(.int .i64 0), (.int .i64 0), (.int .i64 0)] []), none, []⟩,
      ⟨(some 22), (.move (.tmp 9)), none, []⟩,
      ⟨none, (.store 2 (.tmp 6) (.tmp 20)), none, []⟩,
      ⟨none, (.store 3 (.tmp 7) (.tmp 21)), none, []⟩,
      ⟨(some 8), (.move (.tmp 22)), none, []⟩]))
    .ret)
    .skip))))
  (.seq (.keep [3, 4, 5, 6, 7, 8, 10] (.ops [⟨(some 10), (.alloc (.agg #[(.int .i64 0), (.int .i64 0)])), none, []⟩]))
  (.seq (.keep [3, 4, 5, 6, 7, 8, 10, 11] (.ops [⟨(some 11), (.alloc (.agg #[(.int .i64 0), (.int .i64 0), (.int .i64 0)])), none, []⟩]))
  (.seq (.keep [5, 6, 7, 8, 10, 11, 12] (.ops [⟨(some 23), (.load (some 4) (.tmp 3)), none, []⟩,
    ⟨(some 24), (.load (some 2) (.tmp 4)), none, []⟩,
    ⟨(some 25), (.build (List.replicate 6 (.int .i64 0)) [(0, 4, (.tmp 23)), (4, 2, (.tmp 24))]), none, []⟩,
    ⟨(some 26), (.call (.func 25) [(.tmp 25)]), none, []⟩,
    ⟨(some 12), (.alloc (.map none)), none, []⟩,
    ⟨none, (.store 1 (.tmp 12) (.tmp 26)), none, []⟩]))
  (.seq (.keep [6, 7, 10, 11] (.seq (.keep [5, 6, 7, 8, 10, 11, 12, 27] (.ops [⟨(some 27), (.call (.func 24) []), none, []⟩]))
  (.block 0
    (.range (.tmp 27) #[28]
      (.keep [5, 10, 11, 12, 13] (.ops [⟨(some 13), (.alloc (.agg #[(.int .i64 0), (.int .i64 0)])), none, []⟩,
        ⟨none, (.store 2 (.tmp 13) (.tmp 28)), none, []⟩]))
      (.block 1
        (.seq (.keep [5, 10, 11, 13, 14] (.ops [⟨(some 29), (.load none (.tmp 12)), none, []⟩,
          ⟨(some 30), (.fieldAddr 0 (.tmp 13)), none, []⟩,
          ⟨(some 31), (.load none (.tmp 30)), none, []⟩,
          ⟨(some 32), (.lookup (.int .i64) .nilFunc false (.tmp 29) (.tmp 31)), none, []⟩,
          ⟨(some 33), (.fieldAddr 1 (.tmp 13)), none, []⟩,
          ⟨(some 34), (.load none (.tmp 33)), none, []⟩,
          ⟨(some 35), (.call (.tmp 32) [(.tmp 34)]), none, []⟩,
          ⟨(some 14), (.alloc (.agg #[(.int .i64 0), (.int .i64 0), (.int .i64 0)])), none, []⟩,
          ⟨none, (.store 3 (.tmp 14) (.tmp 35)), none, []⟩]))
        (.seq (.keep [10, 11, 13, 14, 49] (.ops [⟨(some 36), (.load (some 3) (.tmp 14)), none, []⟩,
          ⟨(some 37), (.load (some 3) (.tmp 5)), none, []⟩,
          ⟨(some 38), (.call (.func 17) [(.tmp 36), (.tmp 37)]), none, []⟩,
          ⟨(some 39), (.move (.tmp 38)), none, []⟩,
          ⟨(some 40), (.load (some 2) (.tmp 10)), (some (39, true)), []⟩,
          ⟨(some 41), (.build [(.int .i64 0), (.int .i64 0)] []), (some (39, true)), []⟩,
          ⟨(some 42), (.eqAgg false [(.int .i64), (.int .i64)] (.tmp 40) (.tmp 41)), (some (39, true)), []⟩,
          ⟨(some 43), (.move (.tmp 42)), (some (39, true)), []⟩,
          ⟨(some 44), (.load (some 3) (.tmp 14)), (some (43, false)), []⟩,
          ⟨(some 45), (.load (some 3) (.tmp 11)), (some (43, false)), []⟩,
          ⟨(some 46), (.call (.func 29) [(.tmp 44), (.tmp 45)]), (some (43, false)), []⟩,
          ⟨(some 47), (.bin .lss (.tmp 46) (.const (.int .i64 0))), (some (43, false)), []⟩,
          ⟨(some 48), (.pick (.tmp 43) (.const (.bool true)) (.tmp 47)), (some (39, true)), []⟩,
          ⟨(some 49), (.pick (.tmp 39) (.tmp 48) (.const (.bool false))), none, []⟩]))
        (.cond (.tmp 49)
          (.draw [0, 0, 1, 7] [⟨0, 0, [], ⟨(some 50), (.load (some 2) (.tmp 13)), none, []⟩⟩,
            ⟨1, 0, [], ⟨(some 51), (.load (some 3) (.tmp 14)), none, []⟩⟩,
            ⟨2, 1, [1], ⟨none, (.store 2 (.tmp 10) (.tmp 50)), none, [((.load (some 3) (.tmp 14)), none, (some 51))]⟩⟩,
            ⟨3, 7, [], ⟨none, (.store 3 (.tmp 11) (.tmp 51)), none, []⟩⟩])
          .skip))))))))
  (.seq (.keep [6, 7, 10, 11] (.seq (.keep [6, 7, 10, 11, 54] (.ops [⟨(some 52), (.load (some 2) (.tmp 10)), none, []⟩,
    ⟨(some 53), (.build [(.int .i64 0), (.int .i64 0)] []), none, []⟩,
    ⟨(some 54), (.eqAgg false [(.int .i64), (.int .i64)] (.tmp 52) (.tmp 53)), none, []⟩]))
  (.cond (.tmp 54)
    (.seq (.keep [6, 7, 8] (.ops [⟨(some 55), (.load (some 2) (.tmp 10)), none, []⟩,
      ⟨(some 56), (.build [(.int .i64 0), (.int .i64 0), (.int .i64 0)] []), none, []⟩,
      ⟨none, (.store 2 (.tmp 6) (.tmp 55)), none, []⟩,
      ⟨none, (.store 3 (.tmp 7) (.tmp 56)), none, []⟩,
      ⟨(some 8), (.move (.const (.int .i64 4))), none, []⟩]))
    .ret)
    .skip)))
  (.seq (.keep [6, 7, 8] (.draw [0, 0, 1, 7, 15] [⟨0, 0, [], ⟨(some 57), (.load (some 2) (.tmp 10)), none, []⟩⟩,
    ⟨1, 0, [], ⟨(some 58), (.load (some 3) (.tmp 11)), none, []⟩⟩,
    ⟨2, 1, [1], ⟨none, (.store 2 (.tmp 6) (.tmp 57)), none, [((.load (some 3) (.tmp 11)), none, (some 58))]⟩⟩,
    ⟨3, 7, [], ⟨none, (.store 3 (.tmp 7) (.tmp 58)), none, []⟩⟩,
    ⟨4, 15, [], ⟨(some 8), (.move (.const (.int .i64 0))), none, []⟩⟩]))
  .ret))))))))
theorem t19 : trF Try.prog Try.f19 s19 = some s19 := by kernel_rfl
theorem k19 : okS s19 = true := by kernel_rfl
theorem r19 : resT Try.prog Try.f19.results.toList = some [.c 6 (some 2), .c 7 (some 3), .t 8] := by kernel_rfl

def s20 : S :=
  (.seq (.keep [3, 4, 5, 6] (.ops [⟨(some 3), (.box (.tmp 0)), none, []⟩,
    ⟨(some 4), (.box (.tmp 1)), none, []⟩,
    ⟨(some 5), (.box (.tmp 2)), none, []⟩,
    ⟨(some 6), (.alloc (.agg (List.replicate 6 (.int .i64 0)).toArray)), none, []⟩]))
  (.seq (.keep [3, 4, 5, 6, 7] (.ops [⟨(some 12), (.load (some 4) (.tmp 3)), none, []⟩,
    ⟨(some 13), (.load (some 2) (.tmp 4)), none, []⟩,
    ⟨(some 14), (.call (.func 15) [(.tmp 12), (.tmp 13)]), none, []⟩,
    ⟨(some 7), (.move (.tmp 14)), none, []⟩]))
  (.seq (.keep [3, 4, 5, 6] (.seq (.keep [3, 4, 5, 6, 7, 16] (.ops [⟨(some 15), (.move (.tmp 7)), none, []⟩,
    ⟨(some 16), (.bin .neq (.tmp 15) (.const (.int .i64 0))), none, []⟩]))
  (.cond (.tmp 16)
    (.seq (.keep [6] (.ops [⟨(some 17), (.move (.tmp 7)), none, []⟩,
      ⟨(some 18), (.build (List.replicate 6 (.int .i64 0)) [(5, 1, (.tmp 17))]), none, []⟩,
      ⟨none, (.store 6 (.tmp 6) (.tmp 18)), none, []⟩]))
    .ret)
    .skip)))
  (.seq (.keep [3, 4, 5, 6, 8] (.ops [⟨(some 19), (.build (List.replicate 6 (.int .i64 0)) [(5, 1, (.const (.int .i64 4)))]), none, []⟩,
    ⟨(some 8), (.alloc (.agg (List.replicate 6 (.int .i64 0)).toArray)), none, []⟩,
    ⟨none, (.store 6 (.tmp 8) (.tmp 19)), none, []⟩]))
  (.seq (.keep [3, 4, 5, 6, 8, 9] (.ops [⟨(some 20), (.call (.func 30) []), none, []⟩,
    ⟨(some 9), (.move (.tmp 20)), none, []⟩]))
  (.seq (.keep [6, 8] (.seq (.keep [3, 4, 5, 6, 8, 9, 10] (.ops [⟨(some 10), (.move (.const (.int .i64 0))), none, []⟩]))
  (.block 0
    (.loop
      (.keep [3, 4, 5, 6, 8, 9, 10] (.seq (.keep [3, 4, 5, 6, 8, 9, 10] (.seq (.keep [3, 4, 5, 6, 8, 9, 10, 24] (.ops [⟨(some 21), (.move (.tmp 10)), none, []⟩,
        ⟨(some 22), (.move (.tmp 9)), none, []⟩,
        ⟨(some 23), (.len (.tmp 22)), none, []⟩,
        ⟨(some 24), (.bin .lss (.tmp 21) (.tmp 23)), none, []⟩]))
      (.cond (.tmp 24)
        .skip
        (.exit 0))))
      (.seq (.keep [3, 4, 5, 6, 8, 9, 10] (.block 1
        (.seq (.keep [3, 4, 5, 6, 8, 9, 10, 11] (.draw [0, 0, 0, 0, 12, 28, 63, 0, 255] [⟨0, 0, [], ⟨(some 27), (.load (some 4) (.tmp 3)), none, []⟩⟩,
          ⟨1, 0, [], ⟨(some 28), (.load (some 2) (.tmp 4)), none, []⟩⟩,
          ⟨2, 0, [], ⟨(some 29), (.move (.tmp 9)), none, []⟩⟩,
          ⟨3, 0, [], ⟨(some 30), (.move (.tmp 10)), none, []⟩⟩,
          ⟨4, 12, [], ⟨(some 31), (.indexAddr 2 (.tmp 29) (.tmp 30)), none, []⟩⟩,
          ⟨5, 28, [], ⟨(some 32), (.load (some 2) (.tmp 31)), none, []⟩⟩,
          ⟨7, 0, [], ⟨(some 11), (.alloc (.agg (List.replicate 4 (.int .i64 0)).toArray)), none, []⟩⟩,
          ⟨6, 63, [], ⟨(some 33), (.call (.func 12) [(.tmp 27), (.tmp 28), (.tmp 32)]), none, []⟩⟩,
          ⟨8, 255, [], ⟨none, (.store 4 (.tmp 11) (.tmp 33)), none, []⟩⟩]))
        (.seq (.keep [3, 4, 5, 6, 8, 9, 10, 11, 49] (.ops [⟨(some 34), (.fieldAddr 0 (.tmp 11)), none, []⟩,
          ⟨(some 35), (.load (some 3) (.tmp 34)), none, []⟩,
          ⟨(some 36), (.load (some 3) (.tmp 5)), none, []⟩,
          ⟨(some 37), (.call (.func 18) [(.tmp 35), (.tmp 36)]), none, []⟩,
          ⟨(some 38), (.move (.tmp 37)), none, []⟩,
          ⟨(some 39), (.fieldAddr 5 (.tmp 8)), (some (38, true)), []⟩,
          ⟨(some 40), (.load none (.tmp 39)), (some (38, true)), []⟩,
          ⟨(some 41), (.bin .neq (.tmp 40) (.const (.int .i64 0))), (some (38, true)), []⟩,
          ⟨(some 42), (.move (.tmp 41)), (some (38, true)), []⟩,
          ⟨(some 43), (.fieldAddr 0 (.tmp 11)), (some (42, false)), []⟩,
          ⟨(some 44), (.load (some 3) (.tmp 43)), (some (42, false)), []⟩,
          ⟨(some 45), (.fieldAddr 2 (.tmp 8)), (some (42, false)), []⟩,
          ⟨(some 46), (.load (some 3) (.tmp 45)), (some (42, false)), []⟩,
          ⟨(some 47), (.call (.func 31) [(.tmp 44), (.tmp 46)]), (some (42, false)), []⟩,
          ⟨(some 48), (.pick (.tmp 42) (.const (.bool true)) (.tmp 47)), (some (38, true)), []⟩,
          ⟨(some 49), (.pick (.tmp 38) (.tmp 48) (.const (.bool false))), none, []⟩]))
        (.cond (.tmp 49)
          (.draw [0, 0, 3, 7, 0, 16, 63, 127] [⟨0, 0, [], ⟨(some 50), (.move (.tmp 9)), none, []⟩⟩,
            ⟨1, 0, [], ⟨(some 51), (.move (.tmp 10)), none, []⟩⟩,
            ⟨2, 3, [], ⟨(some 52), (.indexAddr 2 (.tmp 50) (.tmp 51)), none, []⟩⟩,
            ⟨3, 7, [], ⟨(some 53), (.load (some 2) (.tmp 52)), none, []⟩⟩,
            ⟨4, 0, [], ⟨(some 54), (.fieldAddr 0 (.tmp 11)), none, []⟩⟩,
            ⟨5, 16, [], ⟨(some 55), (.load (some 3) (.tmp 54)), none, []⟩⟩,
            ⟨6, 63, [], ⟨(some 56), (.build (List.replicate 6 (.int .i64 0)) [(0, 2, (.tmp 53)), (2, 3, (.tmp 55))]), none, []⟩⟩,
            ⟨7, 127, [], ⟨none, (.store 6 (.tmp 8) (.tmp 56)), none, []⟩⟩])
          .skip)))))
      (.ops [⟨(some 25), (.move (.tmp 10)), none, []⟩,
        ⟨(some 26), (.bin .add (.tmp 25) (.const (.int .i64 1))), none, []⟩,
        ⟨(some 10), (.move (.tmp 26)), none, []⟩]))))))))
  (.seq (.keep [6] (.ops [⟨(some 57), (.load (some 6) (.tmp 8)), none, []⟩,
    ⟨none, (.store 6 (.tmp 6) (.tmp 57)), none, []⟩]))
  .ret)))))))
theorem t20 : trF Try.prog Try.f20 s20 = some s20 := by kernel_rfl
theorem k20 : okS s20 = true := by kernel_rfl
theorem r20 : resT Try.prog Try.f20.results.toList = some [.c 6 (some 6)] := by kernel_rfl

def s21 : S :=
  (.seq (.keep [1, 2] (.ops [⟨(some 2), (.box (.tmp 0)), none, []⟩,
    ⟨(some 4), (.move (.const (.int .i64 0))), none, []⟩]))
  (.seq (.keep [4] (.draw [0, 0, 2, 7, 15, 0, 32, 127, 0, 256, 1023, 2047] [⟨0, 0, [], ⟨(some 5), (.move (.tmp 1)), none, []⟩⟩,
    ⟨1, 0, [], ⟨(some 6), (.fieldAddr 0 (.tmp 2)), none, []⟩⟩,
    ⟨2, 2, [], ⟨(some 7), (.load none (.tmp 6)), none, []⟩⟩,
    ⟨3, 7, [], ⟨(some 8), (.bin .add (.tmp 5) (.tmp 7)), none, []⟩⟩,
    ⟨4, 15, [], ⟨(some 9), (.bin .sub (.tmp 8) (.const (.int .i64 1))), none, []⟩⟩,
    ⟨5, 0, [], ⟨(some 10), (.fieldAddr 0 (.tmp 2)), none, []⟩⟩,
    ⟨6, 32, [], ⟨(some 11), (.load none (.tmp 10)), none, []⟩⟩,
    ⟨7, 127, [], ⟨(some 12), (.bin .quo (.tmp 9) (.tmp 11)), none, []⟩⟩,
    ⟨8, 0, [], ⟨(some 13), (.fieldAddr 1 (.tmp 2)), none, []⟩⟩,
    ⟨9, 256, [], ⟨(some 14), (.load none (.tmp 13)), none, []⟩⟩,
    ⟨10, 1023, [], ⟨(some 15), (.bin .add (.tmp 12) (.tmp 14)), none, []⟩⟩,
    ⟨11, 2047, [], ⟨(some 4), (.move (.tmp 15)), none, []⟩⟩]))
  .ret))
theorem t21 : trF Try.prog Try.f21 s21 = some s21 := by kernel_rfl
theorem k21 : okS s21 = true := by kernel_rfl
theorem r21 : resT Try.prog Try.f21.results.toList = some [.t 4] := by kernel_rfl

def s22 : S :=
  (.seq (.keep [0, 1, 2] (.ops [⟨(some 6), (.move (.const (.bool false))), none, []⟩]))
  (.seq (.keep [6] (.ops [⟨(some 7), (.move (.tmp 0)), none, []⟩,
    ⟨(some 8), (.move (.tmp 1)), none, []⟩,
    ⟨(some 9), (.bin .geq (.tmp 7) (.tmp 8)), none, []⟩,
    ⟨(some 10), (.move (.tmp 9)), none, []⟩,
    ⟨(some 11), (.move (.tmp 0)), (some (10, true)), []⟩,
    ⟨(some 12), (.move (.tmp 2)), (some (10, true)), []⟩,
    ⟨(some 13), (.bin .leq (.tmp 11) (.tmp 12)), (some (10, true)), []⟩,
    ⟨(some 14), (.pick (.tmp 10) (.tmp 13) (.const (.bool false))), none, []⟩,
    ⟨(some 6), (.move (.tmp 14)), none, []⟩]))
  .ret))
theorem t22 : trF Try.prog Try.f22 s22 = some s22 := by kernel_rfl
theorem k22 : okS s22 = true := by kernel_rfl
theorem r22 : resT Try.prog Try.f22.results.toList = some [.t 6] := by kernel_rfl

def s23 : S :=
  (.seq (.keep [1, 2] (.ops [⟨(some 2), (.box (.tmp 0)), none, []⟩,
    ⟨(some 4), (.move (.const (.slice none 0 0))), none, []⟩]))
  (.seq (.keep [1, 2, 5] (.ops [⟨(some 7), (.fieldAddr 0 (.tmp 2)), none, []⟩,
    ⟨(some 8), (.fieldAddr 0 (.tmp 7)), none, []⟩,
    ⟨(some 9), (.load none (.tmp 8)), none, []⟩,
    ⟨(some 10), (.buildSlice 1 [(.int .i64 0)] [(0, 1, (.tmp 9))]), none, []⟩,
    ⟨(some 5), (.move (.tmp 10)), none, []⟩]))
  (.seq (.keep [5] (.seq (.keep [2, 5, 11, 12] (.ops [⟨(some 11), (.move (.tmp 1)), none, []⟩,
    ⟨(some 12), (.move (.const (.int .i64 0))), none, []⟩]))
  (.block 0
    (.loop
      (.keep [2, 5, 11, 12] (.seq (.keep [2, 5, 11, 12, 13] (.ops [⟨(some 13), (.bin .lss (.tmp 12) (.tmp 11)), none, []⟩]))
      (.seq (.keep [2, 5, 11, 12] (.cond (.tmp 13)
        .skip
        (.exit 0)))
      (.seq (.keep [2, 5, 11, 12] (.block 1
        (.seq (.keep [2, 5, 6, 11, 12] (.ops [⟨(some 14), (.move (.tmp 12)), none, []⟩,
          ⟨(some 6), (.move (.tmp 14)), none, []⟩]))
        (.draw [0, 0, 2, 6, 0, 16, 48, 0, 0, 0, 768, 1792, 3968, 8176, 16382, 32766, 65535, 131071] [⟨0, 0, [], ⟨(some 15), (.move (.tmp 5)), none, []⟩⟩,
          ⟨1, 0, [], ⟨(some 16), (.fieldAddr 0 (.tmp 2)), none, []⟩⟩,
          ⟨2, 2, [], ⟨(some 17), (.fieldAddr 1 (.tmp 16)), none, []⟩⟩,
          ⟨3, 6, [], ⟨(some 18), (.load none (.tmp 17)), none, []⟩⟩,
          ⟨4, 0, [], ⟨(some 19), (.fieldAddr 0 (.tmp 2)), none, []⟩⟩,
          ⟨5, 16, [], ⟨(some 20), (.fieldAddr 2 (.tmp 19)), none, []⟩⟩,
          ⟨6, 48, [], ⟨(some 21), (.load none (.tmp 20)), none, []⟩⟩,
          ⟨7, 0, [], ⟨(some 22), (.load (some 6) (.tmp 2)), none, []⟩⟩,
          ⟨8, 0, [], ⟨(some 23), (.move (.tmp 5)), none, []⟩⟩,
          ⟨9, 0, [], ⟨(some 24), (.move (.tmp 6)), none, []⟩⟩,
          ⟨10, 768, [], ⟨(some 25), (.indexAddr 1 (.tmp 23) (.tmp 24)), none, []⟩⟩,
          ⟨11, 1792, [], ⟨(some 26), (.load none (.tmp 25)), none, []⟩⟩,
          ⟨12, 3968, [3, 6], ⟨(some 27), (.call (.func 32) [(.tmp 22), (.tmp 26)]), none, [((.load none (.tmp 17)), none, (some 18)), ((.load none (.tmp 20)), none, (some 21))]⟩⟩,
          ⟨13, 8176, [], ⟨(some 28), (.bin .mul (.tmp 21) (.tmp 27)), none, []⟩⟩,
          ⟨14, 16382, [], ⟨(some 29), (.minmax false [(.tmp 18), (.tmp 28)]), none, []⟩⟩,
          ⟨15, 32766, [], ⟨(some 30), (.buildSlice 1 [(.int .i64 0)] [(0, 1, (.tmp 29))]), none, []⟩⟩,
          ⟨16, 65535, [], ⟨(some 31), (.append 1 8 (.tmp 15) (.tmp 30)), none, []⟩⟩,
          ⟨17, 131071, [], ⟨(some 5), (.move (.tmp 31)), none, []⟩⟩]))))
      (.ops [⟨(some 32), (.bin .add (.tmp 12) (.const (.int .i64 1))), none, []⟩,
        ⟨(some 12), (.move (.tmp 32)), none, []⟩])))))))))
  (.seq (.keep [4] (.ops [⟨(some 33), (.move (.tmp 5)), none, []⟩,
    ⟨(some 4), (.move (.tmp 33)), none, []⟩]))
  .ret))))
theorem t23 : trF Try.prog Try.f23 s23 = some s23 := by kernel_rfl
theorem k23 : okS s23 = true := by kernel_rfl
theorem r23 : resT Try.prog Try.f23.results.toList = some [.t 4] := by kernel_rfl

def s24 : S :=
  (.seq (.keep [] (.ops [⟨(some 0), (.move (.const .nilFunc)), none, []⟩]))
  (.seq (.keep [0] (.ops [⟨(some 0), (.move (.func 33)), none, []⟩]))
  .ret))
theorem t24 : trF Try.prog Try.f24 s24 = some s24 := by kernel_rfl
theorem k24 : okS s24 = true := by kernel_rfl
theorem r24 : resT Try.prog Try.f24.results.toList = some [.t 0] := by kernel_rfl

def s25 : S :=
  (.seq (.keep [1] (.ops [⟨(some 1), (.box (.tmp 0)), none, []⟩,
    ⟨(some 2), (.move (.const (.map none))), none, []⟩]))
  (.seq (.keep [1, 3, 4] (.draw [0, 1, 3, 7, 15, 0, 32, 96, 0, 256, 768, 2016, 0, 0, 12319, 32767] [⟨0, 0, [], ⟨(some 5), (.fieldAddr 4 (.tmp 1)), none, []⟩⟩,
    ⟨1, 1, [], ⟨(some 6), (.fieldAddr 1 (.tmp 5)), none, []⟩⟩,
    ⟨2, 3, [], ⟨(some 7), (.load none (.tmp 6)), none, []⟩⟩,
    ⟨3, 7, [], ⟨(some 8), (.bin .mul (.const (.int .i64 2)) (.tmp 7)), none, []⟩⟩,
    ⟨4, 15, [], ⟨(some 9), (.bin .add (.tmp 8) (.const (.int .i64 1))), none, []⟩⟩,
    ⟨5, 0, [], ⟨(some 10), (.fieldAddr 4 (.tmp 1)), none, []⟩⟩,
    ⟨6, 32, [], ⟨(some 11), (.fieldAddr 1 (.tmp 10)), none, []⟩⟩,
    ⟨7, 96, [], ⟨(some 12), (.load none (.tmp 11)), none, []⟩⟩,
    ⟨8, 0, [], ⟨(some 13), (.fieldAddr 0 (.tmp 1)), none, []⟩⟩,
    ⟨9, 256, [], ⟨(some 14), (.fieldAddr 3 (.tmp 13)), none, []⟩⟩,
    ⟨10, 768, [], ⟨(some 15), (.load none (.tmp 14)), none, []⟩⟩,
    ⟨11, 2016, [], ⟨(some 16), (.bin .add (.tmp 12) (.tmp 15)), none, []⟩⟩,
    ⟨12, 0, [], ⟨(some 3), (.alloc (.int .i64 0)), none, []⟩⟩,
    ⟨13, 0, [], ⟨(some 4), (.alloc (.int .i64 0)), none, []⟩⟩,
    ⟨14, 12319, [7, 10], ⟨none, (.store 1 (.tmp 3) (.tmp 9)), none, [((.load none (.tmp 11)), none, (some 12)), ((.load none (.tmp 14)), none, (some 15))]⟩⟩,
    ⟨15, 32767, [], ⟨none, (.store 1 (.tmp 4) (.tmp 16)), none, []⟩⟩]))
  (.seq (.keep [2] (.ops [⟨(some 17), .makeMap, none, []⟩,
    ⟨(some 18), (.makeFunc (.func 34) [] [(.tmp 1)]), none, []⟩,
    ⟨none, (.mapPut (.int .i64) (.tmp 17) (.const (.int .i64 1)) (.tmp 18)), none, []⟩,
    ⟨(some 19), (.makeFunc (.func 36) [] [(.tmp 4), (.tmp 1), (.tmp 3)]), none, []⟩,
    ⟨none, (.mapPut (.int .i64) (.tmp 17) (.const (.int .i64 2)) (.tmp 19)), none, []⟩,
    ⟨(some 20), (.makeFunc (.func 37) [] [(.tmp 1), (.tmp 4), (.tmp 3)]), none, []⟩,
    ⟨none, (.mapPut (.int .i64) (.tmp 17) (.const (.int .i64 3)) (.tmp 20)), none, []⟩,
    ⟨(some 21), (.move (.tmp 17)), none, []⟩,
    ⟨(some 2), (.move (.tmp 21)), none, []⟩]))
  .ret)))
theorem t25 : trF Try.prog Try.f25 s25 = some s25 := by kernel_rfl
theorem k25 : okS s25 = true := by kernel_rfl
theorem r25 : resT Try.prog Try.f25.results.toList = some [.t 2] := by kernel_rfl

def s26 : S :=
  (.seq (.keep [0, 1, 2] (.ops [⟨(some 6), (.move (.const (.bool false))), none, []⟩]))
  (.seq (.keep [6] (.ops [⟨(some 7), (.move (.tmp 0)), none, []⟩,
    ⟨(some 8), (.move (.tmp 1)), none, []⟩,
    ⟨(some 9), (.bin .geq (.tmp 7) (.tmp 8)), none, []⟩,
    ⟨(some 10), (.move (.tmp 9)), none, []⟩,
    ⟨(some 11), (.move (.tmp 0)), (some (10, true)), []⟩,
    ⟨(some 12), (.move (.tmp 2)), (some (10, true)), []⟩,
    ⟨(some 13), (.bin .leq (.tmp 11) (.tmp 12)), (some (10, true)), []⟩,
    ⟨(some 14), (.pick (.tmp 10) (.tmp 13) (.const (.bool false))), none, []⟩,
    ⟨(some 6), (.move (.tmp 14)), none, []⟩]))
  .ret))
theorem t26 : trF Try.prog Try.f26 s26 = some s26 := by kernel_rfl
theorem k26 : okS s26 = true := by kernel_rfl
theorem r26 : resT Try.prog Try.f26.results.toList = some [.t 6] := by kernel_rfl

def s27 : S :=
  (.seq (.keep [1, 2] (.ops [⟨(some 2), (.box (.tmp 0)), none, []⟩,
    ⟨(some 4), (.move (.const (.int .i64 0))), none, []⟩]))
  (.seq (.keep [4] (.ops [⟨(some 5), (.fieldAddr 1 (.tmp 2)), none, []⟩,
    ⟨(some 6), (.load none (.tmp 5)), none, []⟩,
    ⟨(some 7), (.fieldAddr 2 (.tmp 2)), none, []⟩,
    ⟨(some 8), (.load none (.tmp 7)), none, []⟩,
    ⟨(some 9), (.move (.tmp 1)), none, []⟩,
    ⟨(some 10), (.bin .mul (.tmp 8) (.tmp 9)), none, []⟩,
    ⟨(some 11), (.minmax false [(.tmp 6), (.tmp 10)]), none, []⟩,
    ⟨(some 4), (.move (.tmp 11)), none, []⟩]))
  .ret))
theorem t27 : trF Try.prog Try.f27 s27 = some s27 := by kernel_rfl
theorem k27 : okS s27 = true := by kernel_rfl
theorem r27 : resT Try.prog Try.f27.results.toList = some [.t 4] := by kernel_rfl

def s28 : S :=
  (.seq (.keep [0] (.ops [⟨(some 2), (.move (.const (.int .i64 0))), none, []⟩]))
  (.seq (.keep [0, 3] (.ops [⟨(some 3), (.move (.const (.int .i64 0))), none, []⟩]))
  (.seq (.keep [3] (.seq (.keep [0, 3, 4] (.ops [⟨(some 4), (.move (.const (.int .i64 0))), none, []⟩]))
  (.block 0
    (.loop
      (.keep [0, 3, 4] (.seq (.keep [0, 3, 4] (.seq (.keep [0, 3, 4, 8] (.ops [⟨(some 5), (.move (.tmp 4)), none, []⟩,
        ⟨(some 6), (.move (.tmp 0)), none, []⟩,
        ⟨(some 7), (.len (.tmp 6)), none, []⟩,
        ⟨(some 8), (.bin .lss (.tmp 5) (.tmp 7)), none, []⟩]))
      (.cond (.tmp 8)
        .skip
        (.exit 0))))
      (.seq (.keep [0, 3, 4] (.block 1
        (.ops [⟨(some 11), (.move (.tmp 3)), none, []⟩,
          ⟨(some 12), (.move (.tmp 0)), none, []⟩,
          ⟨(some 13), (.move (.tmp 4)), none, []⟩,
          ⟨(some 14), (.indexAddr 1 (.tmp 12) (.tmp 13)), none, []⟩,
          ⟨(some 15), (.load none (.tmp 14)), none, []⟩,
          ⟨(some 16), (.bin .add (.tmp 11) (.tmp 15)), none, []⟩,
          ⟨(some 3), (.move (.tmp 16)), none, []⟩])))
      (.ops [⟨(some 9), (.move (.tmp 4)), none, []⟩,
        ⟨(some 10), (.bin .add (.tmp 9) (.const (.int .i64 1))), none, []⟩,
        ⟨(some 4), (.move (.tmp 10)), none, []⟩]))))))))
  (.seq (.keep [2] (.ops [⟨(some 17), (.move (.tmp 3)), none, []⟩,
    ⟨(some 2), (.move (.tmp 17)), none, []⟩]))
  .ret))))
theorem t28 : trF Try.prog Try.f28 s28 = some s28 := by kernel_rfl
theorem k28 : okS s28 = true := by kernel_rfl
theorem r28 : resT Try.prog Try.f28.results.toList = some [.t 2] := by kernel_rfl

def s29 : S :=
  (.seq (.keep [2, 3] (.ops [⟨(some 2), (.box (.tmp 0)), none, []⟩,
    ⟨(some 3), (.box (.tmp 1)), none, []⟩,
    ⟨(some 4), (.move (.const (.int .i64 0))), none, []⟩]))
  (.seq (.keep [4] (.draw [0, 1, 0, 4, 15, 0, 32, 0, 128, 511, 0, 1024, 0, 4096, 16383, 32767, 65535, 131071] [⟨0, 0, [], ⟨(some 5), (.fieldAddr 2 (.tmp 2)), none, []⟩⟩,
    ⟨1, 1, [], ⟨(some 6), (.load none (.tmp 5)), none, []⟩⟩,
    ⟨2, 0, [], ⟨(some 7), (.fieldAddr 2 (.tmp 3)), none, []⟩⟩,
    ⟨3, 4, [], ⟨(some 8), (.load none (.tmp 7)), none, []⟩⟩,
    ⟨5, 0, [], ⟨(some 10), (.fieldAddr 1 (.tmp 2)), none, []⟩⟩,
    ⟨6, 32, [], ⟨(some 11), (.load none (.tmp 10)), none, []⟩⟩,
    ⟨7, 0, [], ⟨(some 12), (.fieldAddr 1 (.tmp 3)), none, []⟩⟩,
    ⟨8, 128, [], ⟨(some 13), (.load none (.tmp 12)), none, []⟩⟩,
    ⟨10, 0, [], ⟨(some 15), (.fieldAddr 0 (.tmp 2)), none, []⟩⟩,
    ⟨11, 1024, [], ⟨(some 16), (.load none (.tmp 15)), none, []⟩⟩,
    ⟨12, 0, [], ⟨(some 17), (.fieldAddr 0 (.tmp 3)), none, []⟩⟩,
    ⟨13, 4096, [], ⟨(some 18), (.load none (.tmp 17)), none, []⟩⟩,
    ⟨4, 15, [6, 8, 11, 13], ⟨(some 9), (.call (.func 39) [(.tmp 6), (.tmp 8)]), none, [((.load none (.tmp 10)), none, (some 11)), ((.load none (.tmp 12)), none, (some 13)), ((.load none (.tmp 15)), none, (some 16)), ((.load none (.tmp 17)), none, (some 18))]⟩⟩,
    ⟨9, 511, [11, 13], ⟨(some 14), (.call (.func 39) [(.tmp 11), (.tmp 13)]), none, [((.load none (.tmp 15)), none, (some 16)), ((.load none (.tmp 17)), none, (some 18))]⟩⟩,
    ⟨14, 16383, [], ⟨(some 19), (.call (.func 39) [(.tmp 16), (.tmp 18)]), none, []⟩⟩,
    ⟨15, 32767, [], ⟨(some 20), (.buildSlice 3 [(.int .i64 0), (.int .i64 0), (.int .i64 0)] [(0, 1, (.tmp 9)), (1, 1, (.tmp 14)), (2, 1, (.tmp 19))]), none, []⟩⟩,
    ⟨16, 65535, [], ⟨(some 21), (.call (.func 38) [(.tmp 20)]), none, []⟩⟩,
    ⟨17, 131071, [], ⟨(some 4), (.move (.tmp 21)), none, []⟩⟩]))
  .ret))
theorem t29 : trF Try.prog Try.f29 s29 = some s29 := by kernel_rfl
theorem k29 : okS s29 = true := by kernel_rfl
theorem r29 : resT Try.prog Try.f29.results.toList = some [.t 4] := by kernel_rfl

def s30 : S :=
  (.seq (.keep [] (.ops [⟨(some 0), (.move (.const (.slice none 0 0))), none, []⟩]))
  (.seq (.keep [1] (.ops [⟨(some 1), (.move (.const (.slice none 0 0))), none, []⟩]))
  (.seq (.keep [1] (.seq (.keep [1, 2] (.ops [⟨(some 2), (.move (.const (.int .i64 1))), none, []⟩]))
  (.block 0
    (.loop
      (.keep [1, 2] (.seq (.keep [1, 2] (.seq (.keep [1, 2, 4] (.ops [⟨(some 3), (.move (.tmp 2)), none, []⟩,
        ⟨(some 4), (.bin .leq (.tmp 3) (.const (.int .i64 16))), none, []⟩]))
      (.cond (.tmp 4)
        .skip
        (.exit 0))))
      (.seq (.keep [1, 2] (.block 1
        (.ops [⟨(some 7), (.move (.tmp 1)), none, []⟩,
          ⟨(some 8), (.move (.tmp 2)), none, []⟩,
          ⟨(some 9), (.build [(.int .i64 0), (.int .i64 0)] [(0, 1, (.const (.int .i64 1))), (1, 1, (.tmp 8))]), none, []⟩,
          ⟨(some 10), (.buildSlice 1 [(.int .i64 0), (.int .i64 0)] [(0, 2, (.tmp 9))]), none, []⟩,
          ⟨(some 11), (.append 2 16 (.tmp 7) (.tmp 10)), none, []⟩,
          ⟨(some 1), (.move (.tmp 11)), none, []⟩])))
      (.ops [⟨(some 5), (.move (.tmp 2)), none, []⟩,
        ⟨(some 6), (.bin .add (.tmp 5) (.const (.int .i64 1))), none, []⟩,
        ⟨(some 2), (.move (.tmp 6)), none, []⟩]))))))))
  (.seq (.keep [0] (.ops [⟨(some 12), (.move (.tmp 1)), none, []⟩,
    ⟨(some 13), (.build [(.int .i64 0), (.int .i64 0)] [(0, 1, (.const (.int .i64 2)))]), none, []⟩,
    ⟨(some 14), (.build [(.int .i64 0), (.int .i64 0)] [(0, 1, (.const (.int .i64 3)))]), none, []⟩,
    ⟨(some 15), (.buildSlice 2 (List.replicate 4 (.int .i64 0)) [(0, 2, (.tmp 13)), (2, 2, (.tmp 14))]), none, []⟩,
    ⟨(some 16), (.append 2 16 (.tmp 12) (.tmp 15)), none, []⟩,
    ⟨(some 0), (.move (.tmp 16)), none, []⟩]))
  .ret))))
theorem t30 : trF Try.prog Try.f30 s30 = some s30 := by kernel_rfl
theorem k30 : okS s30 = true := by kernel_rfl
theorem r30 : resT Try.prog Try.f30.results.toList = some [.t 0] := by kernel_rfl

def s31 : S :=
  (.seq (.keep [2, 3] (.ops [⟨(some 2), (.box (.tmp 0)), none, []⟩,
    ⟨(some 3), (.box (.tmp 1)), none, []⟩,
    ⟨(some 4), (.move (.const (.bool false))), none, []⟩]))
  (.seq (.keep [2, 3] (.seq (.keep [2, 3, 9] (.ops [⟨(some 5), (.fieldAddr 2 (.tmp 2)), none, []⟩,
    ⟨(some 6), (.load none (.tmp 5)), none, []⟩,
    ⟨(some 7), (.fieldAddr 2 (.tmp 3)), none, []⟩,
    ⟨(some 8), (.load none (.tmp 7)), none, []⟩,
    ⟨(some 9), (.bin .neq (.tmp 6) (.tmp 8)), none, []⟩]))
  (.cond (.tmp 9)
    (.seq (.keep [4] (.ops [⟨(some 10), (.fieldAddr 2 (.tmp 2)), none, []⟩,
      ⟨(some 11), (.load none (.tmp 10)), none, []⟩,
      ⟨(some 12), (.fieldAddr 2 (.tmp 3)), none, []⟩,
      ⟨(some 13), (.load none (.tmp 12)), none, []⟩,
      ⟨(some 14), (.bin .lss (.tmp 11) (.tmp 13)), none, []⟩,
      ⟨(some 4), (.move (.tmp 14)), none, []⟩]))
    .ret)
    .skip)))
  (.seq (.keep [2, 3] (.seq (.keep [2, 3, 19] (.ops [⟨(some 15), (.fieldAddr 1 (.tmp 2)), none, []⟩,
    ⟨(some 16), (.load none (.tmp 15)), none, []⟩,
    ⟨(some 17), (.fieldAddr 1 (.tmp 3)), none, []⟩,
    ⟨(some 18), (.load none (.tmp 17)), none, []⟩,
    ⟨(some 19), (.bin .neq (.tmp 16) (.tmp 18)), none, []⟩]))
  (.cond (.tmp 19)
    (.seq (.keep [4] (.ops [⟨(some 20), (.fieldAddr 1 (.tmp 2)), none, []⟩,
      ⟨(some 21), (.load none (.tmp 20)), none, []⟩,
      ⟨(some 22), (.fieldAddr 1 (.tmp 3)), none, []⟩,
      ⟨(some 23), (.load none (.tmp 22)), none, []⟩,
      ⟨(some 24), (.bin .lss (.tmp 21) (.tmp 23)), none, []⟩,
      ⟨(some 4), (.move (.tmp 24)), none, []⟩]))
    .ret)
    .skip)))
  (.seq (.keep [4] (.ops [⟨(some 25), (.fieldAddr 0 (.tmp 2)), none, []⟩,
    ⟨(some 26), (.load none (.tmp 25)), none, []⟩,
    ⟨(some 27), (.fieldAddr 0 (.tmp 3)), none, []⟩,
    ⟨(some 28), (.load none (.tmp 27)), none, []⟩,
    ⟨(some 29), (.bin .lss (.tmp 26) (.tmp 28)), none, []⟩,
    ⟨(some 4), (.move (.tmp 29)), none, []⟩]))
  .ret))))
theorem t31 : trF Try.prog Try.f31 s31 = some s31 := by kernel_rfl
theorem k31 : okS s31 = true := by kernel_rfl
theorem r31 : resT Try.prog Try.f31.results.toList = some [.t 4] := by kernel_rfl

def s32 : S :=
  (.seq (.keep [1, 2] (.ops [⟨(some 2), (.box (.tmp 0)), none, []⟩,
    ⟨(some 4), (.move (.const (.int .i64 0))), none, []⟩]))
  (.seq (.keep [4] (.draw [0, 0, 2, 6, 15, 31, 0, 64, 192, 511, 0, 1024, 3072, 8191, 16383] [⟨0, 0, [], ⟨(some 5), (.move (.tmp 1)), none, []⟩⟩,
    ⟨1, 0, [], ⟨(some 6), (.fieldAddr 4 (.tmp 2)), none, []⟩⟩,
    ⟨2, 2, [], ⟨(some 7), (.fieldAddr 0 (.tmp 6)), none, []⟩⟩,
    ⟨3, 6, [], ⟨(some 8), (.load none (.tmp 7)), none, []⟩⟩,
    ⟨4, 15, [], ⟨(some 9), (.bin .add (.tmp 5) (.tmp 8)), none, []⟩⟩,
    ⟨5, 31, [], ⟨(some 10), (.bin .sub (.tmp 9) (.const (.int .i64 1))), none, []⟩⟩,
    ⟨6, 0, [], ⟨(some 11), (.fieldAddr 4 (.tmp 2)), none, []⟩⟩,
    ⟨7, 64, [], ⟨(some 12), (.fieldAddr 0 (.tmp 11)), none, []⟩⟩,
    ⟨8, 192, [], ⟨(some 13), (.load none (.tmp 12)), none, []⟩⟩,
    ⟨9, 511, [], ⟨(some 14), (.bin .quo (.tmp 10) (.tmp 13)), none, []⟩⟩,
    ⟨10, 0, [], ⟨(some 15), (.fieldAddr 4 (.tmp 2)), none, []⟩⟩,
    ⟨11, 1024, [], ⟨(some 16), (.fieldAddr 1 (.tmp 15)), none, []⟩⟩,
    ⟨12, 3072, [], ⟨(some 17), (.load none (.tmp 16)), none, []⟩⟩,
    ⟨13, 8191, [], ⟨(some 18), (.bin .add (.tmp 14) (.tmp 17)), none, []⟩⟩,
    ⟨14, 16383, [], ⟨(some 4), (.move (.tmp 18)), none, []⟩⟩]))
  .ret))
theorem t32 : trF Try.prog Try.f32 s32 = some s32 := by kernel_rfl
theorem k32 : okS s32 = true := by kernel_rfl
theorem r32 : resT Try.prog Try.f32.results.toList = some [.t 4] := by kernel_rfl

def s33 : S :=
  (.seq (.keep [0] (.seq (.keep [0, 3] (.ops [⟨(some 3), (.move (.const (.int .i64 0))), none, []⟩]))
  (.block 0
    (.loop
      (.keep [0, 3] (.seq (.keep [0, 3, 4] (.ops [⟨(some 4), (.bin .lss (.tmp 3) (.const (.int .i64 16))), none, []⟩]))
      (.seq (.keep [0, 3] (.cond (.tmp 4)
        .skip
        (.exit 0)))
      (.seq (.keep [0, 3] (.block 1
        (.seq (.keep [0, 2, 3] (.ops [⟨(some 5), (.move (.tmp 3)), none, []⟩,
          ⟨(some 2), (.move (.tmp 5)), none, []⟩]))
        (.seq (.keep [0, 3, 11] (.ops [⟨(some 6), (.move (.tmp 0)), none, []⟩,
          ⟨(some 7), (.move (.tmp 2)), none, []⟩,
          ⟨(some 8), (.bin .add (.tmp 7) (.const (.int .i64 1))), none, []⟩,
          ⟨(some 9), (.build [(.int .i64 0), (.int .i64 0)] [(0, 1, (.const (.int .i64 1))), (1, 1, (.tmp 8))]), none, []⟩,
          ⟨(some 10), (.call (.tmp 6) [(.tmp 9)]), none, []⟩,
          ⟨(some 11), (.un .not (.tmp 10)), none, []⟩]))
        (.cond (.tmp 11)
          .ret
          .skip)))))
      (.ops [⟨(some 12), (.bin .add (.tmp 3) (.const (.int .i64 1))), none, []⟩,
        ⟨(some 3), (.move (.tmp 12)), none, []⟩])))))))))
  (.ops [⟨(some 13), (.move (.tmp 0)), none, []⟩,
    ⟨(some 14), (.build [(.int .i64 0), (.int .i64 0)] [(0, 1, (.const (.int .i64 2)))]), none, []⟩,
    ⟨(some 15), (.call (.tmp 13) [(.tmp 14)]), none, []⟩,
    ⟨(some 16), (.move (.tmp 15)), none, []⟩,
    ⟨(some 17), (.move (.tmp 0)), (some (16, true)), []⟩,
    ⟨(some 18), (.build [(.int .i64 0), (.int .i64 0)] [(0, 1, (.const (.int .i64 3)))]), (some (16, true)), []⟩,
    ⟨(some 19), (.call (.tmp 17) [(.tmp 18)]), (some (16, true)), []⟩,
    ⟨(some 20), (.pick (.tmp 16) (.tmp 19) (.const (.bool false))), none, []⟩]))
theorem t33 : trF Try.prog Try.f33 s33 = some s33 := by kernel_rfl
theorem k33 : okS s33 = true := by kernel_rfl
theorem r33 : resT Try.prog Try.f33.results.toList = some [] := by kernel_rfl

def s34 : S :=
  (.seq (.keep [0, 1, 3] (.ops [⟨(some 3), (.alloc (.agg #[(.int .i64 0), (.int .i64 0), (.int .i64 0)])), none, []⟩]))
  (.seq (.keep [0, 1, 3, 4] (.ops [⟨(some 5), (.load (some 6) (.tmp 1)), none, []⟩,
    ⟨(some 6), (.move (.tmp 0)), none, []⟩,
    ⟨(some 7), (.call (.func 23) [(.tmp 5), (.tmp 6)]), none, []⟩,
    ⟨(some 4), (.move (.tmp 7)), none, []⟩]))
  (.seq (.keep [3] (.draw [0, 0, 0, 6, 14, 31, 0, 64, 192, 511, 0, 1087, 4095, 8191] [⟨0, 0, [], ⟨(some 8), (.load (some 6) (.tmp 1)), none, []⟩⟩,
    ⟨1, 0, [], ⟨(some 9), (.move (.tmp 4)), none, []⟩⟩,
    ⟨2, 0, [], ⟨(some 10), (.move (.tmp 0)), none, []⟩⟩,
    ⟨3, 6, [], ⟨(some 11), (.indexAddr 1 (.tmp 9) (.tmp 10)), none, []⟩⟩,
    ⟨4, 14, [], ⟨(some 12), (.load none (.tmp 11)), none, []⟩⟩,
    ⟨6, 0, [], ⟨(some 14), (.fieldAddr 0 (.tmp 1)), none, []⟩⟩,
    ⟨7, 64, [], ⟨(some 15), (.fieldAddr 3 (.tmp 14)), none, []⟩⟩,
    ⟨8, 192, [], ⟨(some 16), (.load none (.tmp 15)), none, []⟩⟩,
    ⟨10, 0, [], ⟨(some 18), (.move (.tmp 4)), none, []⟩⟩,
    ⟨5, 31, [8], ⟨(some 13), (.call (.func 32) [(.tmp 8), (.tmp 12)]), none, [((.load none (.tmp 15)), none, (some 16))]⟩⟩,
    ⟨9, 511, [], ⟨(some 17), (.bin .add (.tmp 13) (.tmp 16)), none, []⟩⟩,
    ⟨11, 1087, [8], ⟨(some 19), (.call (.func 35) [(.tmp 18)]), none, [((.load none (.tmp 15)), none, (some 16))]⟩⟩,
    ⟨12, 4095, [], ⟨(some 20), (.build [(.int .i64 0), (.int .i64 0), (.int .i64 0)] [(0, 1, (.tmp 17)), (1, 1, (.tmp 19))]), none, []⟩⟩,
    ⟨13, 8191, [], ⟨none, (.store 3 (.tmp 3) (.tmp 20)), none, []⟩⟩]))
  .ret)))
theorem t34 : trF Try.prog Try.f34 s34 = some s34 := by kernel_rfl
theorem k34 : okS s34 = true := by kernel_rfl
theorem r34 : resT Try.prog Try.f34.results.toList = some [.c 3 (some 3)] := by kernel_rfl

def s35 : S :=
  (.seq (.keep [0] (.ops [⟨(some 2), (.move (.const (.int .i64 0))), none, []⟩]))
  (.seq (.keep [0, 3] (.ops [⟨(some 3), (.move (.const (.int .i64 0))), none, []⟩]))
  (.seq (.keep [3] (.seq (.keep [3, 6, 7, 8] (.ops [⟨(some 6), (.move (.tmp 0)), none, []⟩,
    ⟨(some 7), (.len (.tmp 6)), none, []⟩,
    ⟨(some 8), (.move (.const (.int .i64 0))), none, []⟩]))
  (.block 0
    (.loop
      (.keep [3, 6, 7, 8] (.seq (.keep [3, 6, 7, 8, 9] (.ops [⟨(some 9), (.bin .lss (.tmp 8) (.tmp 7)), none, []⟩]))
      (.seq (.keep [3, 6, 7, 8] (.cond (.tmp 9)
        .skip
        (.exit 0)))
      (.seq (.keep [3, 6, 7, 8] (.block 1
        (.seq (.keep [3, 5, 6, 7, 8] (.ops [⟨(some 10), (.indexAddr 1 (.tmp 6) (.tmp 8)), none, []⟩,
          ⟨(some 11), (.load none (.tmp 10)), none, []⟩,
          ⟨(some 5), (.move (.tmp 11)), none, []⟩]))
        (.ops [⟨(some 12), (.move (.tmp 3)), none, []⟩,
          ⟨(some 13), (.move (.tmp 5)), none, []⟩,
          ⟨(some 14), (.bin .add (.tmp 12) (.tmp 13)), none, []⟩,
          ⟨(some 3), (.move (.tmp 14)), none, []⟩]))))
      (.ops [⟨(some 15), (.bin .add (.tmp 8) (.const (.int .i64 1))), none, []⟩,
        ⟨(some 8), (.move (.tmp 15)), none, []⟩])))))))))
  (.seq (.keep [2] (.ops [⟨(some 16), (.move (.tmp 3)), none, []⟩,
    ⟨(some 2), (.move (.tmp 16)), none, []⟩]))
  .ret))))
theorem t35 : trF Try.prog Try.f35 s35 = some s35 := by kernel_rfl
theorem k35 : okS s35 = true := by kernel_rfl
theorem r35 : resT Try.prog Try.f35.results.toList = some [.t 2] := by kernel_rfl

def s36 : S :=
  (.seq (.keep [1, 2, 3, 5] (.ops [⟨(some 5), (.alloc (.agg #[(.int .i64 0), (.int .i64 0), (.int .i64 0)])), none, []⟩]))
  (.seq (.keep [5] (.ops [⟨(some 6), (.load none (.tmp 1)), none, []⟩,
    ⟨(some 7), (.fieldAddr 0 (.tmp 2)), none, []⟩,
    ⟨(some 8), (.fieldAddr 0 (.tmp 7)), none, []⟩,
    ⟨(some 9), (.load none (.tmp 8)), none, []⟩,
    ⟨(some 10), (.fieldAddr 0 (.tmp 2)), none, []⟩,
    ⟨(some 11), (.fieldAddr 1 (.tmp 10)), none, []⟩,
    ⟨(some 12), (.load none (.tmp 11)), none, []⟩,
    ⟨(some 13), (.load none (.tmp 3)), none, []⟩,
    ⟨(some 14), (.bin .mul (.tmp 12) (.tmp 13)), none, []⟩,
    ⟨(some 15), (.build [(.int .i64 0), (.int .i64 0), (.int .i64 0)] [(0, 1, (.tmp 6)), (1, 1, (.tmp 9)), (2, 1, (.tmp 14))]), none, []⟩,
    ⟨none, (.store 3 (.tmp 5) (.tmp 15)), none, []⟩]))
  .ret))
theorem t36 : trF Try.prog Try.f36 s36 = some s36 := by kernel_rfl
theorem k36 : okS s36 = true := by kernel_rfl
theorem r36 : resT Try.prog Try.f36.results.toList = some [.c 5 (some 3)] := by kernel_rfl

def s37 : S :=
  (.seq (.keep [1, 2, 3, 5] (.ops [⟨(some 5), (.alloc (.agg #[(.int .i64 0), (.int .i64 0), (.int .i64 0)])), none, []⟩]))
  (.seq (.keep [2, 3, 5, 6] (.ops [⟨(some 7), (.load (some 6) (.tmp 1)), none, []⟩,
    ⟨(some 8), (.call (.func 23) [(.tmp 7), (.const (.int .i64 1))]), none, []⟩,
    ⟨(some 6), (.move (.tmp 8)), none, []⟩]))
  (.seq (.keep [5] (.draw [0, 0, 2, 0, 8, 24, 0, 120, 255, 511] [⟨0, 0, [], ⟨(some 9), (.load none (.tmp 2)), none, []⟩⟩,
    ⟨1, 0, [], ⟨(some 10), (.move (.tmp 6)), none, []⟩⟩,
    ⟨3, 0, [], ⟨(some 12), (.move (.tmp 6)), none, []⟩⟩,
    ⟨4, 8, [], ⟨(some 13), (.indexAddr 1 (.tmp 12) (.const (.int .i64 1))), none, []⟩⟩,
    ⟨5, 24, [], ⟨(some 14), (.load none (.tmp 13)), none, []⟩⟩,
    ⟨6, 0, [], ⟨(some 15), (.load none (.tmp 3)), none, []⟩⟩,
    ⟨7, 120, [], ⟨(some 16), (.bin .mul (.tmp 14) (.tmp 15)), none, []⟩⟩,
    ⟨2, 2, [0, 5, 6], ⟨(some 11), (.call (.func 35) [(.tmp 10)]), none, [((.load none (.tmp 2)), none, (some 9)), ((.load none (.tmp 13)), none, (some 14)), ((.load none (.tmp 3)), none, (some 15))]⟩⟩,
    ⟨8, 255, [], ⟨(some 17), (.build [(.int .i64 0), (.int .i64 0), (.int .i64 0)] [(0, 1, (.tmp 9)), (1, 1, (.tmp 11)), (2, 1, (.tmp 16))]), none, []⟩⟩,
    ⟨9, 511, [], ⟨none, (.store 3 (.tmp 5) (.tmp 17)), none, []⟩⟩]))
  .ret)))
theorem t37 : trF Try.prog Try.f37 s37 = some s37 := by kernel_rfl
theorem k37 : okS s37 = true := by kernel_rfl
theorem r37 : resT Try.prog Try.f37.results.toList = some [.c 5 (some 3)] := by kernel_rfl

def s38 : S :=
  (.seq (.keep [0] (.ops [⟨(some 2), (.move (.const (.int .i64 0))), none, []⟩]))
  (.seq (.keep [0, 3] (.ops [⟨(some 3), (.move (.const (.int .i64 0))), none, []⟩]))
  (.seq (.keep [3] (.seq (.keep [3, 6, 7, 8] (.ops [⟨(some 6), (.move (.tmp 0)), none, []⟩,
    ⟨(some 7), (.len (.tmp 6)), none, []⟩,
    ⟨(some 8), (.move (.const (.int .i64 0))), none, []⟩]))
  (.block 0
    (.loop
      (.keep [3, 6, 7, 8] (.seq (.keep [3, 6, 7, 8, 9] (.ops [⟨(some 9), (.bin .lss (.tmp 8) (.tmp 7)), none, []⟩]))
      (.seq (.keep [3, 6, 7, 8] (.cond (.tmp 9)
        .skip
        (.exit 0)))
      (.seq (.keep [3, 6, 7, 8] (.block 1
        (.seq (.keep [3, 5, 6, 7, 8] (.ops [⟨(some 10), (.indexAddr 1 (.tmp 6) (.tmp 8)), none, []⟩,
          ⟨(some 11), (.load none (.tmp 10)), none, []⟩,
          ⟨(some 5), (.move (.tmp 11)), none, []⟩]))
        (.seq (.keep [3, 5, 6, 7, 8, 14] (.ops [⟨(some 12), (.move (.tmp 5)), none, []⟩,
          ⟨(some 13), (.move (.tmp 3)), none, []⟩,
          ⟨(some 14), (.bin .neq (.tmp 12) (.tmp 13)), none, []⟩]))
        (.cond (.tmp 14)
          (.seq (.keep [2] (.ops [⟨(some 15), (.move (.tmp 5)), none, []⟩,
            ⟨(some 2), (.move (.tmp 15)), none, []⟩]))
          .ret)
          .skip)))))
      (.ops [⟨(some 16), (.bin .add (.tmp 8) (.const (.int .i64 1))), none, []⟩,
        ⟨(some 8), (.move (.tmp 16)), none, []⟩])))))))))
  (.seq (.keep [2] (.ops [⟨(some 17), (.move (.tmp 3)), none, []⟩,
    ⟨(some 2), (.move (.tmp 17)), none, []⟩]))
  .ret))))
theorem t38 : trF Try.prog Try.f38 s38 = some s38 := by kernel_rfl
theorem k38 : okS s38 = true := by kernel_rfl
theorem r38 : resT Try.prog Try.f38.results.toList = some [.t 2] := by kernel_rfl

def s39 : S :=
  (.seq (.keep [0, 1] (.ops [⟨(some 4), (.move (.const (.int .i64 0))), none, []⟩]))
  (.seq (.keep [0, 1, 5] (.ops [⟨(some 7), (.move (.tmp 0)), none, []⟩,
    ⟨(some 8), (.call (.func 40) [(.tmp 7)]), none, []⟩,
    ⟨(some 5), (.move (.tmp 8)), none, []⟩]))
  (.seq (.keep [0, 1, 5, 6] (.ops [⟨(some 9), (.move (.tmp 1)), none, []⟩,
    ⟨(some 10), (.call (.func 40) [(.tmp 9)]), none, []⟩,
    ⟨(some 6), (.move (.tmp 10)), none, []⟩]))
  (.seq (.keep [0, 1, 6] (.seq (.keep [0, 1, 6, 11] (.ops [⟨(some 11), (.move (.tmp 5)), none, []⟩]))
  (.cond (.tmp 11)
    (.seq (.keep [] (.seq (.keep [12] (.ops [⟨(some 12), (.move (.tmp 6)), none, []⟩]))
    (.cond (.tmp 12)
      (.seq (.keep [4] (.ops [⟨(some 4), (.move (.const (.int .i64 0))), none, []⟩]))
      .ret)
      .skip)))
    (.seq (.keep [4] (.ops [⟨(some 4), (.move (.const (.int .i64 (-1)))), none, []⟩]))
    .ret))
    .skip)))
  (.seq (.keep [0, 1] (.seq (.keep [0, 1, 13] (.ops [⟨(some 13), (.move (.tmp 6)), none, []⟩]))
  (.cond (.tmp 13)
    (.seq (.keep [4] (.ops [⟨(some 4), (.move (.const (.int .i64 1))), none, []⟩]))
    .ret)
    .skip)))
  (.seq (.keep [0, 1] (.seq (.keep [0, 1, 16] (.ops [⟨(some 14), (.move (.tmp 0)), none, []⟩,
    ⟨(some 15), (.move (.tmp 1)), none, []⟩,
    ⟨(some 16), (.bin .lss (.tmp 14) (.tmp 15)), none, []⟩]))
  (.cond (.tmp 16)
    (.seq (.keep [4] (.ops [⟨(some 4), (.move (.const (.int .i64 (-1)))), none, []⟩]))
    .ret)
    .skip)))
  (.seq (.keep [] (.seq (.keep [19] (.ops [⟨(some 17), (.move (.tmp 0)), none, []⟩,
    ⟨(some 18), (.move (.tmp 1)), none, []⟩,
    ⟨(some 19), (.bin .gtr (.tmp 17) (.tmp 18)), none, []⟩]))
  (.cond (.tmp 19)
    (.seq (.keep [4] (.ops [⟨(some 4), (.move (.const (.int .i64 1))), none, []⟩]))
    .ret)
    .skip)))
  (.seq (.keep [4] (.ops [⟨(some 4), (.move (.const (.int .i64 0))), none, []⟩]))
  .ret))))))))
theorem t39 : trF Try.prog Try.f39 s39 = some s39 := by kernel_rfl
theorem k39 : okS s39 = true := by kernel_rfl
theorem r39 : resT Try.prog Try.f39.results.toList = some [.t 4] := by kernel_rfl

def s40 : S :=
  (.seq (.keep [0] (.ops [⟨(some 2), (.move (.const (.bool false))), none, []⟩]))
  (.seq (.keep [2] (.ops [⟨(some 3), (.move (.tmp 0)), none, []⟩,
    ⟨(some 4), (.move (.tmp 0)), none, []⟩,
    ⟨(some 5), (.bin .neq (.tmp 3) (.tmp 4)), none, []⟩,
    ⟨(some 2), (.move (.tmp 5)), none, []⟩]))
  .ret))
theorem t40 : trF Try.prog Try.f40 s40 = some s40 := by kernel_rfl
theorem k40 : okS s40 = true := by kernel_rfl
theorem r40 : resT Try.prog Try.f40.results.toList = some [.t 2] := by kernel_rfl


end Go.Proofs.Ytianomelnpiffaa
