/- Merged by program: CodeA, CodeC, CodeG, Code, T1, T2, T3. -/
import Derived.Test.YtmcfibpeenhcnaaM3
import Derived.Test.YtmcfibpeenhcnaaProg
import Derived.ProofKit
import Derived.DeepKeys4
/- The compact code of the functions, and that it is theirs. -/
namespace Go.Proofs.Ytmcfibpeenhcnaa
open Go Go.V
set_option maxRecDepth 100000

/-- steening/steeninglaw04.DowsersEach -/
def v3 : VC :=
 (.seq
 (.ops false [
   ⟨some 3, .box 3 5 (.t 0), none⟩,
   ⟨some 6, .mov (.k (.bool false)), none⟩] (some [1, 2, 3]))
 (.seq
 (.seq
 (.ops false [
   ⟨some 19, .load 5 true (.t 3) [], none⟩,
   ⟨some 20, .call 15 [.t 19], none⟩,
   ⟨some 21, .not (.t 20), none⟩,
   ⟨some 22, .mov (.t 21), none⟩,
   ⟨some 23, .load 5 true (.t 3) [], some (22, false)⟩,
   ⟨some 24, .mov (.t 2), some (22, false)⟩,
   ⟨some 25, .call 16 [.t 23, .t 24], some (22, false)⟩,
   ⟨some 26, .not (.t 25), some (22, false)⟩,
   ⟨some 27, .pick (.t 22) (.k (.bool true)) (.t 26), none⟩] (some [1, 2, 3, 27]))
 (.cond (.t 27)
  (.seq
  (.ops false [
    ⟨some 28, .call 17 [], none⟩,
    ⟨some 6, .mov (.t 28), none⟩] (some [6]))
  .ret)
  .skip))
 (.seq
 (.ops false [
   ⟨some 30, .load 5 true (.t 3) [], none⟩,
   ⟨some 31, .mov (.t 2), none⟩,
   ⟨some 32, .call 18 [.t 30, .t 31], none⟩,
   ⟨some 29, .mov (.t 32), none⟩,
   ⟨some 33, .ext (.t 29) 0, none⟩,
   ⟨some 34, .ext (.t 29) 1, none⟩,
   ⟨some 7, .alloc 7 [.int 0, .int 0], none⟩,
   ⟨none, .store 2 (.t 7) (.t 33) (some 7), none⟩,
   ⟨some 8, .mov (.t 34), none⟩] (some [1, 2, 3, 7, 8]))
 (.seq
 (.ops false [
   ⟨some 36, .load 5 true (.t 3) [], none⟩,
   ⟨some 37, .mov (.t 2), none⟩,
   ⟨some 38, .call 19 [.t 36, .t 37], none⟩,
   ⟨some 35, .mov (.t 38), none⟩,
   ⟨some 39, .ext (.t 35) 0, none⟩,
   ⟨some 40, .ext (.t 35) 1, none⟩,
   ⟨some 9, .mov (.t 39), none⟩,
   ⟨some 10, .mov (.t 40), none⟩] (some [1, 2, 3, 7, 8, 9, 10]))
 (.seq
 (.ops false [
   ⟨some 11, .mov (.k (.bool false)), none⟩] (some [1, 2, 3, 7, 8, 9, 10, 11]))
 (.seq
 (.seq
 (.ops false [
   ⟨some 12, .mov (.k (.int 0)), none⟩] (some [1, 2, 3, 7, 8, 9, 10, 11, 12]))
 (.block 0
  (.loop
   (.seq
   (.seq
   (.ops false [
     ⟨some 41, .mov (.t 12), none⟩,
     ⟨some 42, .fld 2 (.t 3), none⟩,
     ⟨some 43, .load 1 false (.t 42) [], none⟩,
     ⟨some 44, .bin .lss (.t 41) (.t 43), none⟩] (some [1, 2, 3, 7, 8, 9, 10, 11, 12, 44]))
   (.cond (.t 44)
    .skip
    (.exit 0)))
   (.seq
   (.block 1
    (.seq
    (.ops false [
      ⟨some 48, .load 5 true (.t 3) [], none⟩,
      ⟨some 49, .mov (.t 12), none⟩,
      ⟨some 50, .call 19 [.t 48, .t 49], none⟩,
      ⟨some 47, .mov (.t 50), none⟩,
      ⟨some 51, .ext (.t 47) 0, none⟩,
      ⟨some 52, .ext (.t 47) 1, none⟩,
      ⟨some 13, .mov (.t 51), none⟩,
      ⟨some 14, .mov (.t 52), none⟩] (some [1, 2, 3, 7, 8, 9, 10, 11, 12, 13, 14]))
    (.seq
    (.seq
    (.ops false [
      ⟨some 53, .mov (.t 14), none⟩,
      ⟨some 54, .bin .neq (.t 53) (.k (.int 0)), none⟩,
      ⟨some 55, .mov (.t 54), none⟩,
      ⟨some 56, .mov (.t 13), some (55, false)⟩,
      ⟨some 57, .call 20 [.t 56, .k (.int 1), .k (.int 3)], some (55, false)⟩,
      ⟨some 58, .not (.t 57), some (55, false)⟩,
      ⟨some 59, .pick (.t 55) (.k (.bool true)) (.t 58), none⟩] (some [1, 2, 3, 7, 8, 9, 10, 11, 12, 13, 59]))
    (.cond (.t 59)
     (.seq
     (.ops false [
       ⟨some 6, .mov (.k (.bool false)), none⟩] (some [6]))
     .ret)
     .skip))
    (.ops false [
      ⟨some 60, .mov (.t 11), none⟩,
      ⟨some 61, .mov (.t 60), none⟩,
      ⟨some 62, .mov (.t 13), some (61, false)⟩,
      ⟨some 63, .bin .neq (.t 62) (.k (.int 2)), some (61, false)⟩,
      ⟨some 64, .pick (.t 61) (.k (.bool true)) (.t 63), none⟩,
      ⟨some 11, .mov (.t 64), none⟩] (some [1, 2, 3, 7, 8, 9, 10, 11, 12])))))
   (.ops false [
     ⟨some 45, .mov (.t 12), none⟩,
     ⟨some 46, .bin .add (.t 45) (.k (.int 1)), none⟩,
     ⟨some 12, .mov (.t 46), none⟩] (some [1, 2, 3, 7, 8, 9, 10, 11, 12])))))))
 (.seq
 (.seq
 (.ops false [
   ⟨some 65, .mov (.t 8), none⟩,
   ⟨some 66, .bin .neq (.t 65) (.k (.int 0)), none⟩,
   ⟨some 67, .mov (.t 66), none⟩,
   ⟨some 68, .mov (.t 10), some (67, false)⟩,
   ⟨some 69, .bin .neq (.t 68) (.k (.int 0)), some (67, false)⟩,
   ⟨some 70, .pick (.t 67) (.k (.bool true)) (.t 69), none⟩,
   ⟨some 71, .mov (.t 70), none⟩,
   ⟨some 72, .mov (.t 11), some (71, false)⟩,
   ⟨some 73, .not (.t 72), some (71, false)⟩,
   ⟨some 74, .pick (.t 71) (.k (.bool true)) (.t 73), none⟩] (some [1, 2, 3, 7, 9, 74]))
 (.cond (.t 74)
  (.seq
  (.ops false [
    ⟨some 6, .mov (.k (.bool false)), none⟩] (some [6]))
  .ret)
  .skip))
 (.seq
 (.seq
 (.ops false [
   ⟨some 75, .mov (.t 1), none⟩,
   ⟨some 76, .len (.t 75), none⟩,
   ⟨some 77, .bin .gtr (.t 76) (.k (.int 40)), none⟩,
   ⟨some 78, .mov (.t 77), none⟩,
   ⟨some 79, .load 5 true (.t 3) [], some (78, false)⟩,
   ⟨some 80, .mov (.t 1), some (78, false)⟩,
   ⟨some 81, .call 21 [.t 79, .t 80], some (78, false)⟩,
   ⟨some 82, .not (.t 81), some (78, false)⟩,
   ⟨some 83, .pick (.t 78) (.k (.bool true)) (.t 82), none⟩] (some [1, 2, 3, 7, 9, 83]))
 (.cond (.t 83)
  (.seq
  (.ops false [
    ⟨some 84, .call 17 [], none⟩,
    ⟨some 6, .mov (.t 84), none⟩] (some [6]))
  .ret)
  .skip))
 (.seq
 (.ops false [
   ⟨some 85, .load 5 true (.t 3) [], none⟩,
   ⟨some 86, .call 22 [.t 85], none⟩,
   ⟨some 15, .alloc 15 [.int 0, .sl 1 [] .full, .int 0, .sl 4 [] .full, .int 0], none⟩,
   ⟨none, .store 5 (.t 15) (.t 86) (some 15), none⟩] (some [1, 2, 3, 7, 9, 15]))
 (.seq
 (.ops false [
   ⟨some 87, .bslice 1 [], none⟩,
   ⟨some 88, .mov (.t 1), none⟩,
   ⟨some 89, .app 89 1 8 (.t 87) (.t 88), none⟩,
   ⟨some 90, .fld 1 (.t 15), none⟩,
   ⟨none, .store 1 (.t 90) (.t 89) (some 15), none⟩] (some [1, 2, 3, 7, 9, 15]))
 (.seq
 (.ops false [
   ⟨some 92, .load 5 true (.t 15) [], none⟩,
   ⟨some 93, .mov (.t 2), none⟩,
   ⟨some 94, .call 23 [.t 92, .t 93], none⟩,
   ⟨some 91, .mov (.t 94), none⟩,
   ⟨some 95, .ext (.t 91) 0, none⟩,
   ⟨some 96, .ext (.t 91) 1, none⟩,
   ⟨some 16, .mov (.t 95), none⟩,
   ⟨some 17, .mov (.t 96), none⟩] (some [1, 2, 3, 7, 9, 16, 17]))
 (.seq
 (.ops false [
   ⟨some 97, .load 5 true (.t 3) [], none⟩,
   ⟨some 98, .mov (.t 2), none⟩,
   ⟨some 99, .mov (.t 1), none⟩,
   ⟨some 100, .call 24 [.t 97, .t 98, .t 99], none⟩,
   ⟨some 18, .mov (.t 100), none⟩] (some [7, 9, 16, 17, 18]))
 (.seq
 (.ops false [
   ⟨some 101, .mov (.t 17), none⟩,
   ⟨some 102, .bin .eql (.t 101) (.k (.int 0)), none⟩,
   ⟨some 103, .mov (.t 102), none⟩,
   ⟨some 104, .fld 0 (.t 7), some (103, true)⟩,
   ⟨some 105, .load 1 false (.t 104) [], some (103, true)⟩,
   ⟨some 106, .mov (.t 16), some (103, true)⟩,
   ⟨some 107, .bin .leq (.t 105) (.t 106), some (103, true)⟩,
   ⟨some 108, .pick (.t 103) (.t 107) (.k (.bool false)), none⟩,
   ⟨some 109, .mov (.t 108), none⟩,
   ⟨some 110, .mov (.t 16), some (109, true)⟩,
   ⟨some 111, .fld 1 (.t 7), some (109, true)⟩,
   ⟨some 112, .load 1 false (.t 111) [], some (109, true)⟩,
   ⟨some 113, .bin .leq (.t 110) (.t 112), some (109, true)⟩,
   ⟨some 114, .pick (.t 109) (.t 113) (.k (.bool false)), none⟩,
   ⟨some 115, .mov (.t 114), none⟩,
   ⟨some 116, .mov (.t 9), some (115, true)⟩,
   ⟨some 117, .bin .neq (.t 116) (.k (.int 1)), some (115, true)⟩,
   ⟨some 118, .mov (.t 117), some (115, true)⟩,
   ⟨some 119, .mov (.t 18), some (118, false)⟩,
   ⟨some 120, .pick (.t 118) (.k (.bool true)) (.t 119), some (115, true)⟩,
   ⟨some 121, .pick (.t 115) (.t 120) (.k (.bool false)), none⟩,
   ⟨some 122, .mov (.t 121), none⟩,
   ⟨some 123, .mov (.t 9), some (122, true)⟩,
   ⟨some 124, .bin .neq (.t 123) (.k (.int 2)), some (122, true)⟩,
   ⟨some 125, .mov (.t 124), some (122, true)⟩,
   ⟨some 126, .mov (.t 18), some (125, false)⟩,
   ⟨some 127, .not (.t 126), some (125, false)⟩,
   ⟨some 128, .pick (.t 125) (.k (.bool true)) (.t 127), some (122, true)⟩,
   ⟨some 129, .pick (.t 122) (.t 128) (.k (.bool false)), none⟩,
   ⟨some 130, .mov (.t 129), none⟩,
   ⟨some 131, .call 17 [], some (130, true)⟩,
   ⟨some 132, .pick (.t 130) (.t 131) (.k (.bool false)), none⟩,
   ⟨some 6, .mov (.t 132), none⟩] (some [6]))
 .ret)))))))))))))

theorem m3 : fmatch Try.prog Try.f3 3 [.tmp 6] v3 = true := by kernel_rfl

/-- steening/steeninglaw04.DowsersChances -/
def v4 : VC :=
 (.seq
 (.ops false [
   ⟨some 2, .box 2 5 (.t 0), none⟩,
   ⟨some 3, .box 3 4 (.t 1), none⟩,
   ⟨some 4, .mov (.k (.bool false)), none⟩] (some [2, 3]))
 (.seq
 (.seq
 (.ops false [
   ⟨some 16, .load 5 true (.t 2) [], none⟩,
   ⟨some 17, .call 25 [.t 16], none⟩,
   ⟨some 18, .not (.t 17), none⟩,
   ⟨some 19, .mov (.t 18), none⟩,
   ⟨some 20, .load 5 true (.t 2) [], some (19, false)⟩,
   ⟨some 21, .fld 0 (.t 3), some (19, false)⟩,
   ⟨some 22, .load 1 false (.t 21) [], some (19, false)⟩,
   ⟨some 23, .call 16 [.t 20, .t 22], some (19, false)⟩,
   ⟨some 24, .not (.t 23), some (19, false)⟩,
   ⟨some 25, .pick (.t 19) (.k (.bool true)) (.t 24), none⟩] (some [2, 3, 25]))
 (.cond (.t 25)
  (.seq
  (.ops false [
    ⟨some 26, .call 17 [], none⟩,
    ⟨some 4, .mov (.t 26), none⟩] (some [4]))
  .ret)
  .skip))
 (.seq
 (.ops false [
   ⟨some 28, .load 5 true (.t 2) [], none⟩,
   ⟨some 29, .fld 0 (.t 3), none⟩,
   ⟨some 30, .load 1 false (.t 29) [], none⟩,
   ⟨some 31, .call 26 [.t 28, .t 30], none⟩,
   ⟨some 27, .mov (.t 31), none⟩,
   ⟨some 32, .ext (.t 27) 0, none⟩,
   ⟨some 33, .ext (.t 27) 1, none⟩,
   ⟨some 5, .alloc 5 [.int 0, .int 0], none⟩,
   ⟨none, .store 2 (.t 5) (.t 32) (some 5), none⟩,
   ⟨some 6, .mov (.t 33), none⟩] (some [2, 3, 5, 6]))
 (.seq
 (.seq
 (.ops false [
   ⟨some 34, .mov (.t 6), none⟩,
   ⟨some 35, .bin .neq (.t 34) (.k (.int 0)), none⟩,
   ⟨some 36, .mov (.t 35), none⟩,
   ⟨some 37, .load 2 true (.t 5) [], some (36, false)⟩,
   ⟨some 38, .call 27 [.t 37], some (36, false)⟩,
   ⟨some 39, .not (.t 38), some (36, false)⟩,
   ⟨some 40, .pick (.t 36) (.k (.bool true)) (.t 39), none⟩] (some [2, 3, 5, 40]))
 (.cond (.t 40)
  (.seq
  (.ops false [
    ⟨some 4, .mov (.k (.bool false)), none⟩] (some [4]))
  .ret)
  .skip))
 (.seq
 (.ops false [
   ⟨some 42, .load 5 true (.t 2) [], none⟩,
   ⟨some 43, .fld 0 (.t 3), none⟩,
   ⟨some 44, .load 1 false (.t 43) [], none⟩,
   ⟨some 45, .call 28 [.t 42, .t 44], none⟩,
   ⟨some 41, .mov (.t 45), none⟩,
   ⟨some 46, .ext (.t 41) 0, none⟩,
   ⟨some 47, .ext (.t 41) 1, none⟩,
   ⟨some 7, .mov (.t 46), none⟩,
   ⟨some 8, .mov (.t 47), none⟩] (some [2, 3, 5, 7, 8]))
 (.seq
 (.ops false [
   ⟨some 9, .mov (.k (.int 1)), none⟩,
   ⟨some 10, .mov (.k (.int 1)), none⟩] (some [2, 3, 5, 7, 8, 9, 10]))
 (.seq
 (.seq
 (.ops false [
   ⟨some 11, .mov (.k (.int 0)), none⟩] (some [2, 3, 5, 7, 8, 9, 10, 11]))
 (.block 0
  (.loop
   (.seq
   (.seq
   (.ops false [
     ⟨some 48, .mov (.t 11), none⟩,
     ⟨some 49, .mov (.t 7), none⟩,
     ⟨some 50, .len (.t 49), none⟩,
     ⟨some 51, .bin .lss (.t 48) (.t 50), none⟩] (some [2, 3, 5, 7, 8, 9, 10, 11, 51]))
   (.cond (.t 51)
    .skip
    (.exit 0)))
   (.seq
   (.block 1
    (.ops true [
      ⟨some 54, .mov (.t 9), none⟩,
      ⟨some 55, .mov (.t 7), none⟩,
      ⟨some 56, .mov (.t 11), none⟩,
      ⟨some 57, .idx 1 (.t 55) (.t 56), none⟩,
      ⟨some 58, .load 1 false (.t 57) [], none⟩,
      ⟨some 59, .bin .mul (.t 54) (.t 58), none⟩,
      ⟨some 60, .mov (.t 10), none⟩,
      ⟨some 61, .fld 0 (.t 2), none⟩,
      ⟨some 62, .load 1 false (.t 61) [], none⟩,
      ⟨some 63, .bin .mul (.t 60) (.t 62), none⟩,
      ⟨some 9, .mov (.t 59), none⟩,
      ⟨some 10, .mov (.t 63), none⟩] (some [2, 3, 5, 7, 8, 9, 10, 11])))
   (.ops false [
     ⟨some 52, .mov (.t 11), none⟩,
     ⟨some 53, .bin .add (.t 52) (.k (.int 1)), none⟩,
     ⟨some 11, .mov (.t 53), none⟩] (some [2, 3, 5, 7, 8, 9, 10, 11])))))))
 (.seq
 (.seq
 (.ops true [
   ⟨some 64, .mov (.t 8), none⟩,
   ⟨some 65, .mov (.t 7), none⟩,
   ⟨some 66, .len (.t 65), none⟩,
   ⟨some 67, .bin .eql (.t 64) (.t 66), none⟩,
   ⟨some 68, .mov (.t 67), none⟩,
   ⟨some 69, .load 2 true (.t 5) [], some (68, true)⟩,
   ⟨some 70, .mov (.t 9), some (68, true)⟩,
   ⟨some 71, .mov (.t 10), some (68, true)⟩,
   ⟨some 72, .call 29 [.t 70, .t 71], some (68, true)⟩,
   ⟨some 73, .bin (.sne 2) (.t 69) (.t 72), some (68, true)⟩,
   ⟨some 74, .pick (.t 68) (.t 73) (.k (.bool false)), none⟩,
   ⟨some 75, .mov (.t 74), none⟩,
   ⟨some 76, .mov (.t 8), some (75, false)⟩,
   ⟨some 77, .bin .eql (.t 76) (.k (.int 0)), some (75, false)⟩,
   ⟨some 78, .mov (.t 77), some (75, false)⟩,
   ⟨some 79, .load 2 true (.t 5) [], some (78, true)⟩,
   ⟨some 80, .build [.int 0, .int 0] [(0, 1, .k (.int 1)), (1, 1, .k (.int 1))], some (78, true)⟩,
   ⟨some 81, .bin (.sne 2) (.t 79) (.t 80), some (78, true)⟩,
   ⟨some 82, .pick (.t 78) (.t 81) (.k (.bool false)), some (75, false)⟩,
   ⟨some 83, .pick (.t 75) (.k (.bool true)) (.t 82), none⟩] (some [2, 3, 5, 83]))
 (.cond (.t 83)
  (.seq
  (.ops false [
    ⟨some 4, .mov (.k (.bool false)), none⟩] (some [4]))
  .ret)
  .skip))
 (.seq
 (.ops false [
   ⟨some 85, .load 5 true (.t 2) [], none⟩,
   ⟨some 86, .fld 0 (.t 3), none⟩,
   ⟨some 87, .load 1 false (.t 86) [], none⟩,
   ⟨some 88, .fld 1 (.t 3), none⟩,
   ⟨some 89, .load 1 false (.t 88) [], none⟩,
   ⟨some 90, .fld 2 (.t 3), none⟩,
   ⟨some 91, .load 1 false (.t 90) [], none⟩,
   ⟨some 92, .fld 3 (.t 3), none⟩,
   ⟨some 93, .load 1 false (.t 92) [], none⟩,
   ⟨some 94, .call 30 [.t 85, .t 87, .t 89, .t 91, .t 93], none⟩,
   ⟨some 84, .mov (.t 94), none⟩,
   ⟨some 95, .ext (.t 84) 0, none⟩,
   ⟨some 96, .ext (.t 84) 1, none⟩,
   ⟨some 12, .alloc 12 [.int 0, .sl 1 [] .full, .int 0, .sl 4 [] .full, .int 0], none⟩,
   ⟨none, .store 5 (.t 12) (.t 95) (some 12), none⟩,
   ⟨some 13, .mov (.t 96), none⟩] (some [3, 5, 12, 13]))
 (.seq
 (.seq
 (.ops false [
   ⟨some 97, .mov (.t 13), none⟩,
   ⟨some 98, .not (.t 97), none⟩] (some [3, 5, 12, 98]))
 (.cond (.t 98)
  (.seq
  (.ops false [
    ⟨some 99, .call 17 [], none⟩,
    ⟨some 4, .mov (.t 99), none⟩] (some [4]))
  .ret)
  .skip))
 (.seq
 (.ops false [
   ⟨some 101, .load 5 true (.t 12) [], none⟩,
   ⟨some 102, .fld 0 (.t 3), none⟩,
   ⟨some 103, .load 1 false (.t 102) [], none⟩,
   ⟨some 104, .call 26 [.t 101, .t 103], none⟩,
   ⟨some 100, .mov (.t 104), none⟩,
   ⟨some 105, .ext (.t 100) 0, none⟩,
   ⟨some 106, .ext (.t 100) 1, none⟩,
   ⟨some 14, .alloc 14 [.int 0, .int 0], none⟩,
   ⟨none, .store 2 (.t 14) (.t 105) (some 14), none⟩,
   ⟨some 15, .mov (.t 106), none⟩] (some [3, 5, 14, 15]))
 (.seq
 (.seq
 (.ops false [
   ⟨some 107, .mov (.t 15), none⟩,
   ⟨some 108, .bin .neq (.t 107) (.k (.int 0)), none⟩,
   ⟨some 109, .mov (.t 108), none⟩,
   ⟨some 110, .load 2 true (.t 14) [], some (109, false)⟩,
   ⟨some 111, .call 27 [.t 110], some (109, false)⟩,
   ⟨some 112, .not (.t 111), some (109, false)⟩,
   ⟨some 113, .pick (.t 109) (.k (.bool true)) (.t 112), none⟩] (some [3, 5, 14, 113]))
 (.cond (.t 113)
  (.seq
  (.ops false [
    ⟨some 4, .mov (.k (.bool false)), none⟩] (some [4]))
  .ret)
  .skip))
 (.seq
 (.seq
 (.ops false [
   ⟨some 114, .fld 3 (.t 3), none⟩,
   ⟨some 115, .load 1 false (.t 114) [], none⟩,
   ⟨some 116, .fld 1 (.t 3), none⟩,
   ⟨some 117, .load 1 false (.t 116) [], none⟩,
   ⟨some 118, .fld 2 (.t 3), none⟩,
   ⟨some 119, .load 1 false (.t 118) [], none⟩,
   ⟨some 120, .call 20 [.t 115, .t 117, .t 119], none⟩] (some [5, 14, 120]))
 (.cond (.t 120)
  (.seq
  (.ops false [
    ⟨some 121, .fld 0 (.t 14), none⟩,
    ⟨some 122, .load 1 false (.t 121) [], none⟩,
    ⟨some 123, .fld 1 (.t 5), none⟩,
    ⟨some 124, .load 1 false (.t 123) [], none⟩,
    ⟨some 125, .bin .mul (.t 122) (.t 124), none⟩,
    ⟨some 126, .fld 0 (.t 5), none⟩,
    ⟨some 127, .load 1 false (.t 126) [], none⟩,
    ⟨some 128, .fld 1 (.t 14), none⟩,
    ⟨some 129, .load 1 false (.t 128) [], none⟩,
    ⟨some 130, .bin .mul (.t 127) (.t 129), none⟩,
    ⟨some 131, .bin .leq (.t 125) (.t 130), none⟩,
    ⟨some 132, .mov (.t 131), none⟩,
    ⟨some 133, .call 17 [], some (132, true)⟩,
    ⟨some 134, .pick (.t 132) (.t 133) (.k (.bool false)), none⟩,
    ⟨some 4, .mov (.t 134), none⟩] (some [4]))
  .ret)
  .skip))
 (.seq
 (.ops false [
   ⟨some 135, .fld 0 (.t 14), none⟩,
   ⟨some 136, .load 1 false (.t 135) [], none⟩,
   ⟨some 137, .fld 1 (.t 5), none⟩,
   ⟨some 138, .load 1 false (.t 137) [], none⟩,
   ⟨some 139, .bin .mul (.t 136) (.t 138), none⟩,
   ⟨some 140, .fld 0 (.t 5), none⟩,
   ⟨some 141, .load 1 false (.t 140) [], none⟩,
   ⟨some 142, .fld 1 (.t 14), none⟩,
   ⟨some 143, .load 1 false (.t 142) [], none⟩,
   ⟨some 144, .bin .mul (.t 141) (.t 143), none⟩,
   ⟨some 145, .bin .geq (.t 139) (.t 144), none⟩,
   ⟨some 146, .mov (.t 145), none⟩,
   ⟨some 147, .call 17 [], some (146, true)⟩,
   ⟨some 148, .pick (.t 146) (.t 147) (.k (.bool false)), none⟩,
   ⟨some 4, .mov (.t 148), none⟩] (some [4]))
 .ret))))))))))))))

theorem m4 : fmatch Try.prog Try.f4 2 [.tmp 4] v4 = true := by kernel_rfl

/-- steening/steeninglaw04.DowsersPurse -/
def v5 : VC :=
 (.seq
 (.ops false [
   ⟨some 3, .box 3 5 (.t 0), none⟩,
   ⟨some 6, .mov (.k (.bool false)), none⟩] (some [1, 2, 3]))
 (.seq
 (.seq
 (.ops false [
   ⟨some 15, .load 5 true (.t 3) [], none⟩,
   ⟨some 16, .call 25 [.t 15], none⟩,
   ⟨some 17, .not (.t 16), none⟩,
   ⟨some 18, .mov (.t 17), none⟩,
   ⟨some 19, .load 5 true (.t 3) [], some (18, false)⟩,
   ⟨some 20, .mov (.t 1), some (18, false)⟩,
   ⟨some 21, .call 16 [.t 19, .t 20], some (18, false)⟩,
   ⟨some 22, .not (.t 21), some (18, false)⟩,
   ⟨some 23, .pick (.t 18) (.k (.bool true)) (.t 22), none⟩,
   ⟨some 24, .mov (.t 23), none⟩,
   ⟨some 25, .load 5 true (.t 3) [], some (24, false)⟩,
   ⟨some 26, .mov (.t 2), some (24, false)⟩,
   ⟨some 27, .call 16 [.t 25, .t 26], some (24, false)⟩,
   ⟨some 28, .not (.t 27), some (24, false)⟩,
   ⟨some 29, .pick (.t 24) (.k (.bool true)) (.t 28), none⟩] (some [1, 2, 3, 29]))
 (.cond (.t 29)
  (.seq
  (.ops false [
    ⟨some 30, .call 17 [], none⟩,
    ⟨some 6, .mov (.t 30), none⟩] (some [6]))
  .ret)
  .skip))
 (.seq
 (.ops false [
   ⟨some 32, .load 5 true (.t 3) [], none⟩,
   ⟨some 33, .call 31 [.t 32], none⟩,
   ⟨some 31, .mov (.t 33), none⟩,
   ⟨some 34, .ext (.t 31) 0, none⟩,
   ⟨some 35, .ext (.t 31) 1, none⟩,
   ⟨some 7, .mov (.t 34), none⟩,
   ⟨some 8, .mov (.t 35), none⟩] (some [1, 2, 3, 7, 8]))
 (.seq
 (.seq
 (.ops false [
   ⟨some 36, .mov (.t 8), none⟩,
   ⟨some 37, .bin .neq (.t 36) (.k (.int 0)), none⟩,
   ⟨some 38, .mov (.t 37), none⟩,
   ⟨some 39, .mov (.t 7), some (38, false)⟩,
   ⟨some 40, .len (.t 39), some (38, false)⟩,
   ⟨some 41, .fld 2 (.t 3), some (38, false)⟩,
   ⟨some 42, .load 1 false (.t 41) [], some (38, false)⟩,
   ⟨some 43, .bin .neq (.t 40) (.t 42), some (38, false)⟩,
   ⟨some 44, .pick (.t 38) (.k (.bool true)) (.t 43), none⟩] (some [1, 2, 3, 7, 44]))
 (.cond (.t 44)
  (.seq
  (.ops false [
    ⟨some 6, .mov (.k (.bool false)), none⟩] (some [6]))
  .ret)
  .skip))
 (.seq
 (.ops false [
   ⟨some 9, .mov (.k (.int 0)), none⟩,
   ⟨some 10, .mov (.k (.int 0)), none⟩] (some [1, 2, 3, 7, 9, 10]))
 (.seq
 (.seq
 (.ops false [
   ⟨some 11, .mov (.k (.int 0)), none⟩] (some [1, 2, 3, 7, 9, 10, 11]))
 (.block 0
  (.loop
   (.seq
   (.seq
   (.ops false [
     ⟨some 45, .mov (.t 11), none⟩,
     ⟨some 46, .fld 2 (.t 3), none⟩,
     ⟨some 47, .load 1 false (.t 46) [], none⟩,
     ⟨some 48, .bin .lss (.t 45) (.t 47), none⟩] (some [1, 2, 3, 7, 9, 10, 11, 48]))
   (.cond (.t 48)
    .skip
    (.exit 0)))
   (.seq
   (.block 1
    (.seq
    (.seq
    (.ops true [
      ⟨some 51, .mov (.t 7), none⟩,
      ⟨some 52, .mov (.t 11), none⟩,
      ⟨some 53, .idx 1 (.t 51) (.t 52), none⟩,
      ⟨some 54, .load 1 false (.t 53) [], none⟩,
      ⟨some 55, .bin .lss (.t 54) (.k (.int 0)), none⟩,
      ⟨some 56, .mov (.t 55), none⟩,
      ⟨some 57, .mov (.t 7), some (56, false)⟩,
      ⟨some 58, .mov (.t 11), some (56, false)⟩,
      ⟨some 59, .idx 1 (.t 57) (.t 58), some (56, false)⟩,
      ⟨some 60, .load 1 false (.t 59) [], some (56, false)⟩,
      ⟨some 61, .fld 4 (.t 3), some (56, false)⟩,
      ⟨some 62, .load 1 false (.t 61) [], some (56, false)⟩,
      ⟨some 63, .bin .gtr (.t 60) (.t 62), some (56, false)⟩,
      ⟨some 64, .pick (.t 56) (.k (.bool true)) (.t 63), none⟩] (some [1, 2, 3, 7, 9, 10, 11, 64]))
    (.cond (.t 64)
     (.seq
     (.ops false [
       ⟨some 6, .mov (.k (.bool false)), none⟩] (some [6]))
     .ret)
     .skip))
    (.seq
    (.ops false [
      ⟨some 65, .mov (.t 9), none⟩,
      ⟨some 66, .mov (.t 7), none⟩,
      ⟨some 67, .mov (.t 11), none⟩,
      ⟨some 68, .idx 1 (.t 66) (.t 67), none⟩,
      ⟨some 69, .load 1 false (.t 68) [], none⟩,
      ⟨some 70, .bin .add (.t 65) (.t 69), none⟩,
      ⟨some 9, .mov (.t 70), none⟩] (some [1, 2, 3, 7, 9, 10, 11]))
    (.ops false [
      ⟨some 71, .mov (.t 10), none⟩,
      ⟨some 72, .load 5 true (.t 3) [], none⟩,
      ⟨some 73, .mov (.t 11), none⟩,
      ⟨some 74, .fld 1 (.t 3), none⟩,
      ⟨some 75, .load 1 false (.t 74) [], none⟩,
      ⟨some 76, .call 32 [.t 72, .t 73, .t 75], none⟩,
      ⟨some 77, .max (.k (.int 0)) (.t 76), none⟩,
      ⟨some 78, .bin .add (.t 71) (.t 77), none⟩,
      ⟨some 10, .mov (.t 78), none⟩] (some [1, 2, 3, 7, 9, 10, 11])))))
   (.ops false [
     ⟨some 49, .mov (.t 11), none⟩,
     ⟨some 50, .bin .add (.t 49) (.k (.int 1)), none⟩,
     ⟨some 11, .mov (.t 50), none⟩] (some [1, 2, 3, 7, 9, 10, 11])))))))
 (.seq
 (.seq
 (.ops false [
   ⟨some 79, .mov (.t 10), none⟩,
   ⟨some 80, .bin .eql (.t 79) (.k (.int 0)), none⟩] (some [1, 2, 3, 7, 9, 10, 80]))
 (.cond (.t 80)
  (.seq
  (.ops false [
    ⟨some 81, .mov (.t 9), none⟩,
    ⟨some 82, .bin .eql (.t 81) (.k (.int 0)), none⟩,
    ⟨some 83, .mov (.t 82), none⟩,
    ⟨some 84, .call 17 [], some (83, true)⟩,
    ⟨some 85, .pick (.t 83) (.t 84) (.k (.bool false)), none⟩,
    ⟨some 6, .mov (.t 85), none⟩] (some [6]))
  .ret)
  .skip))
 (.seq
 (.ops true [
   ⟨some 86, .load 5 true (.t 3) [], none⟩,
   ⟨some 87, .mov (.t 1), none⟩,
   ⟨some 88, .fld 1 (.t 3), none⟩,
   ⟨some 89, .load 1 false (.t 88) [], none⟩,
   ⟨some 90, .call 32 [.t 86, .t 87, .t 89], none⟩,
   ⟨some 91, .load 5 true (.t 3) [], none⟩,
   ⟨some 92, .mov (.t 2), none⟩,
   ⟨some 93, .fld 1 (.t 3), none⟩,
   ⟨some 94, .load 1 false (.t 93) [], none⟩,
   ⟨some 95, .call 32 [.t 91, .t 92, .t 94], none⟩,
   ⟨some 12, .mov (.t 90), none⟩,
   ⟨some 13, .mov (.t 95), none⟩] (some [1, 2, 3, 7, 9, 10, 12, 13]))
 (.seq
 (.ops false [
   ⟨some 96, .fld 4 (.t 3), none⟩,
   ⟨some 97, .load 1 false (.t 96) [], none⟩,
   ⟨some 98, .mov (.t 12), none⟩,
   ⟨some 99, .max (.k (.int 0)) (.t 98), none⟩,
   ⟨some 100, .bin .mul (.t 97) (.t 99), none⟩,
   ⟨some 101, .mov (.t 10), none⟩,
   ⟨some 102, .bin .quo (.t 100) (.t 101), none⟩,
   ⟨some 14, .mov (.t 102), none⟩] (some [1, 2, 3, 7, 9, 12, 13, 14]))
 (.seq
 (.ops true [
   ⟨some 103, .mov (.t 9), none⟩,
   ⟨some 104, .fld 4 (.t 3), none⟩,
   ⟨some 105, .load 1 false (.t 104) [], none⟩,
   ⟨some 106, .bin .eql (.t 103) (.t 105), none⟩,
   ⟨some 107, .mov (.t 106), none⟩,
   ⟨some 108, .mov (.t 12), some (107, true)⟩,
   ⟨some 109, .mov (.t 13), some (107, true)⟩,
   ⟨some 110, .bin .leq (.t 108) (.t 109), some (107, true)⟩,
   ⟨some 111, .mov (.t 110), some (107, true)⟩,
   ⟨some 112, .mov (.t 7), some (111, false)⟩,
   ⟨some 113, .mov (.t 1), some (111, false)⟩,
   ⟨some 114, .idx 1 (.t 112) (.t 113), some (111, false)⟩,
   ⟨some 115, .load 1 false (.t 114) [], some (111, false)⟩,
   ⟨some 116, .mov (.t 7), some (111, false)⟩,
   ⟨some 117, .mov (.t 2), some (111, false)⟩,
   ⟨some 118, .idx 1 (.t 116) (.t 117), some (111, false)⟩,
   ⟨some 119, .load 1 false (.t 118) [], some (111, false)⟩,
   ⟨some 120, .bin .geq (.t 115) (.t 119), some (111, false)⟩,
   ⟨some 121, .pick (.t 111) (.k (.bool true)) (.t 120), some (107, true)⟩,
   ⟨some 122, .pick (.t 107) (.t 121) (.k (.bool false)), none⟩,
   ⟨some 123, .mov (.t 122), none⟩,
   ⟨some 124, .mov (.t 7), some (123, true)⟩,
   ⟨some 125, .mov (.t 1), some (123, true)⟩,
   ⟨some 126, .idx 1 (.t 124) (.t 125), some (123, true)⟩,
   ⟨some 127, .load 1 false (.t 126) [], some (123, true)⟩,
   ⟨some 128, .mov (.t 14), some (123, true)⟩,
   ⟨some 129, .bin .eql (.t 127) (.t 128), some (123, true)⟩,
   ⟨some 130, .mov (.t 129), some (123, true)⟩,
   ⟨some 131, .mov (.t 7), some (130, false)⟩,
   ⟨some 132, .mov (.t 1), some (130, false)⟩,
   ⟨some 133, .idx 1 (.t 131) (.t 132), some (130, false)⟩,
   ⟨some 134, .load 1 false (.t 133) [], some (130, false)⟩,
   ⟨some 135, .mov (.t 14), some (130, false)⟩,
   ⟨some 136, .bin .add (.t 135) (.k (.int 1)), some (130, false)⟩,
   ⟨some 137, .bin .eql (.t 134) (.t 136), some (130, false)⟩,
   ⟨some 138, .mov (.t 137), some (130, false)⟩,
   ⟨some 139, .mov (.t 12), some (138, true)⟩,
   ⟨some 140, .bin .gtr (.t 139) (.k (.int 0)), some (138, true)⟩,
   ⟨some 141, .pick (.t 138) (.t 140) (.k (.bool false)), some (130, false)⟩,
   ⟨some 142, .pick (.t 130) (.k (.bool true)) (.t 141), some (123, true)⟩,
   ⟨some 143, .pick (.t 123) (.t 142) (.k (.bool false)), none⟩,
   ⟨some 144, .mov (.t 143), none⟩,
   ⟨some 145, .call 17 [], some (144, true)⟩,
   ⟨some 146, .pick (.t 144) (.t 145) (.k (.bool false)), none⟩,
   ⟨some 6, .mov (.t 146), none⟩] (some [6]))
 .ret))))))))))

theorem m5 : fmatch Try.prog Try.f5 3 [.tmp 6] v5 = true := by kernel_rfl

/-- steening/steeninglaw04.DowsersScore -/
def v6 : VC :=
 (.seq
 (.ops false [
   ⟨some 2, .box 2 5 (.t 0), none⟩,
   ⟨some 4, .mov (.k (.bool false)), none⟩] (some [1, 2]))
 (.seq
 (.seq
 (.ops false [
   ⟨some 18, .load 5 true (.t 2) [], none⟩,
   ⟨some 19, .call 33 [.t 18], none⟩] (some [1, 2, 19]))
 (.cond (.t 19)
  (.seq
  (.ops false [
    ⟨some 20, .call 17 [], none⟩,
    ⟨some 4, .mov (.t 20), none⟩] (some [4]))
  .ret)
  .skip))
 (.seq
 (.ops false [
   ⟨some 21, .load 5 true (.t 2) [], none⟩,
   ⟨some 22, .call 22 [.t 21], none⟩,
   ⟨some 5, .alloc 5 [.int 0, .sl 1 [] .full, .int 0, .sl 4 [] .full, .int 0], none⟩,
   ⟨none, .store 5 (.t 5) (.t 22) (some 5), none⟩] (some [1, 2, 5]))
 (.seq
 (.ops false [
   ⟨some 24, .load 5 true (.t 5) [], none⟩,
   ⟨some 25, .mov (.t 1), none⟩,
   ⟨some 26, .call 23 [.t 24, .t 25], none⟩,
   ⟨some 23, .mov (.t 26), none⟩,
   ⟨some 27, .ext (.t 23) 0, none⟩,
   ⟨some 28, .ext (.t 23) 1, none⟩,
   ⟨some 6, .mov (.t 27), none⟩,
   ⟨some 7, .mov (.t 28), none⟩] (some [1, 2, 5, 6, 7]))
 (.seq
 (.ops false [
   ⟨some 30, .load 5 true (.t 2) [], none⟩,
   ⟨some 31, .mov (.t 1), none⟩,
   ⟨some 32, .call 34 [.t 30, .t 31], none⟩,
   ⟨some 29, .mov (.t 32), none⟩,
   ⟨some 33, .ext (.t 29) 0, none⟩,
   ⟨some 34, .ext (.t 29) 1, none⟩,
   ⟨some 8, .mov (.t 33), none⟩,
   ⟨some 9, .mov (.t 34), none⟩] (some [2, 5, 6, 7, 8, 9]))
 (.seq
 (.ops false [
   ⟨some 36, .load 5 true (.t 5) [], none⟩,
   ⟨some 37, .call 35 [.t 36], none⟩,
   ⟨some 35, .mov (.t 37), none⟩,
   ⟨some 38, .ext (.t 35) 0, none⟩,
   ⟨some 39, .ext (.t 35) 1, none⟩,
   ⟨some 10, .mov (.t 38), none⟩,
   ⟨some 11, .mov (.t 39), none⟩] (some [2, 5, 6, 7, 8, 9, 10, 11]))
 (.seq
 (.ops false [
   ⟨some 41, .load 5 true (.t 2) [], none⟩,
   ⟨some 42, .call 36 [.t 41], none⟩,
   ⟨some 40, .mov (.t 42), none⟩,
   ⟨some 43, .ext (.t 40) 0, none⟩,
   ⟨some 44, .ext (.t 40) 1, none⟩,
   ⟨some 12, .mov (.t 43), none⟩,
   ⟨some 13, .mov (.t 44), none⟩] (some [2, 5, 6, 7, 8, 9, 10, 11, 12, 13]))
 (.seq
 (.ops false [
   ⟨some 46, .load 5 true (.t 5) [], none⟩,
   ⟨some 47, .call 31 [.t 46], none⟩,
   ⟨some 45, .mov (.t 47), none⟩,
   ⟨some 48, .ext (.t 45) 0, none⟩,
   ⟨some 49, .ext (.t 45) 1, none⟩,
   ⟨some 14, .mov (.t 48), none⟩,
   ⟨some 15, .mov (.t 49), none⟩] (some [2, 5, 6, 7, 8, 9, 10, 11, 12, 13, 14, 15]))
 (.seq
 (.ops false [
   ⟨some 51, .load 5 true (.t 2) [], none⟩,
   ⟨some 52, .call 37 [.t 51], none⟩,
   ⟨some 50, .mov (.t 52), none⟩,
   ⟨some 53, .ext (.t 50) 0, none⟩,
   ⟨some 54, .ext (.t 50) 1, none⟩,
   ⟨some 16, .mov (.t 53), none⟩,
   ⟨some 17, .mov (.t 54), none⟩] (some [2, 5, 6, 7, 8, 9, 10, 11, 12, 13, 14, 15, 16, 17]))
 (.seq
 (.ops false [
   ⟨some 55, .mov (.t 6), none⟩,
   ⟨some 56, .mov (.t 8), none⟩,
   ⟨some 57, .bin .eql (.t 55) (.t 56), none⟩,
   ⟨some 58, .mov (.t 57), none⟩,
   ⟨some 59, .mov (.t 7), some (58, true)⟩,
   ⟨some 60, .mov (.t 9), some (58, true)⟩,
   ⟨some 61, .bin .eql (.t 59) (.t 60), some (58, true)⟩,
   ⟨some 62, .pick (.t 58) (.t 61) (.k (.bool false)), none⟩,
   ⟨some 63, .mov (.t 62), none⟩,
   ⟨some 64, .mov (.t 10), some (63, true)⟩,
   ⟨some 65, .mov (.t 12), some (63, true)⟩,
   ⟨some 66, .call 38 [.t 64, .t 65], some (63, true)⟩,
   ⟨some 67, .pick (.t 63) (.t 66) (.k (.bool false)), none⟩,
   ⟨some 68, .mov (.t 67), none⟩,
   ⟨some 69, .mov (.t 11), some (68, true)⟩,
   ⟨some 70, .mov (.t 13), some (68, true)⟩,
   ⟨some 71, .bin .eql (.t 69) (.t 70), some (68, true)⟩,
   ⟨some 72, .pick (.t 68) (.t 71) (.k (.bool false)), none⟩,
   ⟨some 73, .mov (.t 72), none⟩,
   ⟨some 74, .mov (.t 14), some (73, true)⟩,
   ⟨some 75, .mov (.t 16), some (73, true)⟩,
   ⟨some 76, .call 38 [.t 74, .t 75], some (73, true)⟩,
   ⟨some 77, .pick (.t 73) (.t 76) (.k (.bool false)), none⟩,
   ⟨some 78, .mov (.t 77), none⟩,
   ⟨some 79, .mov (.t 15), some (78, true)⟩,
   ⟨some 80, .mov (.t 17), some (78, true)⟩,
   ⟨some 81, .bin .eql (.t 79) (.t 80), some (78, true)⟩,
   ⟨some 82, .pick (.t 78) (.t 81) (.k (.bool false)), none⟩,
   ⟨some 83, .mov (.t 82), none⟩,
   ⟨some 84, .load 5 true (.t 5) [], some (83, true)⟩,
   ⟨some 85, .load 5 true (.t 2) [], some (83, true)⟩,
   ⟨some 86, .call 39 [.t 84, .t 85], some (83, true)⟩,
   ⟨some 87, .pick (.t 83) (.t 86) (.k (.bool false)), none⟩,
   ⟨some 88, .mov (.t 87), none⟩,
   ⟨some 89, .call 17 [], some (88, true)⟩,
   ⟨some 90, .pick (.t 88) (.t 89) (.k (.bool false)), none⟩,
   ⟨some 4, .mov (.t 90), none⟩] (some [4]))
 .ret))))))))))

theorem m6 : fmatch Try.prog Try.f6 2 [.tmp 4] v6 = true := by kernel_rfl

/-- steening/steeninglaw04.DowsersMany -/
def v7 : VC :=
 (.seq
 (.ops false [
   ⟨some 2, .box 2 5 (.t 0), none⟩,
   ⟨some 3, .box 3 3 (.t 1), none⟩,
   ⟨some 4, .mov (.k (.bool false)), none⟩] (some [2, 3]))
 (.seq
 (.seq
 (.ops false [
   ⟨some 17, .load 5 true (.t 2) [], none⟩,
   ⟨some 18, .call 25 [.t 17], none⟩,
   ⟨some 19, .not (.t 18), none⟩,
   ⟨some 20, .mov (.t 19), none⟩,
   ⟨some 21, .load 5 true (.t 2) [], some (20, false)⟩,
   ⟨some 22, .fld 0 (.t 3), some (20, false)⟩,
   ⟨some 23, .load 1 false (.t 22) [], some (20, false)⟩,
   ⟨some 24, .call 16 [.t 21, .t 23], some (20, false)⟩,
   ⟨some 25, .not (.t 24), some (20, false)⟩,
   ⟨some 26, .pick (.t 20) (.k (.bool true)) (.t 25), none⟩,
   ⟨some 27, .mov (.t 26), none⟩,
   ⟨some 28, .fld 2 (.t 3), some (27, false)⟩,
   ⟨some 29, .load 1 false (.t 28) [], some (27, false)⟩,
   ⟨some 30, .call 40 [.t 29], some (27, false)⟩,
   ⟨some 31, .not (.t 30), some (27, false)⟩,
   ⟨some 32, .pick (.t 27) (.k (.bool true)) (.t 31), none⟩,
   ⟨some 33, .mov (.t 32), none⟩,
   ⟨some 34, .fld 1 (.t 3), some (33, false)⟩,
   ⟨some 35, .load 1 false (.t 34) [], some (33, false)⟩,
   ⟨some 36, .fld 0 (.t 2), some (33, false)⟩,
   ⟨some 37, .load 1 false (.t 36) [], some (33, false)⟩,
   ⟨some 38, .call 20 [.t 35, .k (.int 1), .t 37], some (33, false)⟩,
   ⟨some 39, .not (.t 38), some (33, false)⟩,
   ⟨some 40, .pick (.t 33) (.k (.bool true)) (.t 39), none⟩] (some [2, 3, 40]))
 (.cond (.t 40)
  (.seq
  (.ops false [
    ⟨some 41, .call 17 [], none⟩,
    ⟨some 4, .mov (.t 41), none⟩] (some [4]))
  .ret)
  .skip))
 (.seq
 (.ops false [
   ⟨some 43, .load 5 true (.t 2) [], none⟩,
   ⟨some 44, .fld 0 (.t 3), none⟩,
   ⟨some 45, .load 1 false (.t 44) [], none⟩,
   ⟨some 46, .fld 1 (.t 3), none⟩,
   ⟨some 47, .load 1 false (.t 46) [], none⟩,
   ⟨some 48, .fld 2 (.t 3), none⟩,
   ⟨some 49, .load 1 false (.t 48) [], none⟩,
   ⟨some 50, .call 41 [.t 43, .t 45, .t 47, .t 49], none⟩,
   ⟨some 42, .mov (.t 50), none⟩,
   ⟨some 51, .ext (.t 42) 0, none⟩,
   ⟨some 52, .ext (.t 42) 1, none⟩,
   ⟨some 5, .mov (.t 51), none⟩,
   ⟨some 6, .mov (.t 52), none⟩] (some [2, 3, 5, 6]))
 (.seq
 (.ops false [
   ⟨some 54, .load 5 true (.t 2) [], none⟩,
   ⟨some 55, .fld 0 (.t 3), none⟩,
   ⟨some 56, .load 1 false (.t 55) [], none⟩,
   ⟨some 57, .fld 2 (.t 3), none⟩,
   ⟨some 58, .load 1 false (.t 57) [], none⟩,
   ⟨some 59, .call 42 [.t 54, .t 56, .t 58], none⟩,
   ⟨some 53, .mov (.t 59), none⟩,
   ⟨some 60, .ext (.t 53) 0, none⟩,
   ⟨some 61, .ext (.t 53) 1, none⟩,
   ⟨some 7, .mov (.t 60), none⟩,
   ⟨some 8, .mov (.t 61), none⟩] (some [2, 3, 5, 6, 7, 8]))
 (.seq
 (.ops false [
   ⟨some 63, .load 5 true (.t 2) [], none⟩,
   ⟨some 64, .fld 0 (.t 3), none⟩,
   ⟨some 65, .load 1 false (.t 64) [], none⟩,
   ⟨some 66, .call 26 [.t 63, .t 65], none⟩,
   ⟨some 62, .mov (.t 66), none⟩,
   ⟨some 67, .ext (.t 62) 0, none⟩,
   ⟨some 68, .ext (.t 62) 1, none⟩,
   ⟨some 9, .alloc 9 [.int 0, .int 0], none⟩,
   ⟨none, .store 2 (.t 9) (.t 67) (some 9), none⟩,
   ⟨some 10, .mov (.t 68), none⟩] (some [2, 3, 5, 6, 7, 8, 9, 10]))
 (.seq
 (.seq
 (.ops false [
   ⟨some 69, .mov (.t 6), none⟩,
   ⟨some 70, .bin .neq (.t 69) (.k (.int 0)), none⟩,
   ⟨some 71, .mov (.t 70), none⟩,
   ⟨some 72, .mov (.t 6), some (71, true)⟩,
   ⟨some 73, .bin .neq (.t 72) (.k (.int 2)), some (71, true)⟩,
   ⟨some 74, .pick (.t 71) (.t 73) (.k (.bool false)), none⟩,
   ⟨some 75, .mov (.t 74), none⟩,
   ⟨some 76, .mov (.t 8), some (75, false)⟩,
   ⟨some 77, .bin .neq (.t 76) (.k (.int 0)), some (75, false)⟩,
   ⟨some 78, .pick (.t 75) (.k (.bool true)) (.t 77), none⟩,
   ⟨some 79, .mov (.t 78), none⟩,
   ⟨some 80, .mov (.t 10), some (79, false)⟩,
   ⟨some 81, .bin .neq (.t 80) (.k (.int 0)), some (79, false)⟩,
   ⟨some 82, .pick (.t 79) (.k (.bool true)) (.t 81), none⟩,
   ⟨some 83, .mov (.t 82), none⟩,
   ⟨some 84, .load 2 true (.t 9) [], some (83, false)⟩,
   ⟨some 85, .call 27 [.t 84], some (83, false)⟩,
   ⟨some 86, .not (.t 85), some (83, false)⟩,
   ⟨some 87, .pick (.t 83) (.k (.bool true)) (.t 86), none⟩,
   ⟨some 88, .mov (.t 87), none⟩,
   ⟨some 89, .mov (.t 7), some (88, false)⟩,
   ⟨some 90, .mov (.t 6), some (88, false)⟩,
   ⟨some 91, .bin .eql (.t 90) (.k (.int 0)), some (88, false)⟩,
   ⟨some 92, .mov (.t 91), some (88, false)⟩,
   ⟨some 93, .mov (.t 5), some (92, true)⟩,
   ⟨some 94, .bin .eql (.t 93) (.k (.int 0)), some (92, true)⟩,
   ⟨some 95, .pick (.t 92) (.t 94) (.k (.bool false)), some (88, false)⟩,
   ⟨some 96, .bin .bne (.t 89) (.t 95), some (88, false)⟩,
   ⟨some 97, .pick (.t 88) (.k (.bool true)) (.t 96), none⟩,
   ⟨some 98, .mov (.t 97), none⟩,
   ⟨some 99, .mov (.t 7), some (98, false)⟩,
   ⟨some 100, .load 2 true (.t 9) [], some (98, false)⟩,
   ⟨some 101, .fld 2 (.t 3), some (98, false)⟩,
   ⟨some 102, .load 1 false (.t 101) [], some (98, false)⟩,
   ⟨some 103, .call 43 [.t 100, .t 102], some (98, false)⟩,
   ⟨some 104, .bin .bne (.t 99) (.t 103), some (98, false)⟩,
   ⟨some 105, .pick (.t 98) (.k (.bool true)) (.t 104), none⟩,
   ⟨some 106, .mov (.t 105), none⟩,
   ⟨some 107, .mov (.t 5), some (106, false)⟩,
   ⟨some 108, .bin .lss (.t 107) (.k (.int 0)), some (106, false)⟩,
   ⟨some 109, .pick (.t 106) (.k (.bool true)) (.t 108), none⟩,
   ⟨some 110, .mov (.t 109), none⟩,
   ⟨some 111, .mov (.t 5), some (110, false)⟩,
   ⟨some 112, .bin .gtr (.t 111) (.k (.int 6)), some (110, false)⟩,
   ⟨some 113, .pick (.t 110) (.k (.bool true)) (.t 112), none⟩] (some [2, 3, 5, 6, 113]))
 (.cond (.t 113)
  (.seq
  (.ops false [
    ⟨some 4, .mov (.k (.bool false)), none⟩] (some [4]))
  .ret)
  .skip))
 (.seq
 (.ops false [
   ⟨some 114, .load 5 true (.t 2) [], none⟩,
   ⟨some 11, .alloc 11 [.int 0, .sl 1 [] .full, .int 0, .sl 4 [] .full, .int 0], none⟩,
   ⟨none, .store 5 (.t 11) (.t 114) (some 11), none⟩] (some [3, 5, 6, 11]))
 (.seq
 (.seq
 (.ops false [
   ⟨some 12, .mov (.k (.int 0)), none⟩] (some [3, 5, 6, 11, 12]))
 (.block 0
  (.loop
   (.seq
   (.seq
   (.ops false [
     ⟨some 115, .mov (.t 12), none⟩,
     ⟨some 116, .bin .leq (.t 115) (.k (.int 6)), none⟩] (some [3, 5, 6, 11, 12, 116]))
   (.cond (.t 116)
    .skip
    (.exit 0)))
   (.seq
   (.block 1
    (.seq
    (.ops false [
      ⟨some 120, .load 5 true (.t 11) [], none⟩,
      ⟨some 121, .fld 0 (.t 3), none⟩,
      ⟨some 122, .load 1 false (.t 121) [], none⟩,
      ⟨some 123, .fld 2 (.t 3), none⟩,
      ⟨some 124, .load 1 false (.t 123) [], none⟩,
      ⟨some 125, .call 42 [.t 120, .t 122, .t 124], none⟩,
      ⟨some 119, .mov (.t 125), none⟩,
      ⟨some 126, .ext (.t 119) 0, none⟩,
      ⟨some 127, .ext (.t 119) 1, none⟩,
      ⟨some 13, .mov (.t 126), none⟩,
      ⟨some 14, .mov (.t 127), none⟩] (some [3, 5, 6, 11, 12, 13, 14]))
    (.seq
    (.seq
    (.ops false [
      ⟨some 128, .mov (.t 14), none⟩,
      ⟨some 129, .bin .neq (.t 128) (.k (.int 0)), none⟩,
      ⟨some 130, .mov (.t 129), none⟩,
      ⟨some 131, .mov (.t 13), some (130, false)⟩,
      ⟨some 132, .mov (.t 6), some (130, false)⟩,
      ⟨some 133, .bin .eql (.t 132) (.k (.int 0)), some (130, false)⟩,
      ⟨some 134, .mov (.t 133), some (130, false)⟩,
      ⟨some 135, .mov (.t 12), some (134, true)⟩,
      ⟨some 136, .mov (.t 5), some (134, true)⟩,
      ⟨some 137, .bin .geq (.t 135) (.t 136), some (134, true)⟩,
      ⟨some 138, .pick (.t 134) (.t 137) (.k (.bool false)), some (130, false)⟩,
      ⟨some 139, .bin .bne (.t 131) (.t 138), some (130, false)⟩,
      ⟨some 140, .pick (.t 130) (.k (.bool true)) (.t 139), none⟩] (some [3, 5, 6, 11, 12, 140]))
    (.cond (.t 140)
     (.seq
     (.ops false [
       ⟨some 4, .mov (.k (.bool false)), none⟩] (some [4]))
     .ret)
     .skip))
    (.seq
    (.ops false [
      ⟨some 142, .load 5 true (.t 11) [], none⟩,
      ⟨some 143, .fld 0 (.t 3), none⟩,
      ⟨some 144, .load 1 false (.t 143) [], none⟩,
      ⟨some 145, .fld 1 (.t 3), none⟩,
      ⟨some 146, .load 1 false (.t 145) [], none⟩,
      ⟨some 147, .call 30 [.t 142, .t 144, .k (.int 1), .t 146, .k (.int 1)], none⟩,
      ⟨some 141, .mov (.t 147), none⟩,
      ⟨some 148, .ext (.t 141) 0, none⟩,
      ⟨some 149, .ext (.t 141) 1, none⟩,
      ⟨some 15, .alloc 15 [.int 0, .sl 1 [] .full, .int 0, .sl 4 [] .full, .int 0], none⟩,
      ⟨none, .store 5 (.t 15) (.t 148) (some 15), none⟩,
      ⟨some 16, .mov (.t 149), none⟩] (some [3, 5, 6, 11, 12, 15, 16]))
    (.seq
    (.seq
    (.ops false [
      ⟨some 150, .mov (.t 16), none⟩,
      ⟨some 151, .not (.t 150), none⟩] (some [3, 5, 6, 11, 12, 15, 151]))
    (.cond (.t 151)
     (.exit 0)
     .skip))
    (.ops false [
      ⟨some 152, .load 5 true (.t 15) [], none⟩,
      ⟨none, .store 5 (.t 11) (.t 152) (some 11), none⟩] (some [3, 5, 6, 11, 12])))))))
   (.ops false [
     ⟨some 117, .mov (.t 12), none⟩,
     ⟨some 118, .bin .add (.t 117) (.k (.int 1)), none⟩,
     ⟨some 12, .mov (.t 118), none⟩] (some [3, 5, 6, 11, 12])))))))
 (.seq
 (.ops false [
   ⟨some 153, .call 17 [], none⟩,
   ⟨some 4, .mov (.t 153), none⟩] (some [4]))
 .ret)))))))))

theorem m7 : fmatch Try.prog Try.f7 2 [.tmp 4] v7 = true := by kernel_rfl

/-- steening/steeninglaw04.DowsersChance -/
def v8 : VC :=
 (.seq
 (.ops false [
   ⟨some 2, .box 2 5 (.t 0), none⟩,
   ⟨some 3, .box 3 3 (.t 1), none⟩,
   ⟨some 4, .mov (.k (.bool false)), none⟩] (some [2, 3]))
 (.seq
 (.seq
 (.ops false [
   ⟨some 18, .load 5 true (.t 2) [], none⟩,
   ⟨some 19, .call 33 [.t 18], none⟩] (some [2, 3, 19]))
 (.cond (.t 19)
  (.seq
  (.ops false [
    ⟨some 20, .call 17 [], none⟩,
    ⟨some 4, .mov (.t 20), none⟩] (some [4]))
  .ret)
  .skip))
 (.seq
 (.ops false [
   ⟨some 21, .load 5 true (.t 2) [], none⟩,
   ⟨some 22, .call 22 [.t 21], none⟩,
   ⟨some 5, .alloc 5 [.int 0, .sl 1 [] .full, .int 0, .sl 4 [] .full, .int 0], none⟩,
   ⟨none, .store 5 (.t 5) (.t 22) (some 5), none⟩] (some [2, 3, 5]))
 (.seq
 (.ops false [
   ⟨some 24, .load 5 true (.t 5) [], none⟩,
   ⟨some 25, .fld 0 (.t 3), none⟩,
   ⟨some 26, .load 1 false (.t 25) [], none⟩,
   ⟨some 27, .call 26 [.t 24, .t 26], none⟩,
   ⟨some 23, .mov (.t 27), none⟩,
   ⟨some 28, .ext (.t 23) 0, none⟩,
   ⟨some 29, .ext (.t 23) 1, none⟩,
   ⟨some 6, .alloc 6 [.int 0, .int 0], none⟩,
   ⟨none, .store 2 (.t 6) (.t 28) (some 6), none⟩,
   ⟨some 7, .mov (.t 29), none⟩] (some [2, 3, 5, 6, 7]))
 (.seq
 (.ops false [
   ⟨some 31, .load 5 true (.t 2) [], none⟩,
   ⟨some 32, .fld 0 (.t 3), none⟩,
   ⟨some 33, .load 1 false (.t 32) [], none⟩,
   ⟨some 34, .call 44 [.t 31, .t 33], none⟩,
   ⟨some 30, .mov (.t 34), none⟩,
   ⟨some 35, .ext (.t 30) 0, none⟩,
   ⟨some 36, .ext (.t 30) 1, none⟩,
   ⟨some 8, .alloc 8 [.int 0, .int 0], none⟩,
   ⟨none, .store 2 (.t 8) (.t 35) (some 8), none⟩,
   ⟨some 9, .mov (.t 36), none⟩] (some [2, 3, 5, 6, 7, 8, 9]))
 (.seq
 (.ops false [
   ⟨some 38, .load 5 true (.t 5) [], none⟩,
   ⟨some 39, .fld 0 (.t 3), none⟩,
   ⟨some 40, .load 1 false (.t 39) [], none⟩,
   ⟨some 41, .fld 2 (.t 3), none⟩,
   ⟨some 42, .load 1 false (.t 41) [], none⟩,
   ⟨some 43, .call 42 [.t 38, .t 40, .t 42], none⟩,
   ⟨some 37, .mov (.t 43), none⟩,
   ⟨some 44, .ext (.t 37) 0, none⟩,
   ⟨some 45, .ext (.t 37) 1, none⟩,
   ⟨some 10, .mov (.t 44), none⟩,
   ⟨some 11, .mov (.t 45), none⟩] (some [2, 3, 5, 6, 7, 8, 9, 10, 11]))
 (.seq
 (.ops false [
   ⟨some 47, .load 5 true (.t 2) [], none⟩,
   ⟨some 48, .fld 0 (.t 3), none⟩,
   ⟨some 49, .load 1 false (.t 48) [], none⟩,
   ⟨some 50, .fld 2 (.t 3), none⟩,
   ⟨some 51, .load 1 false (.t 50) [], none⟩,
   ⟨some 52, .call 45 [.t 47, .t 49, .t 51], none⟩,
   ⟨some 46, .mov (.t 52), none⟩,
   ⟨some 53, .ext (.t 46) 0, none⟩,
   ⟨some 54, .ext (.t 46) 1, none⟩,
   ⟨some 12, .mov (.t 53), none⟩,
   ⟨some 13, .mov (.t 54), none⟩] (some [2, 3, 5, 6, 7, 8, 9, 10, 11, 12, 13]))
 (.seq
 (.ops false [
   ⟨some 56, .load 5 true (.t 5) [], none⟩,
   ⟨some 57, .fld 0 (.t 3), none⟩,
   ⟨some 58, .load 1 false (.t 57) [], none⟩,
   ⟨some 59, .fld 1 (.t 3), none⟩,
   ⟨some 60, .load 1 false (.t 59) [], none⟩,
   ⟨some 61, .fld 2 (.t 3), none⟩,
   ⟨some 62, .load 1 false (.t 61) [], none⟩,
   ⟨some 63, .call 41 [.t 56, .t 58, .t 60, .t 62], none⟩,
   ⟨some 55, .mov (.t 63), none⟩,
   ⟨some 64, .ext (.t 55) 0, none⟩,
   ⟨some 65, .ext (.t 55) 1, none⟩,
   ⟨some 14, .mov (.t 64), none⟩,
   ⟨some 15, .mov (.t 65), none⟩] (some [2, 3, 5, 6, 7, 8, 9, 10, 11, 12, 13, 14, 15]))
 (.seq
 (.ops false [
   ⟨some 67, .load 5 true (.t 2) [], none⟩,
   ⟨some 68, .fld 0 (.t 3), none⟩,
   ⟨some 69, .load 1 false (.t 68) [], none⟩,
   ⟨some 70, .fld 1 (.t 3), none⟩,
   ⟨some 71, .load 1 false (.t 70) [], none⟩,
   ⟨some 72, .fld 2 (.t 3), none⟩,
   ⟨some 73, .load 1 false (.t 72) [], none⟩,
   ⟨some 74, .call 46 [.t 67, .t 69, .t 71, .t 73], none⟩,
   ⟨some 66, .mov (.t 74), none⟩,
   ⟨some 75, .ext (.t 66) 0, none⟩,
   ⟨some 76, .ext (.t 66) 1, none⟩,
   ⟨some 16, .mov (.t 75), none⟩,
   ⟨some 17, .mov (.t 76), none⟩] (some [2, 5, 6, 7, 8, 9, 10, 11, 12, 13, 14, 15, 16, 17]))
 (.seq
 (.ops false [
   ⟨some 77, .load 2 true (.t 6) [], none⟩,
   ⟨some 78, .load 2 true (.t 8) [], none⟩,
   ⟨some 79, .bin (.seq 2) (.t 77) (.t 78), none⟩,
   ⟨some 80, .mov (.t 79), none⟩,
   ⟨some 81, .mov (.t 7), some (80, true)⟩,
   ⟨some 82, .mov (.t 9), some (80, true)⟩,
   ⟨some 83, .bin .eql (.t 81) (.t 82), some (80, true)⟩,
   ⟨some 84, .pick (.t 80) (.t 83) (.k (.bool false)), none⟩,
   ⟨some 85, .mov (.t 84), none⟩,
   ⟨some 86, .mov (.t 10), some (85, true)⟩,
   ⟨some 87, .mov (.t 12), some (85, true)⟩,
   ⟨some 88, .bin .beq (.t 86) (.t 87), some (85, true)⟩,
   ⟨some 89, .pick (.t 85) (.t 88) (.k (.bool false)), none⟩,
   ⟨some 90, .mov (.t 89), none⟩,
   ⟨some 91, .mov (.t 11), some (90, true)⟩,
   ⟨some 92, .mov (.t 13), some (90, true)⟩,
   ⟨some 93, .bin .eql (.t 91) (.t 92), some (90, true)⟩,
   ⟨some 94, .pick (.t 90) (.t 93) (.k (.bool false)), none⟩,
   ⟨some 95, .mov (.t 94), none⟩,
   ⟨some 96, .mov (.t 14), some (95, true)⟩,
   ⟨some 97, .mov (.t 16), some (95, true)⟩,
   ⟨some 98, .bin .eql (.t 96) (.t 97), some (95, true)⟩,
   ⟨some 99, .pick (.t 95) (.t 98) (.k (.bool false)), none⟩,
   ⟨some 100, .mov (.t 99), none⟩,
   ⟨some 101, .mov (.t 15), some (100, true)⟩,
   ⟨some 102, .mov (.t 17), some (100, true)⟩,
   ⟨some 103, .bin .eql (.t 101) (.t 102), some (100, true)⟩,
   ⟨some 104, .pick (.t 100) (.t 103) (.k (.bool false)), none⟩,
   ⟨some 105, .mov (.t 104), none⟩,
   ⟨some 106, .load 5 true (.t 5) [], some (105, true)⟩,
   ⟨some 107, .load 5 true (.t 2) [], some (105, true)⟩,
   ⟨some 108, .call 39 [.t 106, .t 107], some (105, true)⟩,
   ⟨some 109, .pick (.t 105) (.t 108) (.k (.bool false)), none⟩,
   ⟨some 110, .mov (.t 109), none⟩,
   ⟨some 111, .call 17 [], some (110, true)⟩,
   ⟨some 112, .pick (.t 110) (.t 111) (.k (.bool false)), none⟩,
   ⟨some 4, .mov (.t 112), none⟩] (some [4]))
 .ret))))))))))

theorem m8 : fmatch Try.prog Try.f8 2 [.tmp 4] v8 = true := by kernel_rfl

/-- steening/steeningref04.IsDowser -/
def v16 : VC :=
 (.seq
 (.ops false [
   ⟨some 2, .box 2 5 (.t 0), none⟩,
   ⟨some 4, .mov (.k (.bool false)), none⟩] (some [1, 2]))
 (.seq
 (.ops false [
   ⟨some 5, .mov (.t 1), none⟩,
   ⟨some 6, .fld 2 (.t 2), none⟩,
   ⟨some 7, .load 1 false (.t 6) [], none⟩,
   ⟨some 8, .bin .sub (.t 7) (.k (.int 1)), none⟩,
   ⟨some 9, .call 64 [.t 5, .k (.int 0), .t 8], none⟩,
   ⟨some 4, .mov (.t 9), none⟩] (some [4]))
 .ret))

theorem m16 : fmatch Try.prog Try.f16 2 [.tmp 4] v16 = true := by kernel_rfl

/-- steening/steeninglaw04.works -/
def v17 : VC :=
 (.seq
 (.ops false [
   ⟨some 0, .mov (.k (.bool false)), none⟩] (some []))
 (.seq
 (.ops false [
   ⟨some 16, .call 65 [], none⟩,
   ⟨some 1, .alloc 1 [.int 0, .sl 1 [] .full, .int 0, .sl 4 [] .full, .int 0], none⟩,
   ⟨none, .store 5 (.t 1) (.t 16) (some 1), none⟩] (some [1]))
 (.seq
 (.ops false [
   ⟨some 18, .load 5 true (.t 1) [], none⟩,
   ⟨some 19, .call 23 [.t 18, .k (.int 0)], none⟩,
   ⟨some 17, .mov (.t 19), none⟩,
   ⟨some 20, .ext (.t 17) 0, none⟩,
   ⟨some 21, .ext (.t 17) 1, none⟩,
   ⟨some 2, .mov (.t 20), none⟩,
   ⟨some 3, .mov (.t 21), none⟩] (some [1, 2, 3]))
 (.seq
 (.ops false [
   ⟨some 23, .load 5 true (.t 1) [], none⟩,
   ⟨some 24, .call 35 [.t 23], none⟩,
   ⟨some 22, .mov (.t 24), none⟩,
   ⟨some 25, .ext (.t 22) 0, none⟩,
   ⟨some 26, .ext (.t 22) 1, none⟩,
   ⟨some 4, .mov (.t 25), none⟩,
   ⟨some 5, .mov (.t 26), none⟩] (some [1, 2, 3, 4, 5]))
 (.seq
 (.ops false [
   ⟨some 28, .load 5 true (.t 1) [], none⟩,
   ⟨some 29, .call 18 [.t 28, .k (.int 0)], none⟩,
   ⟨some 27, .mov (.t 29), none⟩,
   ⟨some 30, .ext (.t 27) 0, none⟩,
   ⟨some 31, .ext (.t 27) 1, none⟩,
   ⟨some 6, .alloc 6 [.int 0, .int 0], none⟩,
   ⟨none, .store 2 (.t 6) (.t 30) (some 6), none⟩,
   ⟨some 7, .mov (.t 31), none⟩] (some [1, 2, 3, 4, 5, 6, 7]))
 (.seq
 (.ops false [
   ⟨some 33, .load 5 true (.t 1) [], none⟩,
   ⟨some 34, .call 19 [.t 33, .k (.int 1)], none⟩,
   ⟨some 32, .mov (.t 34), none⟩,
   ⟨some 35, .ext (.t 32) 0, none⟩,
   ⟨some 36, .ext (.t 32) 1, none⟩,
   ⟨some 8, .mov (.t 35), none⟩,
   ⟨some 9, .mov (.t 36), none⟩] (some [1, 2, 3, 4, 5, 6, 7, 8, 9]))
 (.seq
 (.ops false [
   ⟨some 38, .load 5 true (.t 1) [], none⟩,
   ⟨some 39, .call 26 [.t 38, .k (.int 0)], none⟩,
   ⟨some 37, .mov (.t 39), none⟩,
   ⟨some 40, .ext (.t 37) 0, none⟩,
   ⟨some 41, .ext (.t 37) 1, none⟩,
   ⟨some 10, .alloc 10 [.int 0, .int 0], none⟩,
   ⟨none, .store 2 (.t 10) (.t 40) (some 10), none⟩,
   ⟨some 11, .mov (.t 41), none⟩] (some [1, 2, 3, 4, 5, 6, 7, 8, 9, 10, 11]))
 (.seq
 (.ops false [
   ⟨some 43, .load 5 true (.t 1) [], none⟩,
   ⟨some 44, .call 41 [.t 43, .k (.int 0), .k (.int 1), .k (.int 10)], none⟩,
   ⟨some 42, .mov (.t 44), none⟩,
   ⟨some 45, .ext (.t 42) 0, none⟩,
   ⟨some 46, .ext (.t 42) 1, none⟩,
   ⟨some 12, .mov (.t 45), none⟩,
   ⟨some 13, .mov (.t 46), none⟩] (some [1, 2, 3, 4, 5, 6, 7, 8, 9, 10, 11, 12, 13]))
 (.seq
 (.ops false [
   ⟨some 48, .load 5 true (.t 1) [], none⟩,
   ⟨some 49, .call 31 [.t 48], none⟩,
   ⟨some 47, .mov (.t 49), none⟩,
   ⟨some 50, .ext (.t 47) 0, none⟩,
   ⟨some 51, .ext (.t 47) 1, none⟩,
   ⟨some 14, .mov (.t 50), none⟩,
   ⟨some 15, .mov (.t 51), none⟩] (some [2, 3, 4, 5, 6, 7, 8, 9, 10, 11, 12, 13, 14, 15]))
 (.seq
 (.ops false [
   ⟨some 52, .mov (.t 3), none⟩,
   ⟨some 53, .bin .eql (.t 52) (.k (.int 0)), none⟩,
   ⟨some 54, .mov (.t 53), none⟩,
   ⟨some 55, .mov (.t 5), some (54, true)⟩,
   ⟨some 56, .bin .eql (.t 55) (.k (.int 0)), some (54, true)⟩,
   ⟨some 57, .pick (.t 54) (.t 56) (.k (.bool false)), none⟩,
   ⟨some 58, .mov (.t 57), none⟩,
   ⟨some 59, .mov (.t 7), some (58, true)⟩,
   ⟨some 60, .bin .eql (.t 59) (.k (.int 0)), some (58, true)⟩,
   ⟨some 61, .pick (.t 58) (.t 60) (.k (.bool false)), none⟩,
   ⟨some 62, .mov (.t 61), none⟩,
   ⟨some 63, .mov (.t 9), some (62, true)⟩,
   ⟨some 64, .bin .eql (.t 63) (.k (.int 0)), some (62, true)⟩,
   ⟨some 65, .pick (.t 62) (.t 64) (.k (.bool false)), none⟩,
   ⟨some 66, .mov (.t 65), none⟩,
   ⟨some 67, .mov (.t 11), some (66, true)⟩,
   ⟨some 68, .bin .eql (.t 67) (.k (.int 0)), some (66, true)⟩,
   ⟨some 69, .pick (.t 66) (.t 68) (.k (.bool false)), none⟩,
   ⟨some 70, .mov (.t 69), none⟩,
   ⟨some 71, .mov (.t 13), some (70, true)⟩,
   ⟨some 72, .bin .eql (.t 71) (.k (.int 0)), some (70, true)⟩,
   ⟨some 73, .pick (.t 70) (.t 72) (.k (.bool false)), none⟩,
   ⟨some 74, .mov (.t 73), none⟩,
   ⟨some 75, .mov (.t 15), some (74, true)⟩,
   ⟨some 76, .bin .eql (.t 75) (.k (.int 0)), some (74, true)⟩,
   ⟨some 77, .pick (.t 74) (.t 76) (.k (.bool false)), none⟩,
   ⟨some 78, .mov (.t 77), none⟩,
   ⟨some 79, .mov (.t 2), some (78, true)⟩,
   ⟨some 80, .bin .eql (.t 79) (.k (.int 2)), some (78, true)⟩,
   ⟨some 81, .pick (.t 78) (.t 80) (.k (.bool false)), none⟩,
   ⟨some 82, .mov (.t 81), none⟩,
   ⟨some 83, .mov (.t 4), some (82, true)⟩,
   ⟨some 84, .bslice 1 [.k (.int 1), .k (.int 0)], some (82, true)⟩,
   ⟨some 85, .call 38 [.t 83, .t 84], some (82, true)⟩,
   ⟨some 86, .pick (.t 82) (.t 85) (.k (.bool false)), none⟩,
   ⟨some 87, .mov (.t 86), none⟩,
   ⟨some 88, .load 2 true (.t 6) [], some (87, true)⟩,
   ⟨some 89, .build [.int 0, .int 0] [(0, 1, .k (.int 1)), (1, 1, .k (.int 7))], some (87, true)⟩,
   ⟨some 90, .bin (.seq 2) (.t 88) (.t 89), some (87, true)⟩,
   ⟨some 91, .pick (.t 87) (.t 90) (.k (.bool false)), none⟩,
   ⟨some 92, .mov (.t 91), none⟩,
   ⟨some 93, .mov (.t 8), some (92, true)⟩,
   ⟨some 94, .bin .eql (.t 93) (.k (.int 1)), some (92, true)⟩,
   ⟨some 95, .pick (.t 92) (.t 94) (.k (.bool false)), none⟩,
   ⟨some 96, .mov (.t 95), none⟩,
   ⟨some 97, .load 2 true (.t 10) [], some (96, true)⟩,
   ⟨some 98, .build [.int 0, .int 0] [(0, 1, .k (.int 5)), (1, 1, .k (.int 9))], some (96, true)⟩,
   ⟨some 99, .bin (.seq 2) (.t 97) (.t 98), some (96, true)⟩,
   ⟨some 100, .pick (.t 96) (.t 99) (.k (.bool false)), none⟩,
   ⟨some 101, .mov (.t 100), none⟩,
   ⟨some 102, .mov (.t 12), some (101, true)⟩,
   ⟨some 103, .bin .eql (.t 102) (.k (.int 2)), some (101, true)⟩,
   ⟨some 104, .pick (.t 101) (.t 103) (.k (.bool false)), none⟩,
   ⟨some 105, .mov (.t 104), none⟩,
   ⟨some 106, .mov (.t 14), some (105, true)⟩,
   ⟨some 107, .bslice 1 [.k (.int 2), .k (.int 8)], some (105, true)⟩,
   ⟨some 108, .call 38 [.t 106, .t 107], some (105, true)⟩,
   ⟨some 109, .pick (.t 105) (.t 108) (.k (.bool false)), none⟩,
   ⟨some 0, .mov (.t 109), none⟩] (some [0]))
 .ret))))))))))

theorem m17 : fmatch Try.prog Try.f17 0 [.tmp 0] v17 = true := by kernel_rfl

/-- steening/dowsers.Between -/
def v18 : VC :=
 (.seq
 (.ops false [
   ⟨some 2, .box 2 5 (.t 0), none⟩,
   ⟨some 4, .alloc 4 [.int 0, .int 0], none⟩,
   ⟨some 5, .mov (.k (.int 0)), none⟩] (some [1, 2, 4]))
 (.seq
 (.ops true [
   ⟨some 15, .load 5 true (.t 2) [], none⟩,
   ⟨some 16, .load 5 true (.t 2) [], none⟩,
   ⟨some 17, .mov (.t 1), none⟩,
   ⟨some 18, .call 67 [.t 16, .t 17], none⟩,
   ⟨some 19, .call 66 [.t 15, .t 18], none⟩,
   ⟨some 14, .mov (.t 19), none⟩,
   ⟨some 20, .ext (.t 14) 0, none⟩,
   ⟨some 21, .ext (.t 14) 1, none⟩,
   ⟨some 6, .mov (.t 20), none⟩,
   ⟨some 7, .mov (.t 21), none⟩] (some [1, 2, 4, 6, 7]))
 (.seq
 (.seq
 (.ops false [
   ⟨some 22, .mov (.t 7), none⟩,
   ⟨some 23, .bin .neq (.t 22) (.k (.int 0)), none⟩] (some [1, 2, 4, 6, 7, 23]))
 (.cond (.t 23)
  (.seq
  (.ops false [
    ⟨some 24, .build [.int 0, .int 0] [], none⟩,
    ⟨some 25, .mov (.t 7), none⟩,
    ⟨none, .store 2 (.t 4) (.t 24) (some 4), none⟩,
    ⟨some 5, .mov (.t 25), none⟩] (some [4, 5]))
  .ret)
  .skip))
 (.seq
 (.ops false [
   ⟨some 8, .alloc 8 [.int 0, .int 0], none⟩] (some [1, 2, 4, 6, 8]))
 (.seq
 (.seq
 (.ops false [
   ⟨some 26, .fld 1 (.t 2), none⟩,
   ⟨some 27, .load 1 false (.t 26) [], none⟩,
   ⟨some 28, .len (.t 27), none⟩,
   ⟨some 29, .mov (.k (.int 0)), none⟩] (some [1, 4, 6, 8, 28, 29]))
 (.block 0
  (.loop
   (.seq
   (.ops false [
     ⟨some 30, .bin .lss (.t 29) (.t 28), none⟩] (some [1, 4, 6, 8, 28, 29, 30]))
   (.seq
   (.cond (.t 30)
    .skip
    (.exit 0))
   (.seq
   (.block 1
    (.seq
    (.ops false [
      ⟨some 31, .mov (.t 29), none⟩,
      ⟨some 9, .mov (.t 31), none⟩] (some [1, 4, 6, 8, 9, 28, 29]))
    (.seq
    (.ops false [
      ⟨some 32, .mov (.t 6), none⟩,
      ⟨some 33, .mov (.t 9), none⟩,
      ⟨some 34, .call 68 [.t 32, .t 33], none⟩,
      ⟨some 10, .mov (.t 34), none⟩] (some [1, 4, 6, 8, 10, 28, 29]))
    (.seq
    (.ops true [
      ⟨some 35, .mov (.t 10), none⟩,
      ⟨some 36, .mov (.t 1), none⟩,
      ⟨some 37, .idx 4 (.t 35) (.k (.int 0)), none⟩,
      ⟨some 38, .idxA 4 1 (.t 37) (.t 36), none⟩,
      ⟨some 39, .load 1 false (.t 38) [11], none⟩,
      ⟨some 40, .mov (.t 10), none⟩,
      ⟨some 41, .mov (.t 1), none⟩,
      ⟨some 42, .idx 4 (.t 40) (.k (.int 0)), none⟩,
      ⟨some 43, .idxA 4 1 (.t 42) (.t 41), none⟩,
      ⟨some 44, .load 1 false (.t 43) [11], none⟩,
      ⟨some 45, .build [.int 0, .int 0] [(0, 1, .t 39), (1, 1, .t 44)], none⟩,
      ⟨some 11, .alloc 11 [.int 0, .int 0], none⟩,
      ⟨none, .store 2 (.t 11) (.t 45) (some 11), none⟩] (some [1, 4, 6, 8, 10, 11, 28, 29]))
    (.seq
    (.seq
    (.ops false [
      ⟨some 46, .mov (.t 10), none⟩,
      ⟨some 47, .len (.t 46), none⟩,
      ⟨some 48, .mov (.k (.int 0)), none⟩] (some [1, 4, 6, 8, 11, 28, 29, 46, 47, 48]))
    (.block 2
     (.loop
      (.seq
      (.ops false [
        ⟨some 49, .bin .lss (.t 48) (.t 47), none⟩] (some [1, 4, 6, 8, 11, 28, 29, 46, 47, 48, 49]))
      (.seq
      (.cond (.t 49)
       .skip
       (.exit 2))
      (.seq
      (.block 3
       (.seq
       (.ops false [
         ⟨some 50, .idx 4 (.t 46) (.t 48), none⟩,
         ⟨some 51, .load 4 true (.t 50) [], none⟩,
         ⟨some 13, .alloc 13 [.int 0, .int 0, .int 0, .int 0], none⟩,
         ⟨none, .store 4 (.t 13) (.t 51) (some 13), none⟩] (some [1, 4, 6, 8, 11, 13, 28, 29, 46, 47, 48]))
       (.ops true [
         ⟨some 52, .fld 0 (.t 11), none⟩,
         ⟨some 53, .load 1 false (.t 52) [], none⟩,
         ⟨some 54, .mov (.t 1), none⟩,
         ⟨some 55, .idxA 4 1 (.t 13) (.t 54), none⟩,
         ⟨some 56, .load 1 false (.t 55) [11], none⟩,
         ⟨some 57, .min (.t 53) (.t 56), none⟩,
         ⟨some 58, .fld 1 (.t 11), none⟩,
         ⟨some 59, .load 1 false (.t 58) [], none⟩,
         ⟨some 60, .mov (.t 1), none⟩,
         ⟨some 61, .idxA 4 1 (.t 13) (.t 60), none⟩,
         ⟨some 62, .load 1 false (.t 61) [11], none⟩,
         ⟨some 63, .max (.t 59) (.t 62), none⟩,
         ⟨some 64, .build [.int 0, .int 0] [(0, 1, .t 57), (1, 1, .t 63)], none⟩,
         ⟨none, .store 2 (.t 11) (.t 64) (some 11), none⟩] (some [1, 4, 6, 8, 11, 28, 29, 46, 47, 48]))))
      (.ops false [
        ⟨some 65, .bin .add (.t 48) (.k (.int 1)), none⟩,
        ⟨some 48, .mov (.t 65), none⟩] (some [1, 4, 6, 8, 11, 28, 29, 46, 47, 48]))))))))
    (.ops false [
      ⟨some 66, .fld 0 (.t 8), none⟩,
      ⟨some 67, .load 1 false (.t 66) [], none⟩,
      ⟨some 68, .fld 0 (.t 11), none⟩,
      ⟨some 69, .load 1 false (.t 68) [], none⟩,
      ⟨some 70, .bin .add (.t 67) (.t 69), none⟩,
      ⟨some 71, .fld 1 (.t 8), none⟩,
      ⟨some 72, .load 1 false (.t 71) [], none⟩,
      ⟨some 73, .fld 1 (.t 11), none⟩,
      ⟨some 74, .load 1 false (.t 73) [], none⟩,
      ⟨some 75, .bin .add (.t 72) (.t 74), none⟩,
      ⟨some 76, .build [.int 0, .int 0] [(0, 1, .t 70), (1, 1, .t 75)], none⟩,
      ⟨none, .store 2 (.t 8) (.t 76) (some 8), none⟩] (some [1, 4, 6, 8, 28, 29])))))))
   (.ops false [
     ⟨some 77, .bin .add (.t 29) (.k (.int 1)), none⟩,
     ⟨some 29, .mov (.t 77), none⟩] (some [1, 4, 6, 8, 28, 29]))))))))
 (.seq
 (.ops false [
   ⟨some 78, .load 2 true (.t 8) [], none⟩,
   ⟨none, .store 2 (.t 4) (.t 78) (some 4), none⟩,
   ⟨some 5, .mov (.k (.int 0)), none⟩] (some [4, 5]))
 .ret))))))

theorem m18 : fmatch Try.prog Try.f18 2 [.cell 4 30, .tmp 5] v18 = true := by kernel_rfl

/-- steening/dowsers.Leads -/
def v19 : VC :=
 (.seq
 (.ops false [
   ⟨some 2, .box 2 5 (.t 0), none⟩,
   ⟨some 4, .mov (.k (.int 0)), none⟩,
   ⟨some 5, .mov (.k (.int 0)), none⟩] (some [1, 2]))
 (.seq
 (.ops true [
   ⟨some 9, .load 5 true (.t 2) [], none⟩,
   ⟨some 10, .load 5 true (.t 2) [], none⟩,
   ⟨some 11, .mov (.t 1), none⟩,
   ⟨some 12, .call 67 [.t 10, .t 11], none⟩,
   ⟨some 13, .call 66 [.t 9, .t 12], none⟩,
   ⟨some 8, .mov (.t 13), none⟩,
   ⟨some 14, .ext (.t 8) 0, none⟩,
   ⟨some 15, .ext (.t 8) 1, none⟩,
   ⟨some 6, .mov (.t 14), none⟩,
   ⟨some 7, .mov (.t 15), none⟩] (some [1, 6, 7]))
 (.seq
 (.seq
 (.ops false [
   ⟨some 16, .mov (.t 7), none⟩,
   ⟨some 17, .bin .neq (.t 16) (.k (.int 0)), none⟩] (some [1, 6, 7, 17]))
 (.cond (.t 17)
  (.seq
  (.ops false [
    ⟨some 18, .mov (.t 7), none⟩,
    ⟨some 4, .mov (.k (.int 0)), none⟩,
    ⟨some 5, .mov (.t 18), none⟩] (some [4, 5]))
  .ret)
  .skip))
 (.seq
 (.ops false [
   ⟨some 19, .mov (.t 6), none⟩,
   ⟨some 20, .mov (.t 1), none⟩,
   ⟨some 21, .call 69 [.t 19, .t 20], none⟩,
   ⟨some 4, .mov (.t 21), none⟩,
   ⟨some 5, .mov (.k (.int 0)), none⟩] (some [4, 5]))
 .ret))))

theorem m19 : fmatch Try.prog Try.f19 2 [.tmp 4, .tmp 5] v19 = true := by kernel_rfl

/-- steening/steeningref01.Within -/
def v20 : VC :=
 (.seq
 (.ops false [
   ⟨some 6, .mov (.k (.bool false)), none⟩] (some [0, 1, 2]))
 (.seq
 (.ops false [
   ⟨some 7, .mov (.t 1), none⟩,
   ⟨some 8, .mov (.t 0), none⟩,
   ⟨some 9, .bin .leq (.t 7) (.t 8), none⟩,
   ⟨some 10, .mov (.t 9), none⟩,
   ⟨some 11, .mov (.t 0), some (10, true)⟩,
   ⟨some 12, .mov (.t 2), some (10, true)⟩,
   ⟨some 13, .bin .leq (.t 11) (.t 12), some (10, true)⟩,
   ⟨some 14, .pick (.t 10) (.t 13) (.k (.bool false)), none⟩,
   ⟨some 6, .mov (.t 14), none⟩] (some [6]))
 .ret))

theorem m20 : fmatch Try.prog Try.f20 3 [.tmp 6] v20 = true := by kernel_rfl

/-- steening/steeningref04.Copy -/
def v22 : VC :=
 (.seq
 (.ops false [
   ⟨some 1, .box 1 5 (.t 0), none⟩,
   ⟨some 2, .alloc 2 [.int 0, .sl 1 [] .full, .int 0, .sl 4 [] .full, .int 0], none⟩] (some [1, 2]))
 (.seq
 (.ops false [
   ⟨some 4, .load 5 true (.t 1) [], none⟩,
   ⟨some 3, .alloc 3 [.int 0, .sl 1 [] .full, .int 0, .sl 4 [] .full, .int 0], none⟩,
   ⟨none, .store 5 (.t 3) (.t 4) (some 3), none⟩] (some [1, 2, 3]))
 (.seq
 (.ops true [
   ⟨some 5, .bslice 1 [], none⟩,
   ⟨some 6, .fld 1 (.t 1), none⟩,
   ⟨some 7, .load 1 false (.t 6) [], none⟩,
   ⟨some 8, .app 8 1 8 (.t 5) (.t 7), none⟩,
   ⟨some 9, .bslice 4 [], none⟩,
   ⟨some 10, .fld 3 (.t 1), none⟩,
   ⟨some 11, .load 1 false (.t 10) [], none⟩,
   ⟨some 12, .app 12 4 32 (.t 9) (.t 11), none⟩,
   ⟨some 13, .fld 1 (.t 3), none⟩,
   ⟨none, .store 1 (.t 13) (.t 8) (some 3), none⟩,
   ⟨some 14, .fld 3 (.t 3), none⟩,
   ⟨none, .store 1 (.t 14) (.t 12) (some 3), none⟩] (some [2, 3]))
 (.seq
 (.ops false [
   ⟨some 15, .load 5 true (.t 3) [], none⟩,
   ⟨none, .store 5 (.t 2) (.t 15) (some 2), none⟩] (some [2]))
 .ret))))

theorem m22 : fmatch Try.prog Try.f22 1 [.cell 2 25] v22 = true := by kernel_rfl

/-- steening/dowsers.Score -/
def v23 : VC :=
 (.seq
 (.ops false [
   ⟨some 2, .box 2 5 (.t 0), none⟩,
   ⟨some 4, .mov (.k (.int 0)), none⟩,
   ⟨some 5, .mov (.k (.int 0)), none⟩] (some [1, 2]))
 (.seq
 (.ops true [
   ⟨some 9, .load 5 true (.t 2) [], none⟩,
   ⟨some 10, .load 5 true (.t 2) [], none⟩,
   ⟨some 11, .mov (.t 1), none⟩,
   ⟨some 12, .call 67 [.t 10, .t 11], none⟩,
   ⟨some 13, .call 66 [.t 9, .t 12], none⟩,
   ⟨some 8, .mov (.t 13), none⟩,
   ⟨some 14, .ext (.t 8) 0, none⟩,
   ⟨some 15, .ext (.t 8) 1, none⟩,
   ⟨some 6, .mov (.t 14), none⟩,
   ⟨some 7, .mov (.t 15), none⟩] (some [1, 6, 7]))
 (.seq
 (.seq
 (.ops false [
   ⟨some 16, .mov (.t 7), none⟩,
   ⟨some 17, .bin .neq (.t 16) (.k (.int 0)), none⟩] (some [1, 6, 7, 17]))
 (.cond (.t 17)
  (.seq
  (.ops false [
    ⟨some 18, .mov (.t 7), none⟩,
    ⟨some 4, .mov (.k (.int 0)), none⟩,
    ⟨some 5, .mov (.t 18), none⟩] (some [4, 5]))
  .ret)
  .skip))
 (.seq
 (.ops false [
   ⟨some 19, .mov (.t 6), none⟩,
   ⟨some 20, .call 70 [.t 19], none⟩,
   ⟨some 21, .mov (.t 1), none⟩,
   ⟨some 22, .indexV 4 1 false (.t 20) (.t 21), none⟩,
   ⟨some 4, .mov (.t 22), none⟩,
   ⟨some 5, .mov (.k (.int 0)), none⟩] (some [4, 5]))
 .ret))))

theorem m23 : fmatch Try.prog Try.f23 2 [.tmp 4, .tmp 5] v23 = true := by kernel_rfl

/-- steening/steeninglaw04.ready -/
def v25 : VC :=
 (.seq
 (.ops false [
   ⟨some 1, .box 1 5 (.t 0), none⟩,
   ⟨some 2, .mov (.k (.bool false)), none⟩] (some [1]))
 (.seq
 (.ops false [
   ⟨some 3, .load 5 true (.t 1) [], none⟩,
   ⟨some 4, .call 33 [.t 3], none⟩,
   ⟨some 5, .not (.t 4), none⟩,
   ⟨some 6, .mov (.t 5), none⟩,
   ⟨some 7, .load 5 true (.t 1) [], some (6, true)⟩,
   ⟨some 8, .call 53 [.t 7], some (6, true)⟩,
   ⟨some 9, .bin .eql (.t 8) (.k (.int 0)), some (6, true)⟩,
   ⟨some 10, .pick (.t 6) (.t 9) (.k (.bool false)), none⟩,
   ⟨some 2, .mov (.t 10), none⟩] (some [2]))
 .ret))

theorem m25 : fmatch Try.prog Try.f25 1 [.tmp 2] v25 = true := by kernel_rfl

/-- steening/dowsers.Chance -/
def v26 : VC :=
 (.seq
 (.ops false [
   ⟨some 2, .box 2 5 (.t 0), none⟩,
   ⟨some 4, .alloc 4 [.int 0, .int 0], none⟩,
   ⟨some 5, .mov (.k (.int 0)), none⟩] (some [1, 2, 4]))
 (.seq
 (.ops true [
   ⟨some 11, .load 5 true (.t 2) [], none⟩,
   ⟨some 12, .load 5 true (.t 2) [], none⟩,
   ⟨some 13, .mov (.t 1), none⟩,
   ⟨some 14, .call 67 [.t 12, .t 13], none⟩,
   ⟨some 15, .call 66 [.t 11, .t 14], none⟩,
   ⟨some 10, .mov (.t 15), none⟩,
   ⟨some 16, .ext (.t 10) 0, none⟩,
   ⟨some 17, .ext (.t 10) 1, none⟩,
   ⟨some 6, .mov (.t 16), none⟩,
   ⟨some 7, .mov (.t 17), none⟩] (some [1, 4, 6, 7]))
 (.seq
 (.seq
 (.ops false [
   ⟨some 18, .mov (.t 7), none⟩,
   ⟨some 19, .bin .neq (.t 18) (.k (.int 0)), none⟩] (some [1, 4, 6, 7, 19]))
 (.cond (.t 19)
  (.seq
  (.ops false [
    ⟨some 20, .build [.int 0, .int 0] [], none⟩,
    ⟨some 21, .mov (.t 7), none⟩,
    ⟨none, .store 2 (.t 4) (.t 20) (some 4), none⟩,
    ⟨some 5, .mov (.t 21), none⟩] (some [4, 5]))
  .ret)
  .skip))
 (.seq
 (.ops false [
   ⟨some 23, .mov (.t 6), none⟩,
   ⟨some 24, .mov (.t 1), none⟩,
   ⟨some 25, .call 71 [.t 23, .t 24], none⟩,
   ⟨some 22, .mov (.t 25), none⟩,
   ⟨some 26, .ext (.t 22) 0, none⟩,
   ⟨some 27, .ext (.t 22) 1, none⟩,
   ⟨some 8, .alloc 8 [.sl 1 [] .full, .int 0], none⟩,
   ⟨none, .store 2 (.t 8) (.t 26) (some 8), none⟩,
   ⟨some 9, .mov (.t 27), none⟩] (some [4, 8, 9]))
 (.seq
 (.ops false [
   ⟨some 28, .load 2 true (.t 8) [], none⟩,
   ⟨some 29, .mov (.t 9), none⟩,
   ⟨some 30, .call 72 [.t 28, .t 29], none⟩,
   ⟨none, .store 2 (.t 4) (.t 30) (some 4), none⟩,
   ⟨some 5, .mov (.k (.int 0)), none⟩] (some [4, 5]))
 .ret)))))

theorem m26 : fmatch Try.prog Try.f26 2 [.cell 4 44, .tmp 5] v26 = true := by kernel_rfl

/-- steening/steeninglaw04.isChance -/
def v27 : VC :=
 (.seq
 (.ops false [
   ⟨some 1, .box 1 2 (.t 0), none⟩,
   ⟨some 2, .mov (.k (.bool false)), none⟩] (some [1]))
 (.seq
 (.ops true [
   ⟨some 3, .fld 1 (.t 1), none⟩,
   ⟨some 4, .load 1 false (.t 3) [], none⟩,
   ⟨some 5, .bin .geq (.t 4) (.k (.int 1)), none⟩,
   ⟨some 6, .mov (.t 5), none⟩,
   ⟨some 7, .fld 1 (.t 1), some (6, true)⟩,
   ⟨some 8, .load 1 false (.t 7) [], some (6, true)⟩,
   ⟨some 9, .bin .leq (.t 8) (.k (.int 33554432)), some (6, true)⟩,
   ⟨some 10, .pick (.t 6) (.t 9) (.k (.bool false)), none⟩,
   ⟨some 11, .mov (.t 10), none⟩,
   ⟨some 12, .fld 0 (.t 1), some (11, true)⟩,
   ⟨some 13, .load 1 false (.t 12) [], some (11, true)⟩,
   ⟨some 14, .bin .geq (.t 13) (.k (.int 1)), some (11, true)⟩,
   ⟨some 15, .pick (.t 11) (.t 14) (.k (.bool false)), none⟩,
   ⟨some 16, .mov (.t 15), none⟩,
   ⟨some 17, .fld 0 (.t 1), some (16, true)⟩,
   ⟨some 18, .load 1 false (.t 17) [], some (16, true)⟩,
   ⟨some 19, .fld 1 (.t 1), some (16, true)⟩,
   ⟨some 20, .load 1 false (.t 19) [], some (16, true)⟩,
   ⟨some 21, .bin .leq (.t 18) (.t 20), some (16, true)⟩,
   ⟨some 22, .pick (.t 16) (.t 21) (.k (.bool false)), none⟩,
   ⟨some 23, .mov (.t 22), none⟩,
   ⟨some 24, .fld 0 (.t 1), some (23, true)⟩,
   ⟨some 25, .load 1 false (.t 24) [], some (23, true)⟩,
   ⟨some 26, .fld 1 (.t 1), some (23, true)⟩,
   ⟨some 27, .load 1 false (.t 26) [], some (23, true)⟩,
   ⟨some 28, .call 29 [.t 25, .t 27], some (23, true)⟩,
   ⟨some 29, .load 2 true (.t 1) [], some (23, true)⟩,
   ⟨some 30, .bin (.seq 2) (.t 28) (.t 29), some (23, true)⟩,
   ⟨some 31, .pick (.t 23) (.t 30) (.k (.bool false)), none⟩,
   ⟨some 2, .mov (.t 31), none⟩] (some [2]))
 .ret))

theorem m27 : fmatch Try.prog Try.f27 1 [.tmp 2] v27 = true := by kernel_rfl

/-- steening/steeningref04.Widths -/
def v28 : VC :=
 (.seq
 (.ops false [
   ⟨some 2, .box 2 5 (.t 0), none⟩,
   ⟨some 4, .nils 4 1, none⟩,
   ⟨some 5, .mov (.k (.int 0)), none⟩] (some [1, 2, 4, 5]))
 (.seq
 (.seq
 (.ops false [
   ⟨some 6, .mov (.k (.int 0)), none⟩] (some [1, 2, 4, 5, 6]))
 (.block 0
  (.loop
   (.seq
   (.seq
   (.ops false [
     ⟨some 8, .mov (.t 6), none⟩,
     ⟨some 9, .fld 3 (.t 2), none⟩,
     ⟨some 10, .load 1 false (.t 9) [], none⟩,
     ⟨some 11, .len (.t 10), none⟩,
     ⟨some 12, .bin .lss (.t 8) (.t 11), none⟩] (some [1, 2, 4, 5, 6, 12]))
   (.cond (.t 12)
    .skip
    (.exit 0)))
   (.seq
   (.block 1
    (.seq
    (.ops false [
      ⟨some 15, .fld 3 (.t 2), none⟩,
      ⟨some 16, .load 1 false (.t 15) [], none⟩,
      ⟨some 17, .mov (.t 6), none⟩,
      ⟨some 18, .idx 4 (.t 16) (.t 17), none⟩,
      ⟨some 19, .load 4 true (.t 18) [], none⟩,
      ⟨some 7, .alloc 7 [.int 0, .int 0, .int 0, .int 0], none⟩,
      ⟨none, .store 4 (.t 7) (.t 19) (some 7), none⟩] (some [1, 2, 4, 5, 6, 7]))
    (.seq
    (.seq
    (.ops false [
      ⟨some 20, .fld 0 (.t 7), none⟩,
      ⟨some 21, .load 1 false (.t 20) [], none⟩,
      ⟨some 22, .mov (.t 1), none⟩,
      ⟨some 23, .bin .neq (.t 21) (.t 22), none⟩,
      ⟨some 24, .mov (.t 23), none⟩,
      ⟨some 25, .load 4 true (.t 7) [], some (24, false)⟩,
      ⟨some 26, .fld 1 (.t 2), some (24, false)⟩,
      ⟨some 27, .load 1 false (.t 26) [], some (24, false)⟩,
      ⟨some 28, .call 73 [.t 25, .t 27], some (24, false)⟩,
      ⟨some 29, .bin .eql (.t 28) (.k (.int 3)), some (24, false)⟩,
      ⟨some 30, .pick (.t 24) (.k (.bool true)) (.t 29), none⟩] (some [1, 2, 4, 5, 6, 7, 30]))
    (.cond (.t 30)
     (.exit 1)
     .skip))
    (.seq
    (.ops false [
      ⟨some 31, .mov (.t 4), none⟩,
      ⟨some 32, .load 4 true (.t 7) [], none⟩,
      ⟨some 33, .call 51 [.t 32], none⟩,
      ⟨some 34, .bslice 1 [.t 33], none⟩,
      ⟨some 35, .app 35 1 8 (.t 31) (.t 34), none⟩,
      ⟨some 4, .mov (.t 35), none⟩] (some [1, 2, 4, 5, 6, 7]))
    (.seq
    (.ops false [
      ⟨some 36, .load 4 true (.t 7) [], none⟩,
      ⟨some 37, .fld 1 (.t 2), none⟩,
      ⟨some 38, .load 1 false (.t 37) [], none⟩,
      ⟨some 39, .call 73 [.t 36, .t 38], none⟩,
      ⟨some 40, .bin .eql (.t 39) (.k (.int 1)), none⟩] (some [1, 2, 4, 5, 6, 40]))
    (.cond (.t 40)
     (.ops false [
       ⟨some 41, .mov (.t 5), none⟩,
       ⟨some 42, .bin .add (.t 41) (.k (.int 1)), none⟩,
       ⟨some 5, .mov (.t 42), none⟩] (some [1, 2, 4, 5, 6]))
     .skip))))))
   (.ops false [
     ⟨some 13, .mov (.t 6), none⟩,
     ⟨some 14, .bin .add (.t 13) (.k (.int 1)), none⟩,
     ⟨some 6, .mov (.t 14), none⟩] (some [1, 2, 4, 5, 6])))))))
 (.seq
 (.ops false [
   ⟨some 43, .mov (.t 4), none⟩,
   ⟨some 44, .mov (.t 5), none⟩,
   ⟨some 4, .mov (.t 43), none⟩,
   ⟨some 5, .mov (.t 44), none⟩] (some [4, 5]))
 .ret)))

theorem m28 : fmatch Try.prog Try.f28 2 [.tmp 4, .tmp 5] v28 = true := by kernel_rfl

/-- steening/steeningref01.Reduced -/
def v29 : VC :=
 (.seq
 (.ops false [
   ⟨some 4, .alloc 4 [.int 0, .int 0], none⟩] (some [0, 1, 4]))
 (.seq
 (.ops false [
   ⟨some 7, .mov (.t 0), none⟩,
   ⟨some 8, .mov (.t 0), none⟩,
   ⟨some 9, .neg (.t 8), none⟩,
   ⟨some 10, .max (.t 7) (.t 9), none⟩,
   ⟨some 11, .mov (.t 1), none⟩,
   ⟨some 5, .mov (.t 10), none⟩,
   ⟨some 6, .mov (.t 11), none⟩] (some [0, 1, 4, 5, 6]))
 (.seq
 (.block 0
  (.loop
   (.seq
   (.seq
   (.ops false [
     ⟨some 12, .mov (.t 6), none⟩,
     ⟨some 13, .bin .gtr (.t 12) (.k (.int 0)), none⟩] (some [0, 1, 4, 5, 6, 13]))
   (.cond (.t 13)
    .skip
    (.exit 0)))
   (.block 1
    (.ops true [
      ⟨some 14, .mov (.t 6), none⟩,
      ⟨some 15, .mov (.t 5), none⟩,
      ⟨some 16, .mov (.t 6), none⟩,
      ⟨some 17, .bin .rem (.t 15) (.t 16), none⟩,
      ⟨some 5, .mov (.t 14), none⟩,
      ⟨some 6, .mov (.t 17), none⟩] (some [0, 1, 4, 5, 6]))))))
 (.seq
 (.ops true [
   ⟨some 18, .mov (.t 0), none⟩,
   ⟨some 19, .mov (.t 5), none⟩,
   ⟨some 20, .bin .quo (.t 18) (.t 19), none⟩,
   ⟨some 21, .mov (.t 1), none⟩,
   ⟨some 22, .mov (.t 5), none⟩,
   ⟨some 23, .bin .quo (.t 21) (.t 22), none⟩,
   ⟨some 24, .build [.int 0, .int 0] [(0, 1, .t 20), (1, 1, .t 23)], none⟩,
   ⟨none, .store 2 (.t 4) (.t 24) (some 4), none⟩] (some [4]))
 .ret))))

theorem m29 : fmatch Try.prog Try.f29 2 [.cell 4 44] v29 = true := by kernel_rfl

/-- steening/dowsers.Pay -/
def v31 : VC :=
 (.seq
 (.ops false [
   ⟨some 1, .box 1 5 (.t 0), none⟩,
   ⟨some 2, .nils 2 1, none⟩,
   ⟨some 3, .mov (.k (.int 0)), none⟩] (some [1]))
 (.seq
 (.ops false [
   ⟨some 16, .load 5 true (.t 1) [], none⟩,
   ⟨some 17, .call 66 [.t 16, .k (.bool true)], none⟩,
   ⟨some 15, .mov (.t 17), none⟩,
   ⟨some 18, .ext (.t 15) 0, none⟩,
   ⟨some 19, .ext (.t 15) 1, none⟩,
   ⟨some 4, .mov (.t 18), none⟩,
   ⟨some 5, .mov (.t 19), none⟩] (some [1, 4, 5]))
 (.seq
 (.seq
 (.ops false [
   ⟨some 20, .mov (.t 5), none⟩,
   ⟨some 21, .bin .neq (.t 20) (.k (.int 0)), none⟩] (some [1, 4, 5, 21]))
 (.cond (.t 21)
  (.seq
  (.ops false [
    ⟨some 22, .mov (.t 5), none⟩,
    ⟨some 2, .nils 501 1, none⟩,
    ⟨some 3, .mov (.t 22), none⟩] (some [2, 3]))
  .ret)
  .skip))
 (.seq
 (.ops true [
   ⟨some 23, .fld 2 (.t 1), none⟩,
   ⟨some 24, .load 1 false (.t 23) [7, 8, 25], none⟩,
   ⟨some 25, .makes 25 1 8 false [.int 0] (.t 24), none⟩,
   ⟨some 26, .mov (.t 4), none⟩,
   ⟨some 27, .call 70 [.t 26], none⟩,
   ⟨some 7, .alloc 7 [.int 0, .int 0, .int 0, .int 0], none⟩,
   ⟨some 8, .alloc 8 [.int 0], none⟩,
   ⟨some 6, .mov (.t 25), none⟩,
   ⟨none, .store 4 (.t 7) (.t 27) (some 7), none⟩,
   ⟨none, .store 1 (.t 8) (.k (.int 0)) (some 8), none⟩] (some [1, 6, 7, 8]))
 (.seq
 (.seq
 (.ops false [
   ⟨some 28, .mov (.k (.int 0)), none⟩] (some [1, 6, 7, 8, 28]))
 (.block 0
  (.loop
   (.seq
   (.ops false [
     ⟨some 29, .bin .lss (.t 28) (.k (.int 4)), none⟩] (some [1, 6, 7, 8, 28, 29]))
   (.seq
   (.cond (.t 29)
    .skip
    (.exit 0))
   (.seq
   (.block 1
    (.seq
    (.ops false [
      ⟨some 30, .mov (.t 28), none⟩,
      ⟨some 9, .mov (.t 30), none⟩] (some [1, 6, 7, 8, 9, 28]))
    (.seq
    (.ops false [
      ⟨some 31, .mov (.t 9), none⟩,
      ⟨some 32, .mov (.t 9), none⟩,
      ⟨some 33, .idxA 4 1 (.t 7) (.t 32), none⟩,
      ⟨some 34, .load 1 false (.t 33) [], none⟩,
      ⟨some 35, .max (.k (.int 0)) (.t 34), none⟩,
      ⟨some 36, .idxA 4 1 (.t 7) (.t 31), none⟩,
      ⟨none, .store 1 (.t 36) (.t 35) (some 7), none⟩] (some [1, 6, 7, 8, 9, 28]))
    (.ops true [
      ⟨some 37, .load 1 false (.t 8) [], none⟩,
      ⟨some 38, .mov (.t 9), none⟩,
      ⟨some 39, .idxA 4 1 (.t 7) (.t 38), none⟩,
      ⟨some 40, .load 1 false (.t 39) [8], none⟩,
      ⟨some 41, .bin .add (.t 37) (.t 40), none⟩,
      ⟨none, .store 1 (.t 8) (.t 41) (some 8), none⟩] (some [1, 6, 7, 8, 28])))))
   (.ops false [
     ⟨some 42, .bin .add (.t 28) (.k (.int 1)), none⟩,
     ⟨some 28, .mov (.t 42), none⟩] (some [1, 6, 7, 8, 28]))))))))
 (.seq
 (.seq
 (.ops false [
   ⟨some 43, .load 1 false (.t 8) [], none⟩,
   ⟨some 44, .bin .eql (.t 43) (.k (.int 0)), none⟩] (some [1, 6, 7, 8, 44]))
 (.cond (.t 44)
  (.seq
  (.ops false [
    ⟨some 45, .mov (.t 6), none⟩,
    ⟨some 2, .mov (.t 45), none⟩,
    ⟨some 3, .mov (.k (.int 0)), none⟩] (some [2, 3]))
  .ret)
  .skip))
 (.seq
 (.ops false [
   ⟨some 46, .fld 4 (.t 1), none⟩,
   ⟨some 47, .load 1 false (.t 46) [], none⟩,
   ⟨some 10, .mov (.t 47), none⟩] (some [1, 6, 7, 8, 10]))
 (.seq
 (.ops false [
   ⟨some 11, .nilsG 11 none 1 false, none⟩] (some [1, 6, 7, 8, 10, 11]))
 (.seq
 (.seq
 (.ops false [
   ⟨some 48, .mov (.t 6), none⟩,
   ⟨some 49, .len (.t 48), none⟩,
   ⟨some 50, .mov (.k (.int 0)), none⟩] (some [1, 6, 7, 8, 10, 11, 49, 50]))
 (.block 2
  (.loop
   (.seq
   (.ops false [
     ⟨some 51, .bin .lss (.t 50) (.t 49), none⟩] (some [1, 6, 7, 8, 10, 11, 49, 50, 51]))
   (.seq
   (.cond (.t 51)
    .skip
    (.exit 2))
   (.seq
   (.block 3
    (.seq
    (.ops false [
      ⟨some 52, .mov (.t 50), none⟩,
      ⟨some 12, .mov (.t 52), none⟩] (some [1, 6, 7, 8, 10, 11, 12, 49, 50]))
    (.seq
    (.ops true [
      ⟨some 53, .mov (.t 6), none⟩,
      ⟨some 54, .mov (.t 12), none⟩,
      ⟨some 55, .fld 4 (.t 1), none⟩,
      ⟨some 56, .load 1 false (.t 55) [], none⟩,
      ⟨some 57, .mov (.t 12), none⟩,
      ⟨some 58, .idxA 4 1 (.t 7) (.t 57), none⟩,
      ⟨some 59, .load 1 false (.t 58) [], none⟩,
      ⟨some 60, .bin .mul (.t 56) (.t 59), none⟩,
      ⟨some 61, .load 1 false (.t 8) [], none⟩,
      ⟨some 62, .bin .quo (.t 60) (.t 61), none⟩,
      ⟨some 63, .idx 1 (.t 53) (.t 54), none⟩,
      ⟨none, .store 1 (.t 63) (.t 62) (some 25), none⟩] (some [1, 6, 7, 8, 10, 11, 12, 49, 50]))
    (.seq
    (.ops false [
      ⟨some 64, .mov (.t 10), none⟩,
      ⟨some 65, .mov (.t 6), none⟩,
      ⟨some 66, .mov (.t 12), none⟩,
      ⟨some 67, .idx 1 (.t 65) (.t 66), none⟩,
      ⟨some 68, .load 1 false (.t 67) [], none⟩,
      ⟨some 69, .bin .sub (.t 64) (.t 68), none⟩,
      ⟨some 10, .mov (.t 69), none⟩] (some [1, 6, 7, 8, 10, 11, 12, 49, 50]))
    (.ops false [
      ⟨some 70, .mov (.t 11), none⟩,
      ⟨some 71, .mov (.t 12), none⟩,
      ⟨some 72, .bslice 1 [.t 71], none⟩,
      ⟨some 73, .appG 11 none 1 8 false (.t 70) (.t 72), none⟩,
      ⟨some 11, .mov (.t 73), none⟩] (some [1, 6, 7, 8, 10, 11, 49, 50]))))))
   (.ops false [
     ⟨some 74, .bin .add (.t 50) (.k (.int 1)), none⟩,
     ⟨some 50, .mov (.t 74), none⟩] (some [1, 6, 7, 8, 10, 11, 49, 50]))))))))
 (.seq
 (.opsN false [
   ⟨some 75, .mov (.t 11), none⟩,
   ⟨some 76, .mkf 76 [.t 1, .t 7, .t 8], none⟩,
   ⟨some 77, .calli 75 [.t 75, .t 76], none⟩] (some [6, 10, 11]))
 (.seq
 (.seq
 (.opsN false [
   ⟨some 78, .mov (.t 11), none⟩,
   ⟨some 79, .mov (.t 10), none⟩,
   ⟨some 80, .slice 1 (.t 78) none (some (.t 79)), none⟩,
   ⟨some 81, .len (.t 80), none⟩,
   ⟨some 82, .mov (.k (.int 0)), none⟩] (some [6, 80, 81, 82]))
 (.block 4
  (.loop
   (.seq
   (.ops false [
     ⟨some 83, .bin .lss (.t 82) (.t 81), none⟩] (some [6, 80, 81, 82, 83]))
   (.seq
   (.cond (.t 83)
    .skip
    (.exit 4))
   (.seq
   (.block 5
    (.seq
    (.ops false [
      ⟨some 84, .idx 1 (.t 80) (.t 82), none⟩,
      ⟨some 85, .load 1 false (.t 84) [], none⟩,
      ⟨some 14, .mov (.t 85), none⟩] (some [6, 14, 80, 81, 82]))
    (.ops false [
      ⟨some 86, .mov (.t 6), none⟩,
      ⟨some 87, .mov (.t 14), none⟩,
      ⟨some 88, .idx 1 (.t 86) (.t 87), none⟩,
      ⟨some 89, .load 1 false (.t 88) [], none⟩,
      ⟨some 90, .bin .add (.t 89) (.k (.int 1)), none⟩,
      ⟨some 91, .idx 1 (.t 86) (.t 87), none⟩,
      ⟨none, .store 1 (.t 91) (.t 90) (some 25), none⟩] (some [6, 80, 81, 82]))))
   (.ops false [
     ⟨some 92, .bin .add (.t 82) (.k (.int 1)), none⟩,
     ⟨some 82, .mov (.t 92), none⟩] (some [6, 80, 81, 82]))))))))
 (.seq
 (.ops false [
   ⟨some 93, .mov (.t 6), none⟩,
   ⟨some 2, .mov (.t 93), none⟩,
   ⟨some 3, .mov (.k (.int 0)), none⟩] (some [2, 3]))
 .ret))))))))))))

theorem m31 : fmatch Try.prog Try.f31 1 [.tmp 2, .tmp 3] v31 = true := by kernel_rfl

/-- steening/steeningref04.ScoreOf -/
def v32 : VC :=
 (.seq
 (.ops false [
   ⟨some 3, .box 3 5 (.t 0), none⟩,
   ⟨some 6, .mov (.k (.int 0)), none⟩] (some [1, 2, 3]))
 (.seq
 (.ops false [
   ⟨some 7, .mov (.k (.int 0)), none⟩] (some [1, 2, 3, 7]))
 (.seq
 (.seq
 (.ops false [
   ⟨some 8, .mov (.k (.int 0)), none⟩] (some [1, 2, 3, 7, 8]))
 (.block 0
  (.loop
   (.seq
   (.seq
   (.ops false [
     ⟨some 9, .mov (.t 8), none⟩,
     ⟨some 10, .fld 3 (.t 3), none⟩,
     ⟨some 11, .load 1 false (.t 10) [], none⟩,
     ⟨some 12, .len (.t 11), none⟩,
     ⟨some 13, .bin .lss (.t 9) (.t 12), none⟩] (some [1, 2, 3, 7, 8, 13]))
   (.cond (.t 13)
    .skip
    (.exit 0)))
   (.seq
   (.block 1
    (.seq
    (.ops false [
      ⟨some 16, .fld 3 (.t 3), none⟩,
      ⟨some 17, .load 1 false (.t 16) [], none⟩,
      ⟨some 18, .mov (.t 8), none⟩,
      ⟨some 19, .idx 4 (.t 17) (.t 18), none⟩,
      ⟨some 20, .fld 0 (.t 19), none⟩,
      ⟨some 21, .load 1 false (.t 20) [], none⟩,
      ⟨some 22, .mov (.t 1), none⟩,
      ⟨some 23, .bin .eql (.t 21) (.t 22), none⟩] (some [1, 2, 3, 7, 8, 23]))
    (.cond (.t 23)
     (.ops true [
       ⟨some 24, .mov (.t 7), none⟩,
       ⟨some 25, .load 5 true (.t 3) [], none⟩,
       ⟨some 26, .fld 3 (.t 3), none⟩,
       ⟨some 27, .load 1 false (.t 26) [], none⟩,
       ⟨some 28, .mov (.t 8), none⟩,
       ⟨some 29, .idx 4 (.t 27) (.t 28), none⟩,
       ⟨some 30, .load 4 true (.t 29) [], none⟩,
       ⟨some 31, .mov (.t 2), none⟩,
       ⟨some 32, .call 77 [.t 25, .t 30, .t 31], none⟩,
       ⟨some 33, .bin .add (.t 24) (.t 32), none⟩,
       ⟨some 7, .mov (.t 33), none⟩] (some [1, 2, 3, 7, 8]))
     .skip)))
   (.ops false [
     ⟨some 14, .mov (.t 8), none⟩,
     ⟨some 15, .bin .add (.t 14) (.k (.int 1)), none⟩,
     ⟨some 8, .mov (.t 15), none⟩] (some [1, 2, 3, 7, 8])))))))
 (.seq
 (.ops false [
   ⟨some 34, .mov (.t 7), none⟩,
   ⟨some 6, .mov (.t 34), none⟩] (some [6]))
 .ret))))

theorem m32 : fmatch Try.prog Try.f32 3 [.tmp 6] v32 = true := by kernel_rfl

/-- steening/steeninglaw04.Huge -/
def v33 : VC :=
 (.seq
 (.ops false [
   ⟨some 1, .box 1 5 (.t 0), none⟩,
   ⟨some 2, .mov (.k (.bool false)), none⟩] (some [1]))
 (.seq
 (.ops false [
   ⟨some 3, .fld 1 (.t 1), none⟩,
   ⟨some 4, .load 1 false (.t 3) [], none⟩,
   ⟨some 5, .len (.t 4), none⟩,
   ⟨some 6, .bin .gtr (.t 5) (.k (.int 40)), none⟩,
   ⟨some 7, .mov (.t 6), none⟩,
   ⟨some 8, .fld 3 (.t 1), some (7, false)⟩,
   ⟨some 9, .load 1 false (.t 8) [], some (7, false)⟩,
   ⟨some 10, .len (.t 9), some (7, false)⟩,
   ⟨some 11, .bin .gtr (.t 10) (.k (.int 40)), some (7, false)⟩,
   ⟨some 12, .pick (.t 7) (.k (.bool true)) (.t 11), none⟩,
   ⟨some 2, .mov (.t 12), none⟩] (some [2]))
 .ret))

theorem m33 : fmatch Try.prog Try.f33 1 [.tmp 2] v33 = true := by kernel_rfl

/-- steening/steeningref04.Score -/
def v34 : VC :=
 (.seq
 (.ops false [
   ⟨some 2, .box 2 5 (.t 0), none⟩,
   ⟨some 4, .mov (.k (.int 0)), none⟩,
   ⟨some 5, .mov (.k (.int 0)), none⟩] (some [1, 2]))
 (.seq
 (.seq
 (.ops true [
   ⟨some 7, .load 5 true (.t 2) [], none⟩,
   ⟨some 8, .load 5 true (.t 2) [], none⟩,
   ⟨some 9, .mov (.t 1), none⟩,
   ⟨some 10, .call 16 [.t 8, .t 9], none⟩,
   ⟨some 11, .call 78 [.t 7, .t 10], none⟩,
   ⟨some 6, .mov (.t 11), none⟩] (some [1, 2, 6]))
 (.seq
 (.ops false [
   ⟨some 12, .mov (.t 6), none⟩,
   ⟨some 13, .bin .neq (.t 12) (.k (.int 0)), none⟩] (some [1, 2, 6, 13]))
 (.cond (.t 13)
  (.seq
  (.ops false [
    ⟨some 14, .mov (.t 6), none⟩,
    ⟨some 4, .mov (.k (.int 0)), none⟩,
    ⟨some 5, .mov (.t 14), none⟩] (some [4, 5]))
  .ret)
  .skip)))
 (.seq
 (.ops false [
   ⟨some 15, .load 5 true (.t 2) [], none⟩,
   ⟨some 16, .mov (.t 1), none⟩,
   ⟨some 17, .fld 1 (.t 2), none⟩,
   ⟨some 18, .load 1 false (.t 17) [], none⟩,
   ⟨some 19, .call 32 [.t 15, .t 16, .t 18], none⟩,
   ⟨some 4, .mov (.t 19), none⟩,
   ⟨some 5, .mov (.k (.int 0)), none⟩] (some [4, 5]))
 .ret)))

theorem m34 : fmatch Try.prog Try.f34 2 [.tmp 4, .tmp 5] v34 = true := by kernel_rfl

/-- steening/dowsers.Order -/
def v35 : VC :=
 (.seq
 (.ops false [
   ⟨some 1, .box 1 5 (.t 0), none⟩,
   ⟨some 2, .nils 2 1, none⟩,
   ⟨some 3, .mov (.k (.int 0)), none⟩] (some [1]))
 (.seq
 (.ops false [
   ⟨some 10, .load 5 true (.t 1) [], none⟩,
   ⟨some 11, .call 66 [.t 10, .k (.bool true)], none⟩,
   ⟨some 9, .mov (.t 11), none⟩,
   ⟨some 12, .ext (.t 9) 0, none⟩,
   ⟨some 13, .ext (.t 9) 1, none⟩,
   ⟨some 4, .mov (.t 12), none⟩,
   ⟨some 5, .mov (.t 13), none⟩] (some [1, 4, 5]))
 (.seq
 (.seq
 (.ops false [
   ⟨some 14, .mov (.t 5), none⟩,
   ⟨some 15, .bin .neq (.t 14) (.k (.int 0)), none⟩] (some [1, 4, 5, 15]))
 (.cond (.t 15)
  (.seq
  (.ops false [
    ⟨some 16, .mov (.t 5), none⟩,
    ⟨some 2, .nils 501 1, none⟩,
    ⟨some 3, .mov (.t 16), none⟩] (some [2, 3]))
  .ret)
  .skip))
 (.seq
 (.ops false [
   ⟨some 6, .nilsG 6 none 1 false, none⟩] (some [1, 4, 6]))
 (.seq
 (.seq
 (.ops false [
   ⟨some 17, .fld 2 (.t 1), none⟩,
   ⟨some 18, .load 1 false (.t 17) [], none⟩,
   ⟨some 19, .mov (.k (.int 0)), none⟩] (some [4, 6, 18, 19]))
 (.block 0
  (.loop
   (.seq
   (.ops false [
     ⟨some 20, .bin .lss (.t 19) (.t 18), none⟩] (some [4, 6, 18, 19, 20]))
   (.seq
   (.cond (.t 20)
    .skip
    (.exit 0))
   (.seq
   (.block 1
    (.seq
    (.ops false [
      ⟨some 21, .mov (.t 19), none⟩,
      ⟨some 7, .mov (.t 21), none⟩] (some [4, 6, 7, 18, 19]))
    (.ops false [
      ⟨some 22, .mov (.t 6), none⟩,
      ⟨some 23, .mov (.t 7), none⟩,
      ⟨some 24, .bslice 1 [.t 23], none⟩,
      ⟨some 25, .appG 6 none 1 8 false (.t 22) (.t 24), none⟩,
      ⟨some 6, .mov (.t 25), none⟩] (some [4, 6, 18, 19]))))
   (.ops false [
     ⟨some 26, .bin .add (.t 19) (.k (.int 1)), none⟩,
     ⟨some 19, .mov (.t 26), none⟩] (some [4, 6, 18, 19]))))))))
 (.seq
 (.ops false [
   ⟨some 27, .mov (.t 4), none⟩,
   ⟨some 28, .call 70 [.t 27], none⟩,
   ⟨some 8, .alloc 8 [.int 0, .int 0, .int 0, .int 0], none⟩,
   ⟨none, .store 4 (.t 8) (.t 28) (some 8), none⟩] (some [6, 8]))
 (.seq
 (.opsN false [
   ⟨some 29, .mov (.t 6), none⟩,
   ⟨some 30, .mkf 79 [.t 8], none⟩,
   ⟨some 31, .calli 75 [.t 29, .t 30], none⟩] (some [6]))
 (.seq
 (.opsN false [
   ⟨some 32, .mov (.t 6), none⟩,
   ⟨some 2, .mov (.t 32), none⟩,
   ⟨some 3, .mov (.k (.int 0)), none⟩] (some [2, 3]))
 .ret))))))))

theorem m35 : fmatch Try.prog Try.f35 1 [.tmp 2, .tmp 3] v35 = true := by kernel_rfl

/-- steening/steeningref04.Order -/
def v36 : VC :=
 (.seq
 (.ops false [
   ⟨some 1, .box 1 5 (.t 0), none⟩,
   ⟨some 2, .nils 2 1, none⟩,
   ⟨some 3, .mov (.k (.int 0)), none⟩] (some [1]))
 (.seq
 (.seq
 (.ops false [
   ⟨some 11, .load 5 true (.t 1) [], none⟩,
   ⟨some 12, .call 53 [.t 11], none⟩,
   ⟨some 4, .mov (.t 12), none⟩] (some [1, 4]))
 (.seq
 (.ops false [
   ⟨some 13, .mov (.t 4), none⟩,
   ⟨some 14, .bin .neq (.t 13) (.k (.int 0)), none⟩] (some [1, 4, 14]))
 (.cond (.t 14)
  (.seq
  (.ops false [
    ⟨some 15, .mov (.t 4), none⟩,
    ⟨some 2, .nils 501 1, none⟩,
    ⟨some 3, .mov (.t 15), none⟩] (some [2, 3]))
  .ret)
  .skip)))
 (.seq
 (.ops false [
   ⟨some 16, .fld 2 (.t 1), none⟩,
   ⟨some 17, .load 1 false (.t 16) [], none⟩,
   ⟨some 18, .makes 18 1 8 false [.int 0] (.t 17), none⟩,
   ⟨some 5, .mov (.t 18), none⟩] (some [1, 5]))
 (.seq
 (.seq
 (.ops false [
   ⟨some 6, .mov (.k (.int 0)), none⟩] (some [1, 5, 6]))
 (.block 0
  (.loop
   (.seq
   (.seq
   (.ops false [
     ⟨some 19, .mov (.t 6), none⟩,
     ⟨some 20, .fld 2 (.t 1), none⟩,
     ⟨some 21, .load 1 false (.t 20) [], none⟩,
     ⟨some 22, .bin .lss (.t 19) (.t 21), none⟩] (some [1, 5, 6, 22]))
   (.cond (.t 22)
    .skip
    (.exit 0)))
   (.seq
   (.block 1
    (.seq
    (.ops false [
      ⟨some 7, .mov (.k (.int 0)), none⟩] (some [1, 5, 6, 7]))
    (.seq
    (.seq
    (.ops false [
      ⟨some 8, .mov (.k (.int 0)), none⟩] (some [1, 5, 6, 7, 8]))
    (.block 2
     (.loop
      (.seq
      (.seq
      (.ops false [
        ⟨some 25, .mov (.t 8), none⟩,
        ⟨some 26, .fld 2 (.t 1), none⟩,
        ⟨some 27, .load 1 false (.t 26) [], none⟩,
        ⟨some 28, .bin .lss (.t 25) (.t 27), none⟩] (some [1, 5, 6, 7, 8, 28]))
      (.cond (.t 28)
       .skip
       (.exit 2)))
      (.seq
      (.block 3
       (.seq
       (.ops true [
         ⟨some 31, .load 5 true (.t 1) [], none⟩,
         ⟨some 32, .mov (.t 8), none⟩,
         ⟨some 33, .fld 1 (.t 1), none⟩,
         ⟨some 34, .load 1 false (.t 33) [], none⟩,
         ⟨some 35, .call 32 [.t 31, .t 32, .t 34], none⟩,
         ⟨some 36, .load 5 true (.t 1) [], none⟩,
         ⟨some 37, .mov (.t 6), none⟩,
         ⟨some 38, .fld 1 (.t 1), none⟩,
         ⟨some 39, .load 1 false (.t 38) [], none⟩,
         ⟨some 40, .call 32 [.t 36, .t 37, .t 39], none⟩,
         ⟨some 9, .mov (.t 35), none⟩,
         ⟨some 10, .mov (.t 40), none⟩] (some [1, 5, 6, 7, 8, 9, 10]))
       (.seq
       (.ops false [
         ⟨some 41, .mov (.t 9), none⟩,
         ⟨some 42, .mov (.t 10), none⟩,
         ⟨some 43, .bin .gtr (.t 41) (.t 42), none⟩,
         ⟨some 44, .mov (.t 43), none⟩,
         ⟨some 45, .mov (.t 9), some (44, false)⟩,
         ⟨some 46, .mov (.t 10), some (44, false)⟩,
         ⟨some 47, .bin .eql (.t 45) (.t 46), some (44, false)⟩,
         ⟨some 48, .mov (.t 47), some (44, false)⟩,
         ⟨some 49, .mov (.t 8), some (48, true)⟩,
         ⟨some 50, .mov (.t 6), some (48, true)⟩,
         ⟨some 51, .bin .lss (.t 49) (.t 50), some (48, true)⟩,
         ⟨some 52, .pick (.t 48) (.t 51) (.k (.bool false)), some (44, false)⟩,
         ⟨some 53, .pick (.t 44) (.k (.bool true)) (.t 52), none⟩] (some [1, 5, 6, 7, 8, 53]))
       (.cond (.t 53)
        (.ops false [
          ⟨some 54, .mov (.t 7), none⟩,
          ⟨some 55, .bin .add (.t 54) (.k (.int 1)), none⟩,
          ⟨some 7, .mov (.t 55), none⟩] (some [1, 5, 6, 7, 8]))
        .skip))))
      (.ops false [
        ⟨some 29, .mov (.t 8), none⟩,
        ⟨some 30, .bin .add (.t 29) (.k (.int 1)), none⟩,
        ⟨some 8, .mov (.t 30), none⟩] (some [1, 5, 6, 7, 8])))))))
    (.ops false [
      ⟨some 56, .mov (.t 5), none⟩,
      ⟨some 57, .mov (.t 7), none⟩,
      ⟨some 58, .mov (.t 6), none⟩,
      ⟨some 59, .idx 1 (.t 56) (.t 57), none⟩,
      ⟨none, .store 1 (.t 59) (.t 58) (some 18), none⟩] (some [1, 5, 6])))))
   (.ops false [
     ⟨some 23, .mov (.t 6), none⟩,
     ⟨some 24, .bin .add (.t 23) (.k (.int 1)), none⟩,
     ⟨some 6, .mov (.t 24), none⟩] (some [1, 5, 6])))))))
 (.seq
 (.ops false [
   ⟨some 60, .mov (.t 5), none⟩,
   ⟨some 2, .mov (.t 60), none⟩,
   ⟨some 3, .mov (.k (.int 0)), none⟩] (some [2, 3]))
 .ret)))))

theorem m36 : fmatch Try.prog Try.f36 1 [.tmp 2, .tmp 3] v36 = true := by kernel_rfl

/-- steening/steeningref04.Pay -/
def v37 : VC :=
 (.seq
 (.ops false [
   ⟨some 1, .box 1 5 (.t 0), none⟩,
   ⟨some 2, .nils 2 1, none⟩,
   ⟨some 3, .mov (.k (.int 0)), none⟩] (some [1]))
 (.seq
 (.seq
 (.ops false [
   ⟨some 15, .load 5 true (.t 1) [], none⟩,
   ⟨some 16, .call 53 [.t 15], none⟩,
   ⟨some 4, .mov (.t 16), none⟩] (some [1, 4]))
 (.seq
 (.ops false [
   ⟨some 17, .mov (.t 4), none⟩,
   ⟨some 18, .bin .neq (.t 17) (.k (.int 0)), none⟩] (some [1, 4, 18]))
 (.cond (.t 18)
  (.seq
  (.ops false [
    ⟨some 19, .mov (.t 4), none⟩,
    ⟨some 2, .nils 501 1, none⟩,
    ⟨some 3, .mov (.t 19), none⟩] (some [2, 3]))
  .ret)
  .skip)))
 (.seq
 (.ops false [
   ⟨some 20, .fld 2 (.t 1), none⟩,
   ⟨some 21, .load 1 false (.t 20) [], none⟩,
   ⟨some 22, .makes 22 1 8 false [.int 0] (.t 21), none⟩,
   ⟨some 5, .mov (.t 22), none⟩] (some [1, 5]))
 (.seq
 (.ops false [
   ⟨some 6, .mov (.k (.int 0)), none⟩] (some [1, 5, 6]))
 (.seq
 (.seq
 (.ops false [
   ⟨some 7, .mov (.k (.int 0)), none⟩] (some [1, 5, 6, 7]))
 (.block 0
  (.loop
   (.seq
   (.seq
   (.ops false [
     ⟨some 23, .mov (.t 7), none⟩,
     ⟨some 24, .fld 2 (.t 1), none⟩,
     ⟨some 25, .load 1 false (.t 24) [], none⟩,
     ⟨some 26, .bin .lss (.t 23) (.t 25), none⟩] (some [1, 5, 6, 7, 26]))
   (.cond (.t 26)
    .skip
    (.exit 0)))
   (.seq
   (.block 1
    (.ops false [
      ⟨some 29, .mov (.t 6), none⟩,
      ⟨some 30, .load 5 true (.t 1) [], none⟩,
      ⟨some 31, .mov (.t 7), none⟩,
      ⟨some 32, .fld 1 (.t 1), none⟩,
      ⟨some 33, .load 1 false (.t 32) [], none⟩,
      ⟨some 34, .call 32 [.t 30, .t 31, .t 33], none⟩,
      ⟨some 35, .max (.k (.int 0)) (.t 34), none⟩,
      ⟨some 36, .bin .add (.t 29) (.t 35), none⟩,
      ⟨some 6, .mov (.t 36), none⟩] (some [1, 5, 6, 7])))
   (.ops false [
     ⟨some 27, .mov (.t 7), none⟩,
     ⟨some 28, .bin .add (.t 27) (.k (.int 1)), none⟩,
     ⟨some 7, .mov (.t 28), none⟩] (some [1, 5, 6, 7])))))))
 (.seq
 (.seq
 (.ops false [
   ⟨some 37, .mov (.t 6), none⟩,
   ⟨some 38, .bin .eql (.t 37) (.k (.int 0)), none⟩] (some [1, 5, 6, 38]))
 (.cond (.t 38)
  (.seq
  (.ops false [
    ⟨some 39, .mov (.t 5), none⟩,
    ⟨some 2, .mov (.t 39), none⟩,
    ⟨some 3, .mov (.k (.int 0)), none⟩] (some [2, 3]))
  .ret)
  .skip))
 (.seq
 (.ops false [
   ⟨some 40, .fld 4 (.t 1), none⟩,
   ⟨some 41, .load 1 false (.t 40) [], none⟩,
   ⟨some 8, .mov (.t 41), none⟩] (some [1, 5, 6, 8]))
 (.seq
 (.seq
 (.ops false [
   ⟨some 9, .mov (.k (.int 0)), none⟩] (some [1, 5, 6, 8, 9]))
 (.block 2
  (.loop
   (.seq
   (.seq
   (.ops false [
     ⟨some 42, .mov (.t 9), none⟩,
     ⟨some 43, .fld 2 (.t 1), none⟩,
     ⟨some 44, .load 1 false (.t 43) [], none⟩,
     ⟨some 45, .bin .lss (.t 42) (.t 44), none⟩] (some [1, 5, 6, 8, 9, 45]))
   (.cond (.t 45)
    .skip
    (.exit 2)))
   (.seq
   (.block 3
    (.seq
    (.ops true [
      ⟨some 48, .mov (.t 5), none⟩,
      ⟨some 49, .mov (.t 9), none⟩,
      ⟨some 50, .fld 4 (.t 1), none⟩,
      ⟨some 51, .load 1 false (.t 50) [], none⟩,
      ⟨some 52, .load 5 true (.t 1) [], none⟩,
      ⟨some 53, .mov (.t 9), none⟩,
      ⟨some 54, .fld 1 (.t 1), none⟩,
      ⟨some 55, .load 1 false (.t 54) [], none⟩,
      ⟨some 56, .call 32 [.t 52, .t 53, .t 55], none⟩,
      ⟨some 57, .max (.k (.int 0)) (.t 56), none⟩,
      ⟨some 58, .bin .mul (.t 51) (.t 57), none⟩,
      ⟨some 59, .mov (.t 6), none⟩,
      ⟨some 60, .bin .quo (.t 58) (.t 59), none⟩,
      ⟨some 61, .idx 1 (.t 48) (.t 49), none⟩,
      ⟨none, .store 1 (.t 61) (.t 60) (some 22), none⟩] (some [1, 5, 6, 8, 9]))
    (.ops false [
      ⟨some 62, .mov (.t 8), none⟩,
      ⟨some 63, .mov (.t 5), none⟩,
      ⟨some 64, .mov (.t 9), none⟩,
      ⟨some 65, .idx 1 (.t 63) (.t 64), none⟩,
      ⟨some 66, .load 1 false (.t 65) [], none⟩,
      ⟨some 67, .bin .sub (.t 62) (.t 66), none⟩,
      ⟨some 8, .mov (.t 67), none⟩] (some [1, 5, 6, 8, 9]))))
   (.ops false [
     ⟨some 46, .mov (.t 9), none⟩,
     ⟨some 47, .bin .add (.t 46) (.k (.int 1)), none⟩,
     ⟨some 9, .mov (.t 47), none⟩] (some [1, 5, 6, 8, 9])))))))
 (.seq
 (.ops false [
   ⟨some 10, .nils 10 1, none⟩] (some [1, 5, 6, 8, 10]))
 (.seq
 (.block 4
  (.loop
   (.seq
   (.seq
   (.ops false [
     ⟨some 68, .mov (.t 8), none⟩,
     ⟨some 69, .bin .gtr (.t 68) (.k (.int 0)), none⟩] (some [1, 5, 6, 8, 10, 69]))
   (.cond (.t 69)
    .skip
    (.exit 4)))
   (.seq
   (.block 5
    (.seq
    (.ops false [
      ⟨some 11, .mov (.k (.int (-1))), none⟩,
      ⟨some 12, .mov (.k (.int 0)), none⟩] (some [1, 5, 6, 8, 10, 11, 12]))
    (.seq
    (.seq
    (.ops false [
      ⟨some 13, .mov (.k (.int 0)), none⟩] (some [1, 5, 6, 8, 10, 11, 12, 13]))
    (.block 6
     (.loop
      (.seq
      (.seq
      (.ops false [
        ⟨some 72, .mov (.t 13), none⟩,
        ⟨some 73, .fld 2 (.t 1), none⟩,
        ⟨some 74, .load 1 false (.t 73) [], none⟩,
        ⟨some 75, .bin .lss (.t 72) (.t 74), none⟩] (some [1, 5, 6, 8, 10, 11, 12, 13, 75]))
      (.cond (.t 75)
       .skip
       (.exit 6)))
      (.seq
      (.block 7
       (.seq
       (.ops true [
         ⟨some 78, .fld 4 (.t 1), none⟩,
         ⟨some 79, .load 1 false (.t 78) [], none⟩,
         ⟨some 80, .load 5 true (.t 1) [], none⟩,
         ⟨some 81, .mov (.t 13), none⟩,
         ⟨some 82, .fld 1 (.t 1), none⟩,
         ⟨some 83, .load 1 false (.t 82) [], none⟩,
         ⟨some 84, .call 32 [.t 80, .t 81, .t 83], none⟩,
         ⟨some 85, .max (.k (.int 0)) (.t 84), none⟩,
         ⟨some 86, .bin .mul (.t 79) (.t 85), none⟩,
         ⟨some 87, .mov (.t 6), none⟩,
         ⟨some 88, .bin .rem (.t 86) (.t 87), none⟩,
         ⟨some 14, .mov (.t 88), none⟩] (some [1, 5, 6, 8, 10, 11, 12, 13, 14]))
       (.seq
       (.ops false [
         ⟨some 89, .mov (.t 10), none⟩,
         ⟨some 90, .mov (.t 13), none⟩,
         ⟨some 91, .call 59 [.t 89, .t 90], none⟩,
         ⟨some 92, .not (.t 91), none⟩,
         ⟨some 93, .mov (.t 92), none⟩,
         ⟨some 94, .mov (.t 14), some (93, true)⟩,
         ⟨some 95, .mov (.t 12), some (93, true)⟩,
         ⟨some 96, .bin .gtr (.t 94) (.t 95), some (93, true)⟩,
         ⟨some 97, .pick (.t 93) (.t 96) (.k (.bool false)), none⟩] (some [1, 5, 6, 8, 10, 11, 12, 13, 14, 97]))
       (.cond (.t 97)
        (.ops false [
          ⟨some 98, .mov (.t 13), none⟩,
          ⟨some 99, .mov (.t 14), none⟩,
          ⟨some 11, .mov (.t 98), none⟩,
          ⟨some 12, .mov (.t 99), none⟩] (some [1, 5, 6, 8, 10, 11, 12, 13]))
        .skip))))
      (.ops false [
        ⟨some 76, .mov (.t 13), none⟩,
        ⟨some 77, .bin .add (.t 76) (.k (.int 1)), none⟩,
        ⟨some 13, .mov (.t 77), none⟩] (some [1, 5, 6, 8, 10, 11, 12, 13])))))))
    (.seq
    (.ops false [
      ⟨some 100, .mov (.t 5), none⟩,
      ⟨some 101, .mov (.t 11), none⟩,
      ⟨some 102, .idx 1 (.t 100) (.t 101), none⟩,
      ⟨some 103, .load 1 false (.t 102) [], none⟩,
      ⟨some 104, .bin .add (.t 103) (.k (.int 1)), none⟩,
      ⟨some 105, .idx 1 (.t 100) (.t 101), none⟩,
      ⟨none, .store 1 (.t 105) (.t 104) (some 22), none⟩] (some [1, 5, 6, 8, 10, 11]))
    (.ops false [
      ⟨some 106, .mov (.t 10), none⟩,
      ⟨some 107, .mov (.t 11), none⟩,
      ⟨some 108, .bslice 1 [.t 107], none⟩,
      ⟨some 109, .app 109 1 8 (.t 106) (.t 108), none⟩,
      ⟨some 10, .mov (.t 109), none⟩] (some [1, 5, 6, 8, 10]))))))
   (.ops false [
     ⟨some 70, .mov (.t 8), none⟩,
     ⟨some 71, .bin .sub (.t 70) (.k (.int 1)), none⟩,
     ⟨some 8, .mov (.t 71), none⟩] (some [1, 5, 6, 8, 10]))))))
 (.seq
 (.ops false [
   ⟨some 110, .mov (.t 5), none⟩,
   ⟨some 2, .mov (.t 110), none⟩,
   ⟨some 3, .mov (.k (.int 0)), none⟩] (some [2, 3]))
 .ret)))))))))))

theorem m37 : fmatch Try.prog Try.f37 1 [.tmp 2, .tmp 3] v37 = true := by kernel_rfl

/-- steening/steeningref01.SameInts -/
def v38 : VC :=
 (.seq
 (.ops false [
   ⟨some 4, .mov (.k (.bool false)), none⟩] (some [0, 1]))
 (.seq
 (.seq
 (.ops false [
   ⟨some 6, .mov (.t 0), none⟩,
   ⟨some 7, .len (.t 6), none⟩,
   ⟨some 8, .mov (.t 1), none⟩,
   ⟨some 9, .len (.t 8), none⟩,
   ⟨some 10, .bin .neq (.t 7) (.t 9), none⟩] (some [0, 1, 10]))
 (.cond (.t 10)
  (.seq
  (.ops false [
    ⟨some 4, .mov (.k (.bool false)), none⟩] (some [4]))
  .ret)
  .skip))
 (.seq
 (.seq
 (.ops false [
   ⟨some 5, .mov (.k (.int 0)), none⟩] (some [0, 1, 5]))
 (.block 0
  (.loop
   (.seq
   (.seq
   (.ops false [
     ⟨some 11, .mov (.t 5), none⟩,
     ⟨some 12, .mov (.t 0), none⟩,
     ⟨some 13, .len (.t 12), none⟩,
     ⟨some 14, .bin .lss (.t 11) (.t 13), none⟩] (some [0, 1, 5, 14]))
   (.cond (.t 14)
    .skip
    (.exit 0)))
   (.seq
   (.block 1
    (.seq
    (.ops true [
      ⟨some 17, .mov (.t 0), none⟩,
      ⟨some 18, .mov (.t 5), none⟩,
      ⟨some 19, .idx 1 (.t 17) (.t 18), none⟩,
      ⟨some 20, .load 1 false (.t 19) [], none⟩,
      ⟨some 21, .mov (.t 1), none⟩,
      ⟨some 22, .mov (.t 5), none⟩,
      ⟨some 23, .idx 1 (.t 21) (.t 22), none⟩,
      ⟨some 24, .load 1 false (.t 23) [], none⟩,
      ⟨some 25, .bin .neq (.t 20) (.t 24), none⟩] (some [0, 1, 5, 25]))
    (.cond (.t 25)
     (.seq
     (.ops false [
       ⟨some 4, .mov (.k (.bool false)), none⟩] (some [4]))
     .ret)
     .skip)))
   (.ops false [
     ⟨some 15, .mov (.t 5), none⟩,
     ⟨some 16, .bin .add (.t 15) (.k (.int 1)), none⟩,
     ⟨some 5, .mov (.t 16), none⟩] (some [0, 1, 5])))))))
 (.seq
 (.ops false [
   ⟨some 4, .mov (.k (.bool true)), none⟩] (some [4]))
 .ret))))

theorem m38 : fmatch Try.prog Try.f38 2 [.tmp 4] v38 = true := by kernel_rfl

/-- steening/steeninglaw04.Same -/
def v39 : VC :=
 (.seq
 (.ops false [
   ⟨some 2, .box 2 5 (.t 0), none⟩,
   ⟨some 3, .box 3 5 (.t 1), none⟩,
   ⟨some 4, .mov (.k (.bool false)), none⟩] (some [2, 3]))
 (.seq
 (.seq
 (.ops false [
   ⟨some 6, .fld 0 (.t 2), none⟩,
   ⟨some 7, .load 1 false (.t 6) [], none⟩,
   ⟨some 8, .fld 0 (.t 3), none⟩,
   ⟨some 9, .load 1 false (.t 8) [], none⟩,
   ⟨some 10, .bin .neq (.t 7) (.t 9), none⟩,
   ⟨some 11, .mov (.t 10), none⟩,
   ⟨some 12, .fld 1 (.t 2), some (11, false)⟩,
   ⟨some 13, .load 1 false (.t 12) [], some (11, false)⟩,
   ⟨some 14, .fld 1 (.t 3), some (11, false)⟩,
   ⟨some 15, .load 1 false (.t 14) [], some (11, false)⟩,
   ⟨some 16, .call 38 [.t 13, .t 15], some (11, false)⟩,
   ⟨some 17, .not (.t 16), some (11, false)⟩,
   ⟨some 18, .pick (.t 11) (.k (.bool true)) (.t 17), none⟩,
   ⟨some 19, .mov (.t 18), none⟩,
   ⟨some 20, .fld 2 (.t 2), some (19, false)⟩,
   ⟨some 21, .load 1 false (.t 20) [], some (19, false)⟩,
   ⟨some 22, .fld 2 (.t 3), some (19, false)⟩,
   ⟨some 23, .load 1 false (.t 22) [], some (19, false)⟩,
   ⟨some 24, .bin .neq (.t 21) (.t 23), some (19, false)⟩,
   ⟨some 25, .pick (.t 19) (.k (.bool true)) (.t 24), none⟩,
   ⟨some 26, .mov (.t 25), none⟩,
   ⟨some 27, .fld 4 (.t 2), some (26, false)⟩,
   ⟨some 28, .load 1 false (.t 27) [], some (26, false)⟩,
   ⟨some 29, .fld 4 (.t 3), some (26, false)⟩,
   ⟨some 30, .load 1 false (.t 29) [], some (26, false)⟩,
   ⟨some 31, .bin .neq (.t 28) (.t 30), some (26, false)⟩,
   ⟨some 32, .pick (.t 26) (.k (.bool true)) (.t 31), none⟩,
   ⟨some 33, .mov (.t 32), none⟩,
   ⟨some 34, .fld 3 (.t 2), some (33, false)⟩,
   ⟨some 35, .load 1 false (.t 34) [], some (33, false)⟩,
   ⟨some 36, .len (.t 35), some (33, false)⟩,
   ⟨some 37, .fld 3 (.t 3), some (33, false)⟩,
   ⟨some 38, .load 1 false (.t 37) [], some (33, false)⟩,
   ⟨some 39, .len (.t 38), some (33, false)⟩,
   ⟨some 40, .bin .neq (.t 36) (.t 39), some (33, false)⟩,
   ⟨some 41, .pick (.t 33) (.k (.bool true)) (.t 40), none⟩] (some [2, 3, 41]))
 (.cond (.t 41)
  (.seq
  (.ops false [
    ⟨some 4, .mov (.k (.bool false)), none⟩] (some [4]))
  .ret)
  .skip))
 (.seq
 (.seq
 (.ops false [
   ⟨some 5, .mov (.k (.int 0)), none⟩] (some [2, 3, 5]))
 (.block 0
  (.loop
   (.seq
   (.seq
   (.ops false [
     ⟨some 42, .mov (.t 5), none⟩,
     ⟨some 43, .fld 3 (.t 2), none⟩,
     ⟨some 44, .load 1 false (.t 43) [], none⟩,
     ⟨some 45, .len (.t 44), none⟩,
     ⟨some 46, .bin .lss (.t 42) (.t 45), none⟩] (some [2, 3, 5, 46]))
   (.cond (.t 46)
    .skip
    (.exit 0)))
   (.seq
   (.block 1
    (.seq
    (.ops true [
      ⟨some 49, .fld 3 (.t 2), none⟩,
      ⟨some 50, .load 1 false (.t 49) [], none⟩,
      ⟨some 51, .mov (.t 5), none⟩,
      ⟨some 52, .idx 4 (.t 50) (.t 51), none⟩,
      ⟨some 53, .load 4 true (.t 52) [], none⟩,
      ⟨some 54, .fld 3 (.t 3), none⟩,
      ⟨some 55, .load 1 false (.t 54) [], none⟩,
      ⟨some 56, .mov (.t 5), none⟩,
      ⟨some 57, .idx 4 (.t 55) (.t 56), none⟩,
      ⟨some 58, .load 4 true (.t 57) [], none⟩,
      ⟨some 59, .bin (.sne 4) (.t 53) (.t 58), none⟩] (some [2, 3, 5, 59]))
    (.cond (.t 59)
     (.seq
     (.ops false [
       ⟨some 4, .mov (.k (.bool false)), none⟩] (some [4]))
     .ret)
     .skip)))
   (.ops false [
     ⟨some 47, .mov (.t 5), none⟩,
     ⟨some 48, .bin .add (.t 47) (.k (.int 1)), none⟩,
     ⟨some 5, .mov (.t 48), none⟩] (some [2, 3, 5])))))))
 (.seq
 (.ops false [
   ⟨some 4, .mov (.k (.bool true)), none⟩] (some [4]))
 .ret))))

theorem m39 : fmatch Try.prog Try.f39 2 [.tmp 4] v39 = true := by kernel_rfl

/-- steening/steeningref04.IsHundredths -/
def v40 : VC :=
 (.seq
 (.ops false [
   ⟨some 2, .mov (.k (.bool false)), none⟩] (some [0]))
 (.seq
 (.ops false [
   ⟨some 3, .mov (.t 0), none⟩,
   ⟨some 4, .call 64 [.t 3, .k (.int 1), .k (.int 99)], none⟩,
   ⟨some 2, .mov (.t 4), none⟩] (some [2]))
 .ret))

theorem m40 : fmatch Try.prog Try.f40 1 [.tmp 2] v40 = true := by kernel_rfl

/-- steening/dowsers.More -/
def v41 : VC :=
 (.seq
 (.ops false [
   ⟨some 4, .box 4 5 (.t 0), none⟩,
   ⟨some 8, .mov (.k (.int 0)), none⟩,
   ⟨some 9, .mov (.k (.int 0)), none⟩] (some [1, 2, 3, 4]))
 (.seq
 (.ops true [
   ⟨some 16, .load 5 true (.t 4) [], none⟩,
   ⟨some 17, .load 5 true (.t 4) [], none⟩,
   ⟨some 18, .mov (.t 1), none⟩,
   ⟨some 19, .call 67 [.t 17, .t 18], none⟩,
   ⟨some 20, .mov (.t 19), none⟩,
   ⟨some 21, .mov (.t 3), some (20, true)⟩,
   ⟨some 22, .call 80 [.t 21, .k (.int 1), .k (.int 99)], some (20, true)⟩,
   ⟨some 23, .pick (.t 20) (.t 22) (.k (.bool false)), none⟩,
   ⟨some 24, .mov (.t 23), none⟩,
   ⟨some 25, .mov (.t 2), some (24, true)⟩,
   ⟨some 26, .fld 0 (.t 4), some (24, true)⟩,
   ⟨some 27, .load 1 false (.t 26) [], some (24, true)⟩,
   ⟨some 28, .call 80 [.t 25, .k (.int 1), .t 27], some (24, true)⟩,
   ⟨some 29, .pick (.t 24) (.t 28) (.k (.bool false)), none⟩,
   ⟨some 30, .call 66 [.t 16, .t 29], none⟩,
   ⟨some 15, .mov (.t 30), none⟩,
   ⟨some 31, .ext (.t 15) 0, none⟩,
   ⟨some 32, .ext (.t 15) 1, none⟩,
   ⟨some 10, .mov (.t 31), none⟩,
   ⟨some 11, .mov (.t 32), none⟩] (some [1, 2, 3, 4, 10, 11]))
 (.seq
 (.seq
 (.ops false [
   ⟨some 33, .mov (.t 11), none⟩,
   ⟨some 34, .bin .neq (.t 33) (.k (.int 0)), none⟩] (some [1, 2, 3, 4, 10, 11, 34]))
 (.cond (.t 34)
  (.seq
  (.ops false [
    ⟨some 35, .mov (.t 11), none⟩,
    ⟨some 8, .mov (.k (.int 0)), none⟩,
    ⟨some 9, .mov (.t 35), none⟩] (some [8, 9]))
  .ret)
  .skip))
 (.seq
 (.ops false [
   ⟨some 37, .mov (.t 10), none⟩,
   ⟨some 38, .mov (.t 1), none⟩,
   ⟨some 39, .call 71 [.t 37, .t 38], none⟩,
   ⟨some 36, .mov (.t 39), none⟩,
   ⟨some 40, .ext (.t 36) 0, none⟩,
   ⟨some 41, .ext (.t 36) 1, none⟩,
   ⟨some 12, .alloc 12 [.sl 1 [] .full, .int 0], none⟩,
   ⟨none, .store 2 (.t 12) (.t 40) (some 12), none⟩,
   ⟨some 13, .mov (.t 41), none⟩] (some [2, 3, 4, 12, 13]))
 (.seq
 (.seq
 (.ops false [
   ⟨some 42, .mov (.k (.int 0)), none⟩] (some [2, 3, 4, 12, 13, 42]))
 (.block 0
  (.loop
   (.seq
   (.ops false [
     ⟨some 43, .bin .lss (.t 42) (.k (.int 7)), none⟩] (some [2, 3, 4, 12, 13, 42, 43]))
   (.seq
   (.cond (.t 43)
    .skip
    (.exit 0))
   (.seq
   (.block 1
    (.seq
    (.ops false [
      ⟨some 44, .mov (.t 42), none⟩,
      ⟨some 14, .mov (.t 44), none⟩] (some [2, 3, 4, 12, 13, 14, 42]))
    (.seq
    (.seq
    (.ops false [
      ⟨some 45, .load 2 true (.t 12) [], none⟩,
      ⟨some 46, .mov (.t 13), none⟩,
      ⟨some 47, .mov (.t 14), none⟩,
      ⟨some 48, .bin .add (.t 46) (.t 47), none⟩,
      ⟨some 49, .call 72 [.t 45, .t 48], none⟩,
      ⟨some 50, .mov (.t 3), none⟩,
      ⟨some 51, .call 81 [.t 49, .t 50], none⟩] (some [2, 3, 4, 12, 13, 14, 42, 51]))
    (.cond (.t 51)
     (.seq
     (.ops false [
       ⟨some 52, .mov (.t 14), none⟩,
       ⟨some 8, .mov (.t 52), none⟩,
       ⟨some 9, .mov (.k (.int 0)), none⟩] (some [8, 9]))
     .ret)
     .skip))
    (.ops false [
      ⟨some 53, .load 2 true (.t 12) [], none⟩,
      ⟨some 54, .mov (.t 2), none⟩,
      ⟨some 55, .fld 0 (.t 4), none⟩,
      ⟨some 56, .load 1 false (.t 55) [], none⟩,
      ⟨some 57, .call 82 [.t 53, .t 54, .t 56], none⟩,
      ⟨none, .store 2 (.t 12) (.t 57) (some 12), none⟩] (some [2, 3, 4, 12, 13, 42])))))
   (.ops false [
     ⟨some 58, .bin .add (.t 42) (.k (.int 1)), none⟩,
     ⟨some 42, .mov (.t 58), none⟩] (some [2, 3, 4, 12, 13, 42]))))))))
 (.seq
 (.ops false [
   ⟨some 8, .mov (.k (.int 0)), none⟩,
   ⟨some 9, .mov (.k (.int 2)), none⟩] (some [8, 9]))
 .ret))))))

theorem m41 : fmatch Try.prog Try.f41 4 [.tmp 8, .tmp 9] v41 = true := by kernel_rfl

/-- steening/dowsers.Shows -/
def v42 : VC :=
 (.seq
 (.ops false [
   ⟨some 3, .box 3 5 (.t 0), none⟩,
   ⟨some 6, .mov (.k (.bool false)), none⟩,
   ⟨some 7, .mov (.k (.int 0)), none⟩] (some [1, 2, 3]))
 (.seq
 (.seq
 (.ops true [
   ⟨some 13, .load 5 true (.t 3) [], none⟩,
   ⟨some 14, .load 5 true (.t 3) [], none⟩,
   ⟨some 15, .mov (.t 1), none⟩,
   ⟨some 16, .call 67 [.t 14, .t 15], none⟩,
   ⟨some 17, .mov (.t 16), none⟩,
   ⟨some 18, .mov (.t 2), some (17, true)⟩,
   ⟨some 19, .call 80 [.t 18, .k (.int 1), .k (.int 99)], some (17, true)⟩,
   ⟨some 20, .pick (.t 17) (.t 19) (.k (.bool false)), none⟩,
   ⟨some 21, .call 66 [.t 13, .t 20], none⟩,
   ⟨some 12, .mov (.t 21), none⟩,
   ⟨some 22, .ext (.t 12) 0, none⟩,
   ⟨some 23, .ext (.t 12) 1, none⟩,
   ⟨some 8, .mov (.t 22), none⟩,
   ⟨some 9, .mov (.t 23), none⟩] (some [1, 2, 3, 9]))
 (.seq
 (.ops false [
   ⟨some 24, .mov (.t 9), none⟩,
   ⟨some 25, .bin .neq (.t 24) (.k (.int 0)), none⟩] (some [1, 2, 3, 9, 25]))
 (.cond (.t 25)
  (.seq
  (.ops false [
    ⟨some 26, .mov (.t 9), none⟩,
    ⟨some 6, .mov (.k (.bool false)), none⟩,
    ⟨some 7, .mov (.t 26), none⟩] (some [6, 7]))
  .ret)
  .skip)))
 (.seq
 (.ops false [
   ⟨some 28, .load 5 true (.t 3) [], none⟩,
   ⟨some 29, .mov (.t 1), none⟩,
   ⟨some 30, .call 26 [.t 28, .t 29], none⟩,
   ⟨some 27, .mov (.t 30), none⟩,
   ⟨some 31, .ext (.t 27) 0, none⟩,
   ⟨some 32, .ext (.t 27) 1, none⟩,
   ⟨some 10, .alloc 10 [.int 0, .int 0], none⟩,
   ⟨none, .store 2 (.t 10) (.t 31) (some 10), none⟩,
   ⟨some 11, .mov (.t 32), none⟩] (some [2, 10]))
 (.seq
 (.ops false [
   ⟨some 33, .load 2 true (.t 10) [], none⟩,
   ⟨some 34, .mov (.t 2), none⟩,
   ⟨some 35, .call 81 [.t 33, .t 34], none⟩,
   ⟨some 6, .mov (.t 35), none⟩,
   ⟨some 7, .mov (.k (.int 0)), none⟩] (some [6, 7]))
 .ret))))

theorem m42 : fmatch Try.prog Try.f42 3 [.tmp 6, .tmp 7] v42 = true := by kernel_rfl

/-- steening/steeningref04.Small -/
def v43 : VC :=
 (.seq
 (.ops false [
   ⟨some 2, .box 2 2 (.t 0), none⟩,
   ⟨some 4, .mov (.k (.bool false)), none⟩] (some [1, 2]))
 (.seq
 (.ops false [
   ⟨some 5, .fld 0 (.t 2), none⟩,
   ⟨some 6, .load 1 false (.t 5) [], none⟩,
   ⟨some 7, .bin .mul (.k (.int 100)) (.t 6), none⟩,
   ⟨some 8, .mov (.t 1), none⟩,
   ⟨some 9, .fld 1 (.t 2), none⟩,
   ⟨some 10, .load 1 false (.t 9) [], none⟩,
   ⟨some 11, .bin .mul (.t 8) (.t 10), none⟩,
   ⟨some 12, .bin .leq (.t 7) (.t 11), none⟩,
   ⟨some 4, .mov (.t 12), none⟩] (some [4]))
 .ret))

theorem m43 : fmatch Try.prog Try.f43 2 [.tmp 4] v43 = true := by kernel_rfl

/-- steening/steeningref04.Chance -/
def v44 : VC :=
 (.seq
 (.ops false [
   ⟨some 2, .box 2 5 (.t 0), none⟩,
   ⟨some 4, .alloc 4 [.int 0, .int 0], none⟩,
   ⟨some 5, .mov (.k (.int 0)), none⟩] (some [1, 2, 4]))
 (.seq
 (.seq
 (.ops true [
   ⟨some 7, .load 5 true (.t 2) [], none⟩,
   ⟨some 8, .load 5 true (.t 2) [], none⟩,
   ⟨some 9, .mov (.t 1), none⟩,
   ⟨some 10, .call 16 [.t 8, .t 9], none⟩,
   ⟨some 11, .call 78 [.t 7, .t 10], none⟩,
   ⟨some 6, .mov (.t 11), none⟩] (some [1, 2, 4, 6]))
 (.seq
 (.ops false [
   ⟨some 12, .mov (.t 6), none⟩,
   ⟨some 13, .bin .neq (.t 12) (.k (.int 0)), none⟩] (some [1, 2, 4, 6, 13]))
 (.cond (.t 13)
  (.seq
  (.ops false [
    ⟨some 14, .build [.int 0, .int 0] [], none⟩,
    ⟨some 15, .mov (.t 6), none⟩,
    ⟨none, .store 2 (.t 4) (.t 14) (some 4), none⟩,
    ⟨some 5, .mov (.t 15), none⟩] (some [4, 5]))
  .ret)
  .skip)))
 (.seq
 (.ops false [
   ⟨some 16, .load 5 true (.t 2) [], none⟩,
   ⟨some 17, .mov (.t 1), none⟩,
   ⟨some 18, .call 83 [.t 16, .t 17, .k (.int 1), .k (.int 0)], none⟩,
   ⟨none, .store 2 (.t 4) (.t 18) (some 4), none⟩,
   ⟨some 5, .mov (.k (.int 0)), none⟩] (some [4, 5]))
 .ret)))

theorem m44 : fmatch Try.prog Try.f44 2 [.cell 4 44, .tmp 5] v44 = true := by kernel_rfl

/-- steening/steeningref04.Shows -/
def v45 : VC :=
 (.seq
 (.ops false [
   ⟨some 3, .box 3 5 (.t 0), none⟩,
   ⟨some 6, .mov (.k (.bool false)), none⟩,
   ⟨some 7, .mov (.k (.int 0)), none⟩] (some [1, 2, 3]))
 (.seq
 (.seq
 (.ops true [
   ⟨some 9, .load 5 true (.t 3) [], none⟩,
   ⟨some 10, .load 5 true (.t 3) [], none⟩,
   ⟨some 11, .mov (.t 1), none⟩,
   ⟨some 12, .call 16 [.t 10, .t 11], none⟩,
   ⟨some 13, .mov (.t 12), none⟩,
   ⟨some 14, .mov (.t 2), some (13, true)⟩,
   ⟨some 15, .call 40 [.t 14], some (13, true)⟩,
   ⟨some 16, .pick (.t 13) (.t 15) (.k (.bool false)), none⟩,
   ⟨some 17, .call 78 [.t 9, .t 16], none⟩,
   ⟨some 8, .mov (.t 17), none⟩] (some [1, 2, 3, 8]))
 (.seq
 (.ops false [
   ⟨some 18, .mov (.t 8), none⟩,
   ⟨some 19, .bin .neq (.t 18) (.k (.int 0)), none⟩] (some [1, 2, 3, 8, 19]))
 (.cond (.t 19)
  (.seq
  (.ops false [
    ⟨some 20, .mov (.t 8), none⟩,
    ⟨some 6, .mov (.k (.bool false)), none⟩,
    ⟨some 7, .mov (.t 20), none⟩] (some [6, 7]))
  .ret)
  .skip)))
 (.seq
 (.ops false [
   ⟨some 21, .load 5 true (.t 3) [], none⟩,
   ⟨some 22, .mov (.t 1), none⟩,
   ⟨some 23, .call 83 [.t 21, .t 22, .k (.int 1), .k (.int 0)], none⟩,
   ⟨some 24, .mov (.t 2), none⟩,
   ⟨some 25, .call 43 [.t 23, .t 24], none⟩,
   ⟨some 6, .mov (.t 25), none⟩,
   ⟨some 7, .mov (.k (.int 0)), none⟩] (some [6, 7]))
 .ret)))

theorem m45 : fmatch Try.prog Try.f45 3 [.tmp 6, .tmp 7] v45 = true := by kernel_rfl

/-- steening/steeningref04.More -/
def v46 : VC :=
 (.seq
 (.ops false [
   ⟨some 4, .box 4 5 (.t 0), none⟩,
   ⟨some 8, .mov (.k (.int 0)), none⟩,
   ⟨some 9, .mov (.k (.int 0)), none⟩] (some [1, 2, 3, 4]))
 (.seq
 (.seq
 (.ops true [
   ⟨some 12, .load 5 true (.t 4) [], none⟩,
   ⟨some 13, .load 5 true (.t 4) [], none⟩,
   ⟨some 14, .mov (.t 1), none⟩,
   ⟨some 15, .call 16 [.t 13, .t 14], none⟩,
   ⟨some 16, .mov (.t 15), none⟩,
   ⟨some 17, .mov (.t 3), some (16, true)⟩,
   ⟨some 18, .call 40 [.t 17], some (16, true)⟩,
   ⟨some 19, .pick (.t 16) (.t 18) (.k (.bool false)), none⟩,
   ⟨some 20, .mov (.t 19), none⟩,
   ⟨some 21, .mov (.t 2), some (20, true)⟩,
   ⟨some 22, .fld 0 (.t 4), some (20, true)⟩,
   ⟨some 23, .load 1 false (.t 22) [], some (20, true)⟩,
   ⟨some 24, .call 64 [.t 21, .k (.int 1), .t 23], some (20, true)⟩,
   ⟨some 25, .pick (.t 20) (.t 24) (.k (.bool false)), none⟩,
   ⟨some 26, .call 78 [.t 12, .t 25], none⟩,
   ⟨some 10, .mov (.t 26), none⟩] (some [1, 2, 3, 4, 10]))
 (.seq
 (.ops false [
   ⟨some 27, .mov (.t 10), none⟩,
   ⟨some 28, .bin .neq (.t 27) (.k (.int 0)), none⟩] (some [1, 2, 3, 4, 10, 28]))
 (.cond (.t 28)
  (.seq
  (.ops false [
    ⟨some 29, .mov (.t 10), none⟩,
    ⟨some 8, .mov (.k (.int 0)), none⟩,
    ⟨some 9, .mov (.t 29), none⟩] (some [8, 9]))
  .ret)
  .skip)))
 (.seq
 (.seq
 (.ops false [
   ⟨some 11, .mov (.k (.int 0)), none⟩] (some [1, 2, 3, 4, 11]))
 (.block 0
  (.loop
   (.seq
   (.seq
   (.ops false [
     ⟨some 30, .mov (.t 11), none⟩,
     ⟨some 31, .bin .leq (.t 30) (.k (.int 6)), none⟩] (some [1, 2, 3, 4, 11, 31]))
   (.cond (.t 31)
    .skip
    (.exit 0)))
   (.seq
   (.block 1
    (.seq
    (.ops false [
      ⟨some 34, .load 5 true (.t 4) [], none⟩,
      ⟨some 35, .mov (.t 1), none⟩,
      ⟨some 36, .mov (.t 2), none⟩,
      ⟨some 37, .mov (.t 11), none⟩,
      ⟨some 38, .call 83 [.t 34, .t 35, .t 36, .t 37], none⟩,
      ⟨some 39, .mov (.t 3), none⟩,
      ⟨some 40, .call 43 [.t 38, .t 39], none⟩] (some [1, 2, 3, 4, 11, 40]))
    (.cond (.t 40)
     (.seq
     (.ops false [
       ⟨some 41, .mov (.t 11), none⟩,
       ⟨some 8, .mov (.t 41), none⟩,
       ⟨some 9, .mov (.k (.int 0)), none⟩] (some [8, 9]))
     .ret)
     .skip)))
   (.ops false [
     ⟨some 32, .mov (.t 11), none⟩,
     ⟨some 33, .bin .add (.t 32) (.k (.int 1)), none⟩,
     ⟨some 11, .mov (.t 33), none⟩] (some [1, 2, 3, 4, 11])))))))
 (.seq
 (.ops false [
   ⟨some 8, .mov (.k (.int 0)), none⟩,
   ⟨some 9, .mov (.k (.int 2)), none⟩] (some [8, 9]))
 .ret))))

theorem m46 : fmatch Try.prog Try.f46 4 [.tmp 8, .tmp 9] v46 = true := by kernel_rfl

/-- steening/steeningref04.IsSaying -/
def v47 : VC :=
 (.seq
 (.ops false [
   ⟨some 2, .box 2 5 (.t 0), none⟩,
   ⟨some 4, .mov (.k (.bool false)), none⟩] (some [1, 2]))
 (.seq
 (.ops false [
   ⟨some 5, .mov (.t 1), none⟩,
   ⟨some 6, .fld 3 (.t 2), none⟩,
   ⟨some 7, .load 1 false (.t 6) [], none⟩,
   ⟨some 8, .len (.t 7), none⟩,
   ⟨some 9, .bin .sub (.t 8) (.k (.int 1)), none⟩,
   ⟨some 10, .call 64 [.t 5, .k (.int 0), .t 9], none⟩,
   ⟨some 4, .mov (.t 10), none⟩] (some [4]))
 .ret))

theorem m47 : fmatch Try.prog Try.f47 2 [.tmp 4] v47 = true := by kernel_rfl

/-- steening/steeningref04.WidthOf -/
def v51 : VC :=
 (.seq
 (.ops false [
   ⟨some 1, .box 1 4 (.t 0), none⟩,
   ⟨some 2, .mov (.k (.int 0)), none⟩] (some [1]))
 (.seq
 (.ops false [
   ⟨some 3, .fld 3 (.t 1), none⟩,
   ⟨some 4, .load 1 false (.t 3) [], none⟩,
   ⟨some 5, .fld 2 (.t 1), none⟩,
   ⟨some 6, .load 1 false (.t 5) [], none⟩,
   ⟨some 7, .bin .sub (.t 4) (.t 6), none⟩,
   ⟨some 8, .bin .add (.t 7) (.k (.int 1)), none⟩,
   ⟨some 2, .mov (.t 8), none⟩] (some [2]))
 .ret))

theorem m51 : fmatch Try.prog Try.f51 1 [.tmp 2] v51 = true := by kernel_rfl

/-- steening/dowsers.Check -/
def v52 : VC :=
 (.seq
 (.ops false [
   ⟨some 1, .box 1 5 (.t 0), none⟩,
   ⟨some 2, .mov (.k (.int 0)), none⟩] (some [1]))
 (.seq
 (.seq
 (.ops false [
   ⟨some 7, .fld 0 (.t 1), none⟩,
   ⟨some 8, .load 1 false (.t 7) [], none⟩,
   ⟨some 9, .call 80 [.t 8, .k (.int 1), .k (.int 12)], none⟩,
   ⟨some 10, .not (.t 9), none⟩,
   ⟨some 11, .mov (.t 10), none⟩,
   ⟨some 12, .fld 1 (.t 1), some (11, false)⟩,
   ⟨some 13, .load 1 false (.t 12) [], some (11, false)⟩,
   ⟨some 14, .len (.t 13), some (11, false)⟩,
   ⟨some 15, .bin .gtr (.t 14) (.k (.int 6)), some (11, false)⟩,
   ⟨some 16, .pick (.t 11) (.k (.bool true)) (.t 15), none⟩,
   ⟨some 17, .mov (.t 16), none⟩,
   ⟨some 18, .fld 2 (.t 1), some (17, false)⟩,
   ⟨some 19, .load 1 false (.t 18) [], some (17, false)⟩,
   ⟨some 20, .call 80 [.t 19, .k (.int 0), .k (.int 4)], some (17, false)⟩,
   ⟨some 21, .not (.t 20), some (17, false)⟩,
   ⟨some 22, .pick (.t 17) (.k (.bool true)) (.t 21), none⟩,
   ⟨some 23, .mov (.t 22), none⟩,
   ⟨some 24, .fld 4 (.t 1), some (23, false)⟩,
   ⟨some 25, .load 1 false (.t 24) [], some (23, false)⟩,
   ⟨some 26, .call 80 [.t 25, .k (.int 0), .k (.int 999)], some (23, false)⟩,
   ⟨some 27, .not (.t 26), some (23, false)⟩,
   ⟨some 28, .pick (.t 23) (.k (.bool true)) (.t 27), none⟩] (some [1, 28]))
 (.cond (.t 28)
  (.seq
  (.ops false [
    ⟨some 2, .mov (.k (.int 40)), none⟩] (some [2]))
  .ret)
  .skip))
 (.seq
 (.seq
 (.ops false [
   ⟨some 29, .fld 1 (.t 1), none⟩,
   ⟨some 30, .load 1 false (.t 29) [], none⟩,
   ⟨some 31, .len (.t 30), none⟩,
   ⟨some 32, .mov (.k (.int 0)), none⟩] (some [1, 30, 31, 32]))
 (.block 0
  (.loop
   (.seq
   (.ops false [
     ⟨some 33, .bin .lss (.t 32) (.t 31), none⟩] (some [1, 30, 31, 32, 33]))
   (.seq
   (.cond (.t 33)
    .skip
    (.exit 0))
   (.seq
   (.block 1
    (.seq
    (.ops false [
      ⟨some 34, .idx 1 (.t 30) (.t 32), none⟩,
      ⟨some 35, .load 1 false (.t 34) [], none⟩,
      ⟨some 4, .mov (.t 35), none⟩] (some [1, 4, 30, 31, 32]))
    (.seq
    (.ops false [
      ⟨some 36, .mov (.t 4), none⟩,
      ⟨some 37, .fld 0 (.t 1), none⟩,
      ⟨some 38, .load 1 false (.t 37) [], none⟩,
      ⟨some 39, .call 80 [.t 36, .k (.int 0), .t 38], none⟩,
      ⟨some 40, .not (.t 39), none⟩] (some [1, 30, 31, 32, 40]))
    (.cond (.t 40)
     (.seq
     (.ops false [
       ⟨some 2, .mov (.k (.int 40)), none⟩] (some [2]))
     .ret)
     .skip))))
   (.ops false [
     ⟨some 41, .bin .add (.t 32) (.k (.int 1)), none⟩,
     ⟨some 32, .mov (.t 41), none⟩] (some [1, 30, 31, 32]))))))))
 (.seq
 (.seq
 (.ops false [
   ⟨some 42, .fld 3 (.t 1), none⟩,
   ⟨some 43, .load 1 false (.t 42) [], none⟩,
   ⟨some 44, .len (.t 43), none⟩,
   ⟨some 45, .mov (.k (.int 0)), none⟩] (some [1, 43, 44, 45]))
 (.block 2
  (.loop
   (.seq
   (.ops false [
     ⟨some 46, .bin .lss (.t 45) (.t 44), none⟩] (some [1, 43, 44, 45, 46]))
   (.seq
   (.cond (.t 46)
    .skip
    (.exit 2))
   (.seq
   (.block 3
    (.seq
    (.ops false [
      ⟨some 47, .mov (.t 45), none⟩,
      ⟨some 48, .idx 4 (.t 43) (.t 45), none⟩,
      ⟨some 49, .load 4 true (.t 48) [], none⟩,
      ⟨some 6, .alloc 6 [.int 0, .int 0, .int 0, .int 0], none⟩,
      ⟨some 5, .mov (.t 47), none⟩,
      ⟨none, .store 4 (.t 6) (.t 49) (some 6), none⟩] (some [1, 5, 6, 43, 44, 45]))
    (.seq
    (.seq
    (.ops false [
      ⟨some 50, .fld 0 (.t 6), none⟩,
      ⟨some 51, .load 1 false (.t 50) [], none⟩,
      ⟨some 52, .fld 2 (.t 1), none⟩,
      ⟨some 53, .load 1 false (.t 52) [], none⟩,
      ⟨some 54, .bin .sub (.t 53) (.k (.int 1)), none⟩,
      ⟨some 55, .call 80 [.t 51, .k (.int 0), .t 54], none⟩,
      ⟨some 56, .not (.t 55), none⟩,
      ⟨some 57, .mov (.t 56), none⟩,
      ⟨some 58, .fld 1 (.t 6), some (57, false)⟩,
      ⟨some 59, .load 1 false (.t 58) [], some (57, false)⟩,
      ⟨some 60, .fld 1 (.t 1), some (57, false)⟩,
      ⟨some 61, .load 1 false (.t 60) [], some (57, false)⟩,
      ⟨some 62, .len (.t 61), some (57, false)⟩,
      ⟨some 63, .bin .sub (.t 62) (.k (.int 1)), some (57, false)⟩,
      ⟨some 64, .call 80 [.t 59, .k (.int 0), .t 63], some (57, false)⟩,
      ⟨some 65, .not (.t 64), some (57, false)⟩,
      ⟨some 66, .pick (.t 57) (.k (.bool true)) (.t 65), none⟩,
      ⟨some 67, .mov (.t 66), none⟩,
      ⟨some 68, .fld 3 (.t 6), some (67, false)⟩,
      ⟨some 69, .load 1 false (.t 68) [], some (67, false)⟩,
      ⟨some 70, .fld 0 (.t 1), some (67, false)⟩,
      ⟨some 71, .load 1 false (.t 70) [], some (67, false)⟩,
      ⟨some 72, .call 80 [.t 69, .k (.int 1), .t 71], some (67, false)⟩,
      ⟨some 73, .not (.t 72), some (67, false)⟩,
      ⟨some 74, .pick (.t 67) (.k (.bool true)) (.t 73), none⟩,
      ⟨some 75, .mov (.t 74), none⟩,
      ⟨some 76, .fld 2 (.t 6), some (75, false)⟩,
      ⟨some 77, .load 1 false (.t 76) [], some (75, false)⟩,
      ⟨some 78, .fld 3 (.t 6), some (75, false)⟩,
      ⟨some 79, .load 1 false (.t 78) [], some (75, false)⟩,
      ⟨some 80, .call 80 [.t 77, .k (.int 1), .t 79], some (75, false)⟩,
      ⟨some 81, .not (.t 80), some (75, false)⟩,
      ⟨some 82, .pick (.t 75) (.k (.bool true)) (.t 81), none⟩] (some [1, 5, 6, 43, 44, 45, 82]))
    (.cond (.t 82)
     (.seq
     (.ops false [
       ⟨some 2, .mov (.k (.int 40)), none⟩] (some [2]))
     .ret)
     .skip))
    (.seq
    (.ops true [
      ⟨some 83, .mov (.t 5), none⟩,
      ⟨some 84, .bin .gtr (.t 83) (.k (.int 0)), none⟩,
      ⟨some 85, .mov (.t 84), none⟩,
      ⟨some 86, .fld 3 (.t 1), some (85, true)⟩,
      ⟨some 87, .load 1 false (.t 86) [], some (85, true)⟩,
      ⟨some 88, .mov (.t 5), some (85, true)⟩,
      ⟨some 89, .bin .sub (.t 88) (.k (.int 1)), some (85, true)⟩,
      ⟨some 90, .idx 4 (.t 87) (.t 89), some (85, true)⟩,
      ⟨some 91, .load 4 true (.t 90) [], some (85, true)⟩,
      ⟨some 92, .load 4 true (.t 6) [], some (85, true)⟩,
      ⟨some 93, .call 86 [.t 91, .t 92], some (85, true)⟩,
      ⟨some 94, .bin .geq (.t 93) (.k (.int 0)), some (85, true)⟩,
      ⟨some 95, .pick (.t 85) (.t 94) (.k (.bool false)), none⟩] (some [1, 43, 44, 45, 95]))
    (.cond (.t 95)
     (.seq
     (.ops false [
       ⟨some 2, .mov (.k (.int 40)), none⟩] (some [2]))
     .ret)
     .skip)))))
   (.ops false [
     ⟨some 96, .bin .add (.t 45) (.k (.int 1)), none⟩,
     ⟨some 45, .mov (.t 96), none⟩] (some [1, 43, 44, 45]))))))))
 (.seq
 (.ops false [
   ⟨some 2, .mov (.k (.int 0)), none⟩] (some [2]))
 .ret)))))

theorem m52 : fmatch Try.prog Try.f52 1 [.tmp 2] v52 = true := by kernel_rfl

/-- steening/steeningref04.Check -/
def v53 : VC :=
 (.seq
 (.ops false [
   ⟨some 1, .box 1 5 (.t 0), none⟩,
   ⟨some 2, .mov (.k (.int 0)), none⟩] (some [1]))
 (.seq
 (.seq
 (.ops false [
   ⟨some 6, .fld 0 (.t 1), none⟩,
   ⟨some 7, .load 1 false (.t 6) [], none⟩,
   ⟨some 8, .call 64 [.t 7, .k (.int 1), .k (.int 12)], none⟩,
   ⟨some 9, .not (.t 8), none⟩,
   ⟨some 10, .mov (.t 9), none⟩,
   ⟨some 11, .fld 1 (.t 1), some (10, false)⟩,
   ⟨some 12, .load 1 false (.t 11) [], some (10, false)⟩,
   ⟨some 13, .len (.t 12), some (10, false)⟩,
   ⟨some 14, .bin .gtr (.t 13) (.k (.int 6)), some (10, false)⟩,
   ⟨some 15, .pick (.t 10) (.k (.bool true)) (.t 14), none⟩,
   ⟨some 16, .mov (.t 15), none⟩,
   ⟨some 17, .fld 2 (.t 1), some (16, false)⟩,
   ⟨some 18, .load 1 false (.t 17) [], some (16, false)⟩,
   ⟨some 19, .call 64 [.t 18, .k (.int 0), .k (.int 4)], some (16, false)⟩,
   ⟨some 20, .not (.t 19), some (16, false)⟩,
   ⟨some 21, .pick (.t 16) (.k (.bool true)) (.t 20), none⟩,
   ⟨some 22, .mov (.t 21), none⟩,
   ⟨some 23, .fld 4 (.t 1), some (22, false)⟩,
   ⟨some 24, .load 1 false (.t 23) [], some (22, false)⟩,
   ⟨some 25, .call 64 [.t 24, .k (.int 0), .k (.int 999)], some (22, false)⟩,
   ⟨some 26, .not (.t 25), some (22, false)⟩,
   ⟨some 27, .pick (.t 22) (.k (.bool true)) (.t 26), none⟩] (some [1, 27]))
 (.cond (.t 27)
  (.seq
  (.ops false [
    ⟨some 2, .mov (.k (.int 40)), none⟩] (some [2]))
  .ret)
  .skip))
 (.seq
 (.seq
 (.ops false [
   ⟨some 3, .mov (.k (.int 0)), none⟩] (some [1, 3]))
 (.block 0
  (.loop
   (.seq
   (.seq
   (.ops false [
     ⟨some 28, .mov (.t 3), none⟩,
     ⟨some 29, .fld 1 (.t 1), none⟩,
     ⟨some 30, .load 1 false (.t 29) [], none⟩,
     ⟨some 31, .len (.t 30), none⟩,
     ⟨some 32, .bin .lss (.t 28) (.t 31), none⟩] (some [1, 3, 32]))
   (.cond (.t 32)
    .skip
    (.exit 0)))
   (.seq
   (.block 1
    (.seq
    (.ops true [
      ⟨some 35, .fld 1 (.t 1), none⟩,
      ⟨some 36, .load 1 false (.t 35) [], none⟩,
      ⟨some 37, .mov (.t 3), none⟩,
      ⟨some 38, .idx 1 (.t 36) (.t 37), none⟩,
      ⟨some 39, .load 1 false (.t 38) [], none⟩,
      ⟨some 40, .fld 0 (.t 1), none⟩,
      ⟨some 41, .load 1 false (.t 40) [], none⟩,
      ⟨some 42, .call 64 [.t 39, .k (.int 0), .t 41], none⟩,
      ⟨some 43, .not (.t 42), none⟩] (some [1, 3, 43]))
    (.cond (.t 43)
     (.seq
     (.ops false [
       ⟨some 2, .mov (.k (.int 40)), none⟩] (some [2]))
     .ret)
     .skip)))
   (.ops false [
     ⟨some 33, .mov (.t 3), none⟩,
     ⟨some 34, .bin .add (.t 33) (.k (.int 1)), none⟩,
     ⟨some 3, .mov (.t 34), none⟩] (some [1, 3])))))))
 (.seq
 (.seq
 (.ops false [
   ⟨some 4, .mov (.k (.int 0)), none⟩] (some [1, 4]))
 (.block 2
  (.loop
   (.seq
   (.seq
   (.ops false [
     ⟨some 44, .mov (.t 4), none⟩,
     ⟨some 45, .fld 3 (.t 1), none⟩,
     ⟨some 46, .load 1 false (.t 45) [], none⟩,
     ⟨some 47, .len (.t 46), none⟩,
     ⟨some 48, .bin .lss (.t 44) (.t 47), none⟩] (some [1, 4, 48]))
   (.cond (.t 48)
    .skip
    (.exit 2)))
   (.seq
   (.block 3
    (.seq
    (.ops false [
      ⟨some 51, .fld 3 (.t 1), none⟩,
      ⟨some 52, .load 1 false (.t 51) [], none⟩,
      ⟨some 53, .mov (.t 4), none⟩,
      ⟨some 54, .idx 4 (.t 52) (.t 53), none⟩,
      ⟨some 55, .load 4 true (.t 54) [], none⟩,
      ⟨some 5, .alloc 5 [.int 0, .int 0, .int 0, .int 0], none⟩,
      ⟨none, .store 4 (.t 5) (.t 55) (some 5), none⟩] (some [1, 4, 5]))
    (.seq
    (.ops true [
      ⟨some 56, .load 5 true (.t 1) [], none⟩,
      ⟨some 57, .fld 0 (.t 5), none⟩,
      ⟨some 58, .load 1 false (.t 57) [], none⟩,
      ⟨some 59, .call 16 [.t 56, .t 58], none⟩,
      ⟨some 60, .not (.t 59), none⟩,
      ⟨some 61, .mov (.t 60), none⟩,
      ⟨some 62, .load 5 true (.t 1) [], some (61, false)⟩,
      ⟨some 63, .fld 1 (.t 5), some (61, false)⟩,
      ⟨some 64, .load 1 false (.t 63) [], some (61, false)⟩,
      ⟨some 65, .call 56 [.t 62, .t 64], some (61, false)⟩,
      ⟨some 66, .not (.t 65), some (61, false)⟩,
      ⟨some 67, .pick (.t 61) (.k (.bool true)) (.t 66), none⟩,
      ⟨some 68, .mov (.t 67), none⟩,
      ⟨some 69, .fld 2 (.t 5), some (68, false)⟩,
      ⟨some 70, .load 1 false (.t 69) [], some (68, false)⟩,
      ⟨some 71, .fld 0 (.t 1), some (68, false)⟩,
      ⟨some 72, .load 1 false (.t 71) [], some (68, false)⟩,
      ⟨some 73, .call 64 [.t 70, .k (.int 1), .t 72], some (68, false)⟩,
      ⟨some 74, .not (.t 73), some (68, false)⟩,
      ⟨some 75, .pick (.t 68) (.k (.bool true)) (.t 74), none⟩,
      ⟨some 76, .mov (.t 75), none⟩,
      ⟨some 77, .fld 3 (.t 5), some (76, false)⟩,
      ⟨some 78, .load 1 false (.t 77) [], some (76, false)⟩,
      ⟨some 79, .fld 2 (.t 5), some (76, false)⟩,
      ⟨some 80, .load 1 false (.t 79) [], some (76, false)⟩,
      ⟨some 81, .fld 0 (.t 1), some (76, false)⟩,
      ⟨some 82, .load 1 false (.t 81) [], some (76, false)⟩,
      ⟨some 83, .call 64 [.t 78, .t 80, .t 82], some (76, false)⟩,
      ⟨some 84, .not (.t 83), some (76, false)⟩,
      ⟨some 85, .pick (.t 76) (.k (.bool true)) (.t 84), none⟩,
      ⟨some 86, .mov (.t 85), none⟩,
      ⟨some 87, .mov (.t 4), some (86, false)⟩,
      ⟨some 88, .bin .gtr (.t 87) (.k (.int 0)), some (86, false)⟩,
      ⟨some 89, .mov (.t 88), some (86, false)⟩,
      ⟨some 90, .fld 3 (.t 1), some (89, true)⟩,
      ⟨some 91, .load 1 false (.t 90) [], some (89, true)⟩,
      ⟨some 92, .mov (.t 4), some (89, true)⟩,
      ⟨some 93, .bin .sub (.t 92) (.k (.int 1)), some (89, true)⟩,
      ⟨some 94, .idx 4 (.t 91) (.t 93), some (89, true)⟩,
      ⟨some 95, .load 4 true (.t 94) [], some (89, true)⟩,
      ⟨some 96, .load 4 true (.t 5) [], some (89, true)⟩,
      ⟨some 97, .call 74 [.t 95, .t 96], some (89, true)⟩,
      ⟨some 98, .not (.t 97), some (89, true)⟩,
      ⟨some 99, .pick (.t 89) (.t 98) (.k (.bool false)), some (86, false)⟩,
      ⟨some 100, .pick (.t 86) (.k (.bool true)) (.t 99), none⟩] (some [1, 4, 100]))
    (.cond (.t 100)
     (.seq
     (.ops false [
       ⟨some 2, .mov (.k (.int 40)), none⟩] (some [2]))
     .ret)
     .skip))))
   (.ops false [
     ⟨some 49, .mov (.t 4), none⟩,
     ⟨some 50, .bin .add (.t 49) (.k (.int 1)), none⟩,
     ⟨some 4, .mov (.t 50), none⟩] (some [1, 4])))))))
 (.seq
 (.ops false [
   ⟨some 2, .mov (.k (.int 0)), none⟩] (some [2]))
 .ret)))))

theorem m53 : fmatch Try.prog Try.f53 1 [.tmp 2] v53 = true := by kernel_rfl

/-- steening/steeningref04.Hit -/
def v54 : VC :=
 (.seq
 (.ops false [
   ⟨some 2, .box 2 5 (.t 0), none⟩,
   ⟨some 4, .mov (.k (.int 0)), none⟩,
   ⟨some 5, .mov (.k (.int 0)), none⟩] (some [1, 2]))
 (.seq
 (.seq
 (.ops true [
   ⟨some 7, .load 5 true (.t 2) [], none⟩,
   ⟨some 8, .load 5 true (.t 2) [], none⟩,
   ⟨some 9, .mov (.t 1), none⟩,
   ⟨some 10, .call 47 [.t 8, .t 9], none⟩,
   ⟨some 11, .call 78 [.t 7, .t 10], none⟩,
   ⟨some 6, .mov (.t 11), none⟩] (some [1, 2, 6]))
 (.seq
 (.ops false [
   ⟨some 12, .mov (.t 6), none⟩,
   ⟨some 13, .bin .neq (.t 12) (.k (.int 0)), none⟩] (some [1, 2, 6, 13]))
 (.cond (.t 13)
  (.seq
  (.ops false [
    ⟨some 14, .mov (.t 6), none⟩,
    ⟨some 4, .mov (.k (.int 0)), none⟩,
    ⟨some 5, .mov (.t 14), none⟩] (some [4, 5]))
  .ret)
  .skip)))
 (.seq
 (.ops true [
   ⟨some 15, .fld 3 (.t 2), none⟩,
   ⟨some 16, .load 1 false (.t 15) [], none⟩,
   ⟨some 17, .mov (.t 1), none⟩,
   ⟨some 18, .idx 4 (.t 16) (.t 17), none⟩,
   ⟨some 19, .load 4 true (.t 18) [], none⟩,
   ⟨some 20, .fld 1 (.t 2), none⟩,
   ⟨some 21, .load 1 false (.t 20) [], none⟩,
   ⟨some 22, .call 73 [.t 19, .t 21], none⟩,
   ⟨some 4, .mov (.t 22), none⟩,
   ⟨some 5, .mov (.k (.int 0)), none⟩] (some [4, 5]))
 .ret)))

theorem m54 : fmatch Try.prog Try.f54 2 [.tmp 4, .tmp 5] v54 = true := by kernel_rfl

/-- steening/steeningref04.IsPlace -/
def v56 : VC :=
 (.seq
 (.ops false [
   ⟨some 2, .box 2 5 (.t 0), none⟩,
   ⟨some 4, .mov (.k (.bool false)), none⟩] (some [1, 2]))
 (.seq
 (.ops false [
   ⟨some 5, .mov (.t 1), none⟩,
   ⟨some 6, .fld 1 (.t 2), none⟩,
   ⟨some 7, .load 1 false (.t 6) [], none⟩,
   ⟨some 8, .len (.t 7), none⟩,
   ⟨some 9, .bin .sub (.t 8) (.k (.int 1)), none⟩,
   ⟨some 10, .call 64 [.t 5, .k (.int 0), .t 9], none⟩,
   ⟨some 4, .mov (.t 10), none⟩] (some [4]))
 .ret))

theorem m56 : fmatch Try.prog Try.f56 2 [.tmp 4] v56 = true := by kernel_rfl

end Go.Proofs.Ytmcfibpeenhcnaa


/- The compact code of the functions, and that it is theirs. -/
namespace Go.Proofs.Ytmcfibpeenhcnaa
open Go Go.V
set_option maxRecDepth 100000

/-- steening/steeningref04.Widths -/
def v28w : VC :=
 (.seq
 (.ops false [
   ⟨some 2, .box 5002 5 (.t 0), none⟩,
   ⟨some 4, .nilsG 1 none 1 false, none⟩,
   ⟨some 5, .mov (.k (.int 0)), none⟩] (some [1, 2, 4, 5]))
 (.seq
 (.seq
 (.ops false [
   ⟨some 6, .mov (.k (.int 0)), none⟩] (some [1, 2, 4, 5, 6]))
 (.block 0
  (.loop
   (.seq
   (.seq
   (.ops false [
     ⟨some 8, .mov (.t 6), none⟩,
     ⟨some 9, .fld 3 (.t 2), none⟩,
     ⟨some 10, .load 1 false (.t 9) [], none⟩,
     ⟨some 11, .len (.t 10), none⟩,
     ⟨some 12, .bin .lss (.t 8) (.t 11), none⟩] (some [1, 2, 4, 5, 6, 12]))
   (.cond (.t 12)
    .skip
    (.exit 0)))
   (.seq
   (.block 1
    (.seq
    (.ops false [
      ⟨some 15, .fld 3 (.t 2), none⟩,
      ⟨some 16, .load 1 false (.t 15) [], none⟩,
      ⟨some 17, .mov (.t 6), none⟩,
      ⟨some 18, .idx 4 (.t 16) (.t 17), none⟩,
      ⟨some 19, .load 4 true (.t 18) [], none⟩,
      ⟨some 7, .alloc 5007 [.int 0, .int 0, .int 0, .int 0], none⟩,
      ⟨none, .store 4 (.t 7) (.t 19) (some 5007), none⟩] (some [1, 2, 4, 5, 6, 7]))
    (.seq
    (.seq
    (.ops false [
      ⟨some 20, .fld 0 (.t 7), none⟩,
      ⟨some 21, .load 1 false (.t 20) [], none⟩,
      ⟨some 22, .mov (.t 1), none⟩,
      ⟨some 23, .bin .neq (.t 21) (.t 22), none⟩,
      ⟨some 24, .mov (.t 23), none⟩,
      ⟨some 25, .load 4 true (.t 7) [], some (24, false)⟩,
      ⟨some 26, .fld 1 (.t 2), some (24, false)⟩,
      ⟨some 27, .load 1 false (.t 26) [], some (24, false)⟩,
      ⟨some 28, .call 73 [.t 25, .t 27], some (24, false)⟩,
      ⟨some 29, .bin .eql (.t 28) (.k (.int 3)), some (24, false)⟩,
      ⟨some 30, .pick (.t 24) (.k (.bool true)) (.t 29), none⟩] (some [1, 2, 4, 5, 6, 7, 30]))
    (.cond (.t 30)
     (.exit 1)
     .skip))
    (.seq
    (.ops false [
      ⟨some 31, .mov (.t 4), none⟩,
      ⟨some 32, .load 4 true (.t 7) [], none⟩,
      ⟨some 33, .call 51 [.t 32], none⟩,
      ⟨some 34, .bslice 1 [.t 33], none⟩,
      ⟨some 35, .appG 1 none 1 8 false (.t 31) (.t 34), none⟩,
      ⟨some 4, .mov (.t 35), none⟩] (some [1, 2, 4, 5, 6, 7]))
    (.seq
    (.ops false [
      ⟨some 36, .load 4 true (.t 7) [], none⟩,
      ⟨some 37, .fld 1 (.t 2), none⟩,
      ⟨some 38, .load 1 false (.t 37) [], none⟩,
      ⟨some 39, .call 73 [.t 36, .t 38], none⟩,
      ⟨some 40, .bin .eql (.t 39) (.k (.int 1)), none⟩] (some [1, 2, 4, 5, 6, 40]))
    (.cond (.t 40)
     (.ops false [
       ⟨some 41, .mov (.t 5), none⟩,
       ⟨some 42, .bin .add (.t 41) (.k (.int 1)), none⟩,
       ⟨some 5, .mov (.t 42), none⟩] (some [1, 2, 4, 5, 6]))
     .skip))))))
   (.ops false [
     ⟨some 13, .mov (.t 6), none⟩,
     ⟨some 14, .bin .add (.t 13) (.k (.int 1)), none⟩,
     ⟨some 6, .mov (.t 14), none⟩] (some [1, 2, 4, 5, 6])))))))
 (.seq
 (.ops false [
   ⟨some 43, .mov (.t 4), none⟩,
   ⟨some 44, .mov (.t 5), none⟩,
   ⟨some 4, .mov (.t 43), none⟩,
   ⟨some 5, .mov (.t 44), none⟩] (some [4, 5]))
 .ret)))

theorem m28w : fmatch Try.prog Try.f28 2 [.tmp 4, .tmp 5] v28w = true := by kernel_rfl

/-- steening/steeningref04.chance -/
def v83w : VC :=
 (.seq
 (.ops false [
   ⟨some 4, .box 4 5 (.t 0), none⟩,
   ⟨some 8, .alloc 8 [.int 0, .int 0], none⟩] (some [1, 2, 3, 4, 8]))
 (.seq
 (.ops false [
   ⟨some 13, .load 5 true (.t 4) [], none⟩,
   ⟨some 14, .mov (.t 1), none⟩,
   ⟨some 15, .calli 28 [.t 13, .t 14], none⟩,
   ⟨some 12, .mov (.t 15), none⟩,
   ⟨some 16, .ext (.t 12) 0, none⟩,
   ⟨some 17, .ext (.t 12) 1, none⟩,
   ⟨some 9, .mov (.t 16), none⟩,
   ⟨some 10, .mov (.t 17), none⟩] (some [2, 3, 4, 8, 9, 10]))
 (.seq
 (.seq
 (.ops false [
   ⟨some 11, .mov (.k (.int 0)), none⟩] (some [2, 3, 4, 8, 9, 10, 11]))
 (.block 0
  (.loop
   (.seq
   (.seq
   (.ops false [
     ⟨some 18, .mov (.t 11), none⟩,
     ⟨some 19, .mov (.t 3), none⟩,
     ⟨some 20, .bin .lss (.t 18) (.t 19), none⟩] (some [2, 3, 4, 8, 9, 10, 11, 20]))
   (.cond (.t 20)
    .skip
    (.exit 0)))
   (.seq
   (.block 1
    (.ops false [
      ⟨some 23, .mov (.t 9), none⟩,
      ⟨some 24, .mov (.t 2), none⟩,
      ⟨some 25, .bslice 1 [.t 24], none⟩,
      ⟨some 26, .appG 1 none 1 8 false (.t 23) (.t 25), none⟩,
      ⟨some 9, .mov (.t 26), none⟩] (some [2, 3, 4, 8, 9, 10, 11])))
   (.ops false [
     ⟨some 21, .mov (.t 11), none⟩,
     ⟨some 22, .bin .add (.t 21) (.k (.int 1)), none⟩,
     ⟨some 11, .mov (.t 22), none⟩] (some [2, 3, 4, 8, 9, 10, 11])))))))
 (.seq
 (.ops false [
   ⟨some 27, .fld 0 (.t 4), none⟩,
   ⟨some 28, .load 1 false (.t 27) [], none⟩,
   ⟨some 29, .mov (.t 9), none⟩,
   ⟨some 30, .mov (.t 10), none⟩,
   ⟨some 31, .mov (.t 3), none⟩,
   ⟨some 32, .bin .add (.t 30) (.t 31), none⟩,
   ⟨some 33, .call 96 [.t 28, .t 29, .t 32], none⟩,
   ⟨none, .store 2 (.t 8) (.t 33) (some 8), none⟩] (some [8]))
 .ret))))

theorem m83w : fmatch Try.prog Try.f83 4 [.cell 8 44] v83w = true := by kernel_rfl

/-- steening/steeningref04.ChanceOf -/
def v96w : VC :=
 (.seq
 (.ops false [
   ⟨some 6, .alloc 6 [.int 0, .int 0], none⟩] (some [0, 1, 2, 6]))
 (.seq
 (.ops false [
   ⟨some 14, .bslice 1 [.k (.int 1)], none⟩,
   ⟨some 7, .mov (.t 14), none⟩] (some [0, 1, 2, 6, 7]))
 (.seq
 (.ops false [
   ⟨some 8, .mov (.k (.int 1)), none⟩] (some [0, 1, 2, 6, 7, 8]))
 (.seq
 (.seq
 (.ops false [
   ⟨some 9, .mov (.k (.int 0)), none⟩] (some [0, 1, 2, 6, 7, 8, 9]))
 (.block 0
  (.loop
   (.seq
   (.seq
   (.ops false [
     ⟨some 15, .mov (.t 9), none⟩,
     ⟨some 16, .mov (.t 1), none⟩,
     ⟨some 17, .len (.t 16), none⟩,
     ⟨some 18, .bin .lss (.t 15) (.t 17), none⟩] (some [0, 1, 2, 6, 7, 8, 9, 18]))
   (.cond (.t 18)
    .skip
    (.exit 0)))
   (.seq
   (.block 1
    (.seq
    (.ops false [
      ⟨some 21, .mov (.t 7), none⟩,
      ⟨some 22, .len (.t 21), none⟩,
      ⟨some 23, .bin .add (.t 22) (.k (.int 1)), none⟩,
      ⟨some 24, .makes 24 1 8 false [.int 0] (.t 23), none⟩,
      ⟨some 10, .mov (.t 24), none⟩] (some [0, 1, 2, 6, 7, 8, 9, 10]))
    (.seq
    (.seq
    (.ops false [
      ⟨some 11, .mov (.k (.int 0)), none⟩] (some [0, 1, 2, 6, 7, 8, 9, 10, 11]))
    (.block 2
     (.loop
      (.seq
      (.seq
      (.ops false [
        ⟨some 25, .mov (.t 11), none⟩,
        ⟨some 26, .mov (.t 7), none⟩,
        ⟨some 27, .len (.t 26), none⟩,
        ⟨some 28, .bin .lss (.t 25) (.t 27), none⟩] (some [0, 1, 2, 6, 7, 8, 9, 10, 11, 28]))
      (.cond (.t 28)
       .skip
       (.exit 2)))
      (.seq
      (.block 3
       (.seq
       (.ops true [
         ⟨some 31, .mov (.t 10), none⟩,
         ⟨some 32, .mov (.t 11), none⟩,
         ⟨some 33, .idx 1 (.t 31) (.t 32), none⟩,
         ⟨some 34, .load 1 false (.t 33) [], none⟩,
         ⟨some 35, .mov (.t 7), none⟩,
         ⟨some 36, .mov (.t 11), none⟩,
         ⟨some 37, .idx 1 (.t 35) (.t 36), none⟩,
         ⟨some 38, .load 1 false (.t 37) [], none⟩,
         ⟨some 39, .mov (.t 0), none⟩,
         ⟨some 40, .mov (.t 1), none⟩,
         ⟨some 41, .mov (.t 9), none⟩,
         ⟨some 42, .idx 1 (.t 40) (.t 41), none⟩,
         ⟨some 43, .load 1 false (.t 42) [], none⟩,
         ⟨some 44, .bin .sub (.t 39) (.t 43), none⟩,
         ⟨some 45, .bin .mul (.t 38) (.t 44), none⟩,
         ⟨some 46, .bin .add (.t 34) (.t 45), none⟩,
         ⟨some 47, .idx 1 (.t 31) (.t 32), none⟩,
         ⟨none, .store 1 (.t 47) (.t 46) (some 24), none⟩] (some [0, 1, 2, 6, 7, 8, 9, 10, 11]))
       (.ops true [
         ⟨some 48, .mov (.t 10), none⟩,
         ⟨some 49, .mov (.t 11), none⟩,
         ⟨some 50, .bin .add (.t 49) (.k (.int 1)), none⟩,
         ⟨some 51, .idx 1 (.t 48) (.t 50), none⟩,
         ⟨some 52, .load 1 false (.t 51) [], none⟩,
         ⟨some 53, .mov (.t 7), none⟩,
         ⟨some 54, .mov (.t 11), none⟩,
         ⟨some 55, .idx 1 (.t 53) (.t 54), none⟩,
         ⟨some 56, .load 1 false (.t 55) [], none⟩,
         ⟨some 57, .mov (.t 1), none⟩,
         ⟨some 58, .mov (.t 9), none⟩,
         ⟨some 59, .idx 1 (.t 57) (.t 58), none⟩,
         ⟨some 60, .load 1 false (.t 59) [], none⟩,
         ⟨some 61, .bin .mul (.t 56) (.t 60), none⟩,
         ⟨some 62, .bin .add (.t 52) (.t 61), none⟩,
         ⟨some 63, .idx 1 (.t 48) (.t 50), none⟩,
         ⟨none, .store 1 (.t 63) (.t 62) (some 24), none⟩] (some [0, 1, 2, 6, 7, 8, 9, 10, 11]))))
      (.ops false [
        ⟨some 29, .mov (.t 11), none⟩,
        ⟨some 30, .bin .add (.t 29) (.k (.int 1)), none⟩,
        ⟨some 11, .mov (.t 30), none⟩] (some [0, 1, 2, 6, 7, 8, 9, 10, 11])))))))
    (.opsN false [
      ⟨some 64, .mov (.t 10), none⟩,
      ⟨some 65, .mov (.t 8), none⟩,
      ⟨some 66, .mov (.t 0), none⟩,
      ⟨some 67, .bin .mul (.t 65) (.t 66), none⟩,
      ⟨some 7, .mov (.t 64), none⟩,
      ⟨some 8, .mov (.t 67), none⟩] (some [0, 1, 2, 6, 7, 8, 9])))))
   (.ops false [
     ⟨some 19, .mov (.t 9), none⟩,
     ⟨some 20, .bin .add (.t 19) (.k (.int 1)), none⟩,
     ⟨some 9, .mov (.t 20), none⟩] (some [0, 1, 2, 6, 7, 8, 9])))))))
 (.seq
 (.ops false [
   ⟨some 12, .mov (.k (.int 0)), none⟩] (some [2, 6, 7, 8, 12]))
 (.seq
 (.seq
 (.ops false [
   ⟨some 68, .mov (.t 2), none⟩,
   ⟨some 13, .mov (.t 68), none⟩] (some [6, 7, 8, 12, 13]))
 (.block 4
  (.loop
   (.seq
   (.seq
   (.ops false [
     ⟨some 69, .mov (.t 13), none⟩,
     ⟨some 70, .mov (.t 7), none⟩,
     ⟨some 71, .len (.t 70), none⟩,
     ⟨some 72, .bin .lss (.t 69) (.t 71), none⟩] (some [6, 7, 8, 12, 13, 72]))
   (.cond (.t 72)
    .skip
    (.exit 4)))
   (.seq
   (.block 5
    (.ops false [
      ⟨some 75, .mov (.t 12), none⟩,
      ⟨some 76, .mov (.t 7), none⟩,
      ⟨some 77, .mov (.t 13), none⟩,
      ⟨some 78, .idx 1 (.t 76) (.t 77), none⟩,
      ⟨some 79, .load 1 false (.t 78) [], none⟩,
      ⟨some 80, .bin .add (.t 75) (.t 79), none⟩,
      ⟨some 12, .mov (.t 80), none⟩] (some [6, 7, 8, 12, 13])))
   (.ops false [
     ⟨some 73, .mov (.t 13), none⟩,
     ⟨some 74, .bin .add (.t 73) (.k (.int 1)), none⟩,
     ⟨some 13, .mov (.t 74), none⟩] (some [6, 7, 8, 12, 13])))))))
 (.seq
 (.ops false [
   ⟨some 81, .mov (.t 12), none⟩,
   ⟨some 82, .mov (.t 8), none⟩,
   ⟨some 83, .call 29 [.t 81, .t 82], none⟩,
   ⟨none, .store 2 (.t 6) (.t 83) (some 6), none⟩] (some [6]))
 .ret)))))))

theorem m96w : fmatch Try.prog Try.f96 3 [.cell 6 44] v96w = true := by kernel_rfl

end Go.Proofs.Ytmcfibpeenhcnaa


/- The compact code of the functions, and that it is theirs. -/
namespace Go.Proofs.Ytmcfibpeenhcnaa
open Go Go.V
set_option maxRecDepth 100000

/-- (steening/dowsers.guess).with -/
def v82g : VC :=
 (.seq
 (.ops false [
   ⟨some 3, .box 3 2 (.t 0), none⟩,
   ⟨some 6, .alloc 6 [.sl 1 [] .full, .int 0], none⟩] (some [1, 2, 3, 6]))
 (.seq
 (.ops true [
   ⟨some 10, .fld 0 (.t 3), none⟩,
   ⟨some 11, .load 1 false (.t 10) [7, 14], none⟩,
   ⟨some 12, .len (.t 11), none⟩,
   ⟨some 13, .bin .add (.t 12) (.k (.int 1)), none⟩,
   ⟨some 14, .makes 14 1 8 false [.int 0] (.t 13), none⟩,
   ⟨some 15, .fld 1 (.t 3), none⟩,
   ⟨some 16, .load 1 false (.t 15) [7, 14], none⟩,
   ⟨some 17, .mov (.t 2), none⟩,
   ⟨some 18, .bin .mul (.t 16) (.t 17), none⟩,
   ⟨some 19, .buildW [.sl 1 [] .sh, .int 0] [(0, 1, .t 14), (1, 1, .t 18)], none⟩,
   ⟨some 7, .alloc 7 [.sl 1 [] .full, .int 0], none⟩,
   ⟨none, .store 2 (.t 7) (.t 19) (some 7), none⟩] (some [1, 2, 3, 6, 7]))
 (.seq
 (.seq
 (.ops false [
   ⟨some 20, .fld 0 (.t 3), none⟩,
   ⟨some 21, .load 1 false (.t 20) [], none⟩,
   ⟨some 22, .len (.t 21), none⟩,
   ⟨some 23, .mov (.k (.int 0)), none⟩] (some [1, 2, 6, 7, 21, 22, 23]))
 (.block 0
  (.loop
   (.seq
   (.ops false [
     ⟨some 24, .bin .lss (.t 23) (.t 22), none⟩] (some [1, 2, 6, 7, 21, 22, 23, 24]))
   (.seq
   (.cond (.t 24)
    .skip
    (.exit 0))
   (.seq
   (.block 1
    (.seq
    (.ops false [
      ⟨some 25, .mov (.t 23), none⟩,
      ⟨some 26, .idx 1 (.t 21) (.t 23), none⟩,
      ⟨some 27, .load 1 false (.t 26) [], none⟩,
      ⟨some 8, .mov (.t 25), none⟩,
      ⟨some 9, .mov (.t 27), none⟩] (some [1, 2, 6, 7, 8, 9, 21, 22, 23]))
    (.seq
    (.ops false [
      ⟨some 28, .fld 0 (.t 7), none⟩,
      ⟨some 29, .load 1 false (.t 28) [], none⟩,
      ⟨some 30, .mov (.t 8), none⟩,
      ⟨some 31, .idx 1 (.t 29) (.t 30), none⟩,
      ⟨some 32, .load 1 false (.t 31) [], none⟩,
      ⟨some 33, .mov (.t 9), none⟩,
      ⟨some 34, .mov (.t 2), none⟩,
      ⟨some 35, .mov (.t 1), none⟩,
      ⟨some 36, .bin .sub (.t 34) (.t 35), none⟩,
      ⟨some 37, .bin .mul (.t 33) (.t 36), none⟩,
      ⟨some 38, .bin .add (.t 32) (.t 37), none⟩,
      ⟨some 39, .idx 1 (.t 29) (.t 30), none⟩,
      ⟨none, .store 1 (.t 39) (.t 38) none, none⟩] (some [1, 2, 6, 7, 8, 9, 21, 22, 23]))
    (.ops false [
      ⟨some 40, .fld 0 (.t 7), none⟩,
      ⟨some 41, .load 1 false (.t 40) [], none⟩,
      ⟨some 42, .mov (.t 8), none⟩,
      ⟨some 43, .bin .add (.t 42) (.k (.int 1)), none⟩,
      ⟨some 44, .idx 1 (.t 41) (.t 43), none⟩,
      ⟨some 45, .load 1 false (.t 44) [], none⟩,
      ⟨some 46, .mov (.t 9), none⟩,
      ⟨some 47, .mov (.t 1), none⟩,
      ⟨some 48, .bin .mul (.t 46) (.t 47), none⟩,
      ⟨some 49, .bin .add (.t 45) (.t 48), none⟩,
      ⟨some 50, .idx 1 (.t 41) (.t 43), none⟩,
      ⟨none, .store 1 (.t 50) (.t 49) none, none⟩] (some [1, 2, 6, 7, 21, 22, 23])))))
   (.ops false [
     ⟨some 51, .bin .add (.t 23) (.k (.int 1)), none⟩,
     ⟨some 23, .mov (.t 51), none⟩] (some [1, 2, 6, 7, 21, 22, 23]))))))))
 (.seq
 (.ops false [
   ⟨some 52, .load 2 true (.t 7) [], none⟩,
   ⟨none, .store 2 (.t 6) (.t 52) (some 6), none⟩] (some [6]))
 .ret))))

theorem m82g : fmatch Try.prog Try.f82 3 [.cell 6 92] v82g = true := by kernel_rfl

/-- steening/steeningref04.Copy -/
def v22f : VC :=
 (.seq
 (.ops false [
   ⟨some 1, .box 5001 5 (.t 0), none⟩,
   ⟨some 2, .alloc 5002 [.int 0, .sl 1 [] .full, .int 0, .sl 4 [] .full, .int 0], none⟩] (some [1, 2]))
 (.seq
 (.ops false [
   ⟨some 4, .load 5 true (.t 1) [], none⟩,
   ⟨some 3, .alloc 5003 [.int 0, .sl 1 [] .full, .int 0, .sl 4 [] .full, .int 0], none⟩,
   ⟨none, .store 5 (.t 3) (.t 4) (some 5003), none⟩] (some [1, 2, 3]))
 (.seq
 (.ops true [
   ⟨some 5, .bslice 1 [], none⟩,
   ⟨some 6, .fld 1 (.t 1), none⟩,
   ⟨some 7, .load 1 false (.t 6) [1048576], none⟩,
   ⟨some 8, .appG 1 none 1 8 false (.t 5) (.t 7), none⟩,
   ⟨some 9, .bslice 4 [], none⟩,
   ⟨some 10, .fld 3 (.t 1), none⟩,
   ⟨some 11, .load 1 false (.t 10) [1048576], none⟩,
   ⟨some 12, .app 5012 4 32 (.t 9) (.t 11), none⟩,
   ⟨some 13, .fld 1 (.t 3), none⟩,
   ⟨none, .store 1 (.t 13) (.t 8) (some 5003), none⟩,
   ⟨some 14, .fld 3 (.t 3), none⟩,
   ⟨none, .store 1 (.t 14) (.t 12) (some 5003), none⟩] (some [2, 3]))
 (.seq
 (.ops false [
   ⟨some 15, .loadW 5 (.t 3) [], none⟩,
   ⟨none, .store 5 (.t 2) (.t 15) (some 5002), none⟩] (some [2]))
 .ret))))

theorem m22f : fmatch Try.prog Try.f22 1 [.cell 2 25] v22f = true := by kernel_rfl

/-- steening/steeninglaw04.with -/
def v30g : VC :=
 (.seq
 (.ops false [
   ⟨some 5, .box 5 5 (.t 0), none⟩,
   ⟨some 10, .alloc 10 [.int 0, .sl 1 [] .full, .int 0, .sl 4 [] .full, .int 0], none⟩,
   ⟨some 11, .mov (.k (.bool false)), none⟩] (some [1, 2, 3, 4, 5, 10]))
 (.seq
 (.ops false [
   ⟨some 15, .load 5 true (.t 5) [], none⟩,
   ⟨some 16, .calli 22 [.t 15], none⟩,
   ⟨none, .store 5 (.t 10) (.t 16) (some 10), none⟩] (some [1, 2, 3, 4, 5, 10]))
 (.seq
 (.ops false [
   ⟨some 17, .fld 1 (.t 10), none⟩,
   ⟨some 18, .load 1 false (.t 17) [], none⟩,
   ⟨some 19, .mov (.t 4), none⟩,
   ⟨some 20, .bslice 1 [.t 19], none⟩,
   ⟨some 21, .appG 1 none 1 8 false (.t 18) (.t 20), none⟩,
   ⟨some 22, .fld 1 (.t 10), none⟩,
   ⟨none, .store 1 (.t 22) (.t 21) (some 10), none⟩] (some [1, 2, 3, 4, 5, 10]))
 (.seq
 (.ops false [
   ⟨some 23, .mov (.t 1), none⟩,
   ⟨some 24, .fld 1 (.t 5), none⟩,
   ⟨some 25, .load 1 false (.t 24) [], none⟩,
   ⟨some 26, .len (.t 25), none⟩,
   ⟨some 27, .mov (.t 2), none⟩,
   ⟨some 28, .mov (.t 3), none⟩,
   ⟨some 29, .build [.int 0, .int 0, .int 0, .int 0] [(0, 1, .t 23), (1, 1, .t 26), (2, 1, .t 27), (3, 1, .t 28)], none⟩,
   ⟨some 12, .alloc 12 [.int 0, .int 0, .int 0, .int 0], none⟩,
   ⟨none, .store 4 (.t 12) (.t 29) (some 12), none⟩] (some [4, 5, 10, 12]))
 (.seq
 (.opsN false [
   ⟨some 30, .fld 3 (.t 10), none⟩,
   ⟨none, .store 1 (.t 30) (.k (.sl 4 [] .full)) (some 10), none⟩] (some [4, 5, 10, 12]))
 (.seq
 (.ops false [
   ⟨some 13, .mov (.k (.bool false)), none⟩] (some [4, 5, 10, 12, 13]))
 (.seq
 (.seq
 (.ops false [
   ⟨some 14, .mov (.k (.int 0)), none⟩] (some [4, 5, 10, 12, 13, 14]))
 (.block 0
  (.loop
   (.seq
   (.seq
   (.ops false [
     ⟨some 31, .mov (.t 14), none⟩,
     ⟨some 32, .fld 3 (.t 5), none⟩,
     ⟨some 33, .load 1 false (.t 32) [], none⟩,
     ⟨some 34, .len (.t 33), none⟩,
     ⟨some 35, .bin .lss (.t 31) (.t 34), none⟩] (some [4, 5, 10, 12, 13, 14, 35]))
   (.cond (.t 35)
    .skip
    (.exit 0)))
   (.seq
   (.block 1
    (.seq
    (.seq
    (.ops true [
      ⟨some 38, .mov (.t 13), none⟩,
      ⟨some 39, .not (.t 38), none⟩,
      ⟨some 40, .mov (.t 39), none⟩,
      ⟨some 41, .load 4 true (.t 12) [], some (40, true)⟩,
      ⟨some 42, .fld 3 (.t 5), some (40, true)⟩,
      ⟨some 43, .load 1 false (.t 42) [], some (40, true)⟩,
      ⟨some 44, .mov (.t 14), some (40, true)⟩,
      ⟨some 45, .idx 4 (.t 43) (.t 44), some (40, true)⟩,
      ⟨some 46, .load 4 true (.t 45) [], some (40, true)⟩,
      ⟨some 47, .call 74 [.t 41, .t 46], some (40, true)⟩,
      ⟨some 48, .pick (.t 40) (.t 47) (.k (.bool false)), none⟩] (some [4, 5, 10, 12, 13, 14, 48]))
    (.cond (.t 48)
     (.ops false [
       ⟨some 49, .fld 3 (.t 10), none⟩,
       ⟨some 50, .load 1 false (.t 49) [], none⟩,
       ⟨some 51, .load 4 true (.t 12) [], none⟩,
       ⟨some 52, .bslice 4 [.t 51], none⟩,
       ⟨some 53, .app 53 4 32 (.t 50) (.t 52), none⟩,
       ⟨some 54, .fld 3 (.t 10), none⟩,
       ⟨none, .store 1 (.t 54) (.t 53) (some 10), none⟩,
       ⟨some 13, .mov (.k (.bool true)), none⟩] (some [4, 5, 10, 12, 13, 14]))
     .skip))
    (.ops true [
      ⟨some 55, .fld 3 (.t 10), none⟩,
      ⟨some 56, .load 1 false (.t 55) [], none⟩,
      ⟨some 57, .fld 3 (.t 5), none⟩,
      ⟨some 58, .load 1 false (.t 57) [], none⟩,
      ⟨some 59, .mov (.t 14), none⟩,
      ⟨some 60, .idx 4 (.t 58) (.t 59), none⟩,
      ⟨some 61, .load 4 true (.t 60) [], none⟩,
      ⟨some 62, .bslice 4 [.t 61], none⟩,
      ⟨some 63, .app 53 4 32 (.t 56) (.t 62), none⟩,
      ⟨some 64, .fld 3 (.t 10), none⟩,
      ⟨none, .store 1 (.t 64) (.t 63) (some 10), none⟩] (some [4, 5, 10, 12, 13, 14]))))
   (.ops false [
     ⟨some 36, .mov (.t 14), none⟩,
     ⟨some 37, .bin .add (.t 36) (.k (.int 1)), none⟩,
     ⟨some 14, .mov (.t 37), none⟩] (some [4, 5, 10, 12, 13, 14])))))))
 (.seq
 (.seq
 (.ops false [
   ⟨some 65, .mov (.t 13), none⟩,
   ⟨some 66, .not (.t 65), none⟩] (some [4, 10, 12, 66]))
 (.cond (.t 66)
  (.ops false [
    ⟨some 67, .fld 3 (.t 10), none⟩,
    ⟨some 68, .load 1 false (.t 67) [], none⟩,
    ⟨some 69, .load 4 true (.t 12) [], none⟩,
    ⟨some 70, .bslice 4 [.t 69], none⟩,
    ⟨some 71, .app 53 4 32 (.t 68) (.t 70), none⟩,
    ⟨some 72, .fld 3 (.t 10), none⟩,
    ⟨none, .store 1 (.t 72) (.t 71) (some 10), none⟩] (some [4, 10]))
  .skip))
 (.seq
 (.ops true [
   ⟨some 73, .load 5 true (.t 10) [], none⟩,
   ⟨some 74, .load 5 true (.t 10) [], none⟩,
   ⟨some 75, .call 53 [.t 74], none⟩,
   ⟨some 76, .bin .eql (.t 75) (.k (.int 0)), none⟩,
   ⟨some 77, .mov (.t 76), none⟩,
   ⟨some 78, .mov (.t 4), some (77, true)⟩,
   ⟨some 79, .bin .neq (.t 78) (.k (.int 0)), some (77, true)⟩,
   ⟨some 80, .pick (.t 77) (.t 79) (.k (.bool false)), none⟩,
   ⟨none, .store 5 (.t 10) (.t 73) (some 10), none⟩,
   ⟨some 11, .mov (.t 80), none⟩] (some [10, 11]))
 .ret)))))))))

theorem m30g : fmatch Try.prog Try.f30 5 [.cell 10 25, .tmp 11] v30g = true := by kernel_rfl

end Go.Proofs.Ytmcfibpeenhcnaa


/- The compact code of the functions, and that it is theirs. -/
namespace Go.Proofs.Ytmcfibpeenhcnaa
open Go Go.V
set_option maxRecDepth 100000

/-- steening/steeningref01.In -/
def v59 : VC :=
 (.seq
 (.ops false [
   ⟨some 4, .mov (.k (.bool false)), none⟩] (some [0, 1]))
 (.seq
 (.seq
 (.ops false [
   ⟨some 5, .mov (.k (.int 0)), none⟩] (some [0, 1, 5]))
 (.block 0
  (.loop
   (.seq
   (.seq
   (.ops false [
     ⟨some 6, .mov (.t 5), none⟩,
     ⟨some 7, .mov (.t 0), none⟩,
     ⟨some 8, .len (.t 7), none⟩,
     ⟨some 9, .bin .lss (.t 6) (.t 8), none⟩] (some [0, 1, 5, 9]))
   (.cond (.t 9)
    .skip
    (.exit 0)))
   (.seq
   (.block 1
    (.seq
    (.ops false [
      ⟨some 12, .mov (.t 0), none⟩,
      ⟨some 13, .mov (.t 5), none⟩,
      ⟨some 14, .idx 1 (.t 12) (.t 13), none⟩,
      ⟨some 15, .load 1 false (.t 14) [], none⟩,
      ⟨some 16, .mov (.t 1), none⟩,
      ⟨some 17, .bin .eql (.t 15) (.t 16), none⟩] (some [0, 1, 5, 17]))
    (.cond (.t 17)
     (.seq
     (.ops false [
       ⟨some 4, .mov (.k (.bool true)), none⟩] (some [4]))
     .ret)
     .skip)))
   (.ops false [
     ⟨some 10, .mov (.t 5), none⟩,
     ⟨some 11, .bin .add (.t 10) (.k (.int 1)), none⟩,
     ⟨some 5, .mov (.t 11), none⟩] (some [0, 1, 5])))))))
 (.seq
 (.ops false [
   ⟨some 4, .mov (.k (.bool false)), none⟩] (some [4]))
 .ret)))

theorem m59 : fmatch Try.prog Try.f59 2 [.tmp 4] v59 = true := by kernel_rfl

/-- steening/steeningref04.within -/
def v64 : VC :=
 (.seq
 (.ops false [
   ⟨some 6, .mov (.k (.bool false)), none⟩] (some [0, 1, 2]))
 (.seq
 (.ops false [
   ⟨some 7, .mov (.t 0), none⟩,
   ⟨some 8, .mov (.t 1), none⟩,
   ⟨some 9, .mov (.t 2), none⟩,
   ⟨some 10, .call 20 [.t 7, .t 8, .t 9], none⟩,
   ⟨some 6, .mov (.t 10), none⟩] (some [6]))
 .ret))

theorem m64 : fmatch Try.prog Try.f64 3 [.tmp 6] v64 = true := by kernel_rfl

/-- steening/steeninglaw04.Example -/
def v65 : VC :=
 (.seq
 (.ops false [
   ⟨some 0, .alloc 0 [.int 0, .sl 1 [] .full, .int 0, .sl 4 [] .full, .int 0], none⟩] (some [0]))
 (.seq
 (.ops false [
   ⟨some 1, .bslice 1 [.k (.int 3), .k (.int 0), .k (.int 5)], none⟩,
   ⟨some 2, .build [.int 0, .int 0, .int 0, .int 0] [(0, 1, .k (.int 0)), (1, 1, .k (.int 0)), (2, 1, .k (.int 2)), (3, 1, .k (.int 3))], none⟩,
   ⟨some 3, .build [.int 0, .int 0, .int 0, .int 0] [(0, 1, .k (.int 0)), (1, 1, .k (.int 1)), (2, 1, .k (.int 1)), (3, 1, .k (.int 1))], none⟩,
   ⟨some 4, .build [.int 0, .int 0, .int 0, .int 0] [(0, 1, .k (.int 0)), (1, 1, .k (.int 2)), (2, 1, .k (.int 1)), (3, 1, .k (.int 2))], none⟩,
   ⟨some 5, .build [.int 0, .int 0, .int 0, .int 0] [(0, 1, .k (.int 1)), (1, 1, .k (.int 0)), (2, 1, .k (.int 3)), (3, 1, .k (.int 3))], none⟩,
   ⟨some 6, .build [.int 0, .int 0, .int 0, .int 0] [(0, 1, .k (.int 1)), (1, 1, .k (.int 1)), (2, 1, .k (.int 1)), (3, 1, .k (.int 6))], none⟩,
   ⟨some 7, .build [.int 0, .int 0, .int 0, .int 0] [(0, 1, .k (.int 1)), (1, 1, .k (.int 2)), (2, 1, .k (.int 4)), (3, 1, .k (.int 6))], none⟩,
   ⟨some 8, .bslice 4 [.t 2, .t 3, .t 4, .t 5, .t 6, .t 7], none⟩,
   ⟨some 9, .build [.int 0, .sl 1 [] .sh, .int 0, .sl 4 [] .sh, .int 0] [(0, 1, .k (.int 6)), (1, 1, .t 1), (2, 1, .k (.int 2)), (3, 1, .t 8), (4, 1, .k (.int 10))], none⟩,
   ⟨none, .store 5 (.t 0) (.t 9) (some 0), none⟩] (some [0]))
 .ret))

theorem m65 : fmatch Try.prog Try.f65 0 [.cell 0 25] v65 = true := by kernel_rfl

/-- steening/dowsers.open -/
def v66 : VC :=
 (.seq
 (.ops false [
   ⟨some 2, .box 2 5 (.t 0), none⟩,
   ⟨some 4, .mov (.k .nilp), none⟩,
   ⟨some 5, .mov (.k (.int 0)), none⟩] (some [1, 2]))
 (.seq
 (.seq
 (.ops false [
   ⟨some 7, .load 5 true (.t 2) [], none⟩,
   ⟨some 8, .call 52 [.t 7], none⟩,
   ⟨some 6, .mov (.t 8), none⟩] (some [1, 2, 6]))
 (.seq
 (.ops false [
   ⟨some 9, .mov (.t 6), none⟩,
   ⟨some 10, .bin .neq (.t 9) (.k (.int 0)), none⟩] (some [1, 2, 6, 10]))
 (.cond (.t 10)
  (.seq
  (.ops false [
    ⟨some 11, .mov (.t 6), none⟩,
    ⟨some 4, .mov (.k .nilp), none⟩,
    ⟨some 5, .mov (.t 11), none⟩] (some [4, 5]))
  .ret)
  .skip)))
 (.seq
 (.seq
 (.ops false [
   ⟨some 12, .mov (.t 1), none⟩,
   ⟨some 13, .not (.t 12), none⟩] (some [2, 13]))
 (.cond (.t 13)
  (.seq
  (.ops false [
    ⟨some 4, .mov (.k .nilp), none⟩,
    ⟨some 5, .mov (.k (.int 1)), none⟩] (some [4, 5]))
  .ret)
  .skip))
 (.seq
 (.ops false [
   ⟨some 14, .load 5 true (.t 2) [], none⟩,
   ⟨some 15, .build [.int 0, .sl 1 [] .sh, .int 0, .sl 4 [] .sh, .int 0] [(0, 5, .t 14)], none⟩,
   ⟨some 16, .box 16 5 (.t 15), none⟩,
   ⟨some 4, .mov (.t 16), none⟩,
   ⟨some 5, .mov (.k (.int 0)), none⟩] (some [4, 5]))
 .ret))))

theorem m66 : fmatch Try.prog Try.f66 2 [.tmp 4, .tmp 5] v66 = true := by kernel_rfl

/-- steening/dowsers.isDowser -/
def v67 : VC :=
 (.seq
 (.ops false [
   ⟨some 2, .box 2 5 (.t 0), none⟩,
   ⟨some 4, .mov (.k (.bool false)), none⟩] (some [1, 2]))
 (.seq
 (.ops false [
   ⟨some 5, .mov (.t 1), none⟩,
   ⟨some 6, .fld 2 (.t 2), none⟩,
   ⟨some 7, .load 1 false (.t 6) [], none⟩,
   ⟨some 8, .bin .sub (.t 7) (.k (.int 1)), none⟩,
   ⟨some 9, .call 80 [.t 5, .k (.int 0), .t 8], none⟩,
   ⟨some 4, .mov (.t 9), none⟩] (some [4]))
 .ret))

theorem m67 : fmatch Try.prog Try.f67 2 [.tmp 4] v67 = true := by kernel_rfl

/-- (*steening/dowsers.book).choices -/
def v68 : VC :=
 (.seq
 (.ops false [
   ⟨some 4, .nils 4 4, none⟩] (some [0, 1]))
 (.seq
 (.ops false [
   ⟨some 12, .mmake 113 4, none⟩,
   ⟨some 5, .mov (.t 12), none⟩] (some [0, 1, 5]))
 (.seq
 (.ops false [
   ⟨some 6, .nils 6 4, none⟩] (some [0, 1, 5, 6]))
 (.seq
 (.seq
 (.ops false [
   ⟨some 7, .mov (.k (.int 1)), none⟩] (some [0, 1, 5, 6, 7]))
 (.block 0
  (.loop
   (.seq
   (.seq
   (.ops false [
     ⟨some 13, .mov (.t 7), none⟩,
     ⟨some 14, .mov (.t 0), none⟩,
     ⟨some 15, .nilck (.t 14), none⟩,
     ⟨some 16, .fld 0 (.t 15), none⟩,
     ⟨some 17, .fld 0 (.t 16), none⟩,
     ⟨some 18, .load 1 false (.t 17) [], none⟩,
     ⟨some 19, .bin .leq (.t 13) (.t 18), none⟩] (some [0, 1, 5, 6, 7, 19]))
   (.cond (.t 19)
    .skip
    (.exit 0)))
   (.seq
   (.block 1
    (.seq
    (.seq
    (.ops false [
      ⟨some 22, .mov (.t 0), none⟩,
      ⟨some 23, .nilck (.t 22), none⟩,
      ⟨some 24, .fld 0 (.t 23), none⟩,
      ⟨some 25, .fld 1 (.t 24), none⟩,
      ⟨some 26, .load 1 false (.t 25) [], none⟩,
      ⟨some 27, .mov (.t 1), none⟩,
      ⟨some 28, .idx 1 (.t 26) (.t 27), none⟩,
      ⟨some 29, .load 1 false (.t 28) [], none⟩,
      ⟨some 8, .mov (.t 29), none⟩] (some [0, 1, 5, 6, 7, 8]))
    (.seq
    (.ops false [
      ⟨some 30, .mov (.t 8), none⟩,
      ⟨some 31, .bin .neq (.t 30) (.k (.int 0)), none⟩,
      ⟨some 32, .mov (.t 31), none⟩,
      ⟨some 33, .mov (.t 8), some (32, true)⟩,
      ⟨some 34, .mov (.t 7), some (32, true)⟩,
      ⟨some 35, .bin .neq (.t 33) (.t 34), some (32, true)⟩,
      ⟨some 36, .pick (.t 32) (.t 35) (.k (.bool false)), none⟩] (some [0, 1, 5, 6, 7, 36]))
    (.cond (.t 36)
     (.exit 1)
     .skip)))
    (.seq
    (.ops false [
      ⟨some 9, .alloc 9 [.int 0, .int 0, .int 0, .int 0], none⟩] (some [0, 1, 5, 6, 7, 9]))
    (.seq
    (.seq
    (.ops false [
      ⟨some 37, .mov (.t 0), none⟩,
      ⟨some 38, .nilck (.t 37), none⟩,
      ⟨some 39, .fld 0 (.t 38), none⟩,
      ⟨some 40, .fld 3 (.t 39), none⟩,
      ⟨some 41, .load 1 false (.t 40) [], none⟩,
      ⟨some 42, .len (.t 41), none⟩,
      ⟨some 43, .mov (.k (.int 0)), none⟩] (some [0, 1, 5, 6, 7, 9, 41, 42, 43]))
    (.block 2
     (.loop
      (.seq
      (.ops false [
        ⟨some 44, .bin .lss (.t 43) (.t 42), none⟩] (some [0, 1, 5, 6, 7, 9, 41, 42, 43, 44]))
      (.seq
      (.cond (.t 44)
       .skip
       (.exit 2))
      (.seq
      (.block 3
       (.seq
       (.ops false [
         ⟨some 45, .idx 4 (.t 41) (.t 43), none⟩,
         ⟨some 46, .load 4 true (.t 45) [], none⟩,
         ⟨some 11, .alloc 11 [.int 0, .int 0, .int 0, .int 0], none⟩,
         ⟨none, .store 4 (.t 11) (.t 46) (some 11), none⟩] (some [0, 1, 5, 6, 7, 9, 11, 41, 42, 43]))
       (.seq
       (.ops false [
         ⟨some 47, .fld 1 (.t 11), none⟩,
         ⟨some 48, .load 1 false (.t 47) [], none⟩,
         ⟨some 49, .mov (.t 1), none⟩,
         ⟨some 50, .bin .eql (.t 48) (.t 49), none⟩] (some [0, 1, 5, 6, 7, 9, 11, 41, 42, 43, 50]))
       (.cond (.t 50)
        (.ops true [
          ⟨some 51, .fld 0 (.t 11), none⟩,
          ⟨some 52, .load 1 false (.t 51) [], none⟩,
          ⟨some 53, .idxA 4 1 (.t 9) (.t 52), none⟩,
          ⟨some 54, .load 1 false (.t 53) [], none⟩,
          ⟨some 55, .mov (.t 0), none⟩,
          ⟨some 56, .load 4 true (.t 11) [], none⟩,
          ⟨some 57, .mov (.t 7), none⟩,
          ⟨some 58, .call 85 [.t 55, .t 56, .t 57], none⟩,
          ⟨some 59, .bin .add (.t 54) (.t 58), none⟩,
          ⟨some 60, .idxA 4 1 (.t 9) (.t 52), none⟩,
          ⟨none, .store 1 (.t 60) (.t 59) (some 9), none⟩] (some [0, 1, 5, 6, 7, 9, 41, 42, 43]))
        .skip))))
      (.ops false [
        ⟨some 61, .bin .add (.t 43) (.k (.int 1)), none⟩,
        ⟨some 43, .mov (.t 61), none⟩] (some [0, 1, 5, 6, 7, 9, 41, 42, 43]))))))))
    (.seq
    (.mbump 113 (.t 5) (.load 4 true (.t 9) []) [62, 63, 64, 65, 66, 67] (some [0, 1, 5, 6, 7, 9]))
    (.seq
    (.ops false [
      ⟨some 68, .mov (.t 5), none⟩,
      ⟨some 69, .load 4 true (.t 9) [], none⟩,
      ⟨some 70, .mlook 113 (.t 68) (.t 69), none⟩,
      ⟨some 71, .bin .eql (.t 70) (.k (.int 1)), none⟩] (some [0, 1, 5, 6, 7, 9, 71]))
    (.cond (.t 71)
     (.ops false [
       ⟨some 72, .mov (.t 6), none⟩,
       ⟨some 73, .load 4 true (.t 9) [], none⟩,
       ⟨some 74, .bslice 4 [.t 73], none⟩,
       ⟨some 75, .app 75 4 32 (.t 72) (.t 74), none⟩,
       ⟨some 6, .mov (.t 75), none⟩] (some [0, 1, 5, 6, 7]))
     .skip)))))))
   (.ops false [
     ⟨some 20, .mov (.t 7), none⟩,
     ⟨some 21, .bin .add (.t 20) (.k (.int 1)), none⟩,
     ⟨some 7, .mov (.t 21), none⟩] (some [0, 1, 5, 6, 7])))))))
 (.seq
 (.ops false [
   ⟨some 76, .mov (.t 6), none⟩,
   ⟨some 4, .mov (.t 76), none⟩] (some [4]))
 .ret)))))

theorem m68 : fmatch Try.prog Try.f68 2 [.tmp 4] v68 = true := by kernel_rfl

/-- (*steening/dowsers.book).leads -/
def v69 : VC :=
 (.seq
 (.ops false [
   ⟨some 4, .mov (.k (.int 0)), none⟩] (some [0, 1]))
 (.seq
 (.ops false [
   ⟨some 6, .mov (.t 0), none⟩,
   ⟨some 7, .mov (.t 1), none⟩,
   ⟨some 8, .call 91 [.t 6, .t 7], none⟩,
   ⟨some 5, .mov (.t 8), none⟩] (some [5]))
 (.seq
 (.block 0
  (.seq
  (.ops false [
    ⟨some 10, .mov (.t 5), none⟩,
    ⟨some 11, .call 92 [.t 10], none⟩,
    ⟨some 9, .mov (.t 11), none⟩] (some [5, 9]))
  (.cond (.t 9)
   (.seq
   (.ops false [
     ⟨some 4, .mov (.k (.int 1)), none⟩] (some [4]))
   .ret)
   (.seq
   (.ops false [
     ⟨some 13, .mov (.t 5), none⟩,
     ⟨some 14, .build [.int 0, .int 0, .int 0, .int 0, .int 0] [], none⟩,
     ⟨some 15, .mmake 119 5, none⟩,
     ⟨some 16, .calli 93 [.t 13, .t 14, .t 15], none⟩,
     ⟨some 12, .mov (.t 16), none⟩] (some [12]))
   (.cond (.t 12)
    (.seq
    (.ops false [
      ⟨some 4, .mov (.k (.int 3)), none⟩] (some [4]))
    .ret)
    .skip)))))
 (.seq
 (.ops false [
   ⟨some 4, .mov (.k (.int 2)), none⟩] (some [4]))
 .ret))))

theorem m69 : fmatch Try.prog Try.f69 2 [.tmp 4] v69 = true := by kernel_rfl

/-- (*steening/dowsers.book).now -/
def v70 : VC :=
 (.seq
 (.ops false [
   ⟨some 2, .alloc 2 [.int 0, .int 0, .int 0, .int 0], none⟩] (some [0, 2]))
 (.seq
 (.seq
 (.ops false [
   ⟨some 5, .mov (.t 0), none⟩,
   ⟨some 6, .nilck (.t 5), none⟩,
   ⟨some 7, .fld 0 (.t 6), none⟩,
   ⟨some 8, .fld 3 (.t 7), none⟩,
   ⟨some 9, .load 1 false (.t 8) [], none⟩,
   ⟨some 10, .len (.t 9), none⟩,
   ⟨some 11, .mov (.k (.int 0)), none⟩] (some [0, 2, 9, 10, 11]))
 (.block 0
  (.loop
   (.seq
   (.ops false [
     ⟨some 12, .bin .lss (.t 11) (.t 10), none⟩] (some [0, 2, 9, 10, 11, 12]))
   (.seq
   (.cond (.t 12)
    .skip
    (.exit 0))
   (.seq
   (.block 1
    (.seq
    (.ops false [
      ⟨some 13, .idx 4 (.t 9) (.t 11), none⟩,
      ⟨some 14, .load 4 true (.t 13) [], none⟩,
      ⟨some 4, .alloc 4 [.int 0, .int 0, .int 0, .int 0], none⟩,
      ⟨none, .store 4 (.t 4) (.t 14) (some 4), none⟩] (some [0, 2, 4, 9, 10, 11]))
    (.seq
    (.ops false [
      ⟨some 15, .mov (.t 0), none⟩,
      ⟨some 16, .load 4 true (.t 4) [], none⟩,
      ⟨some 17, .call 84 [.t 15, .t 16], none⟩,
      ⟨some 18, .not (.t 17), none⟩] (some [0, 2, 4, 9, 10, 11, 18]))
    (.cond (.t 18)
     (.ops true [
       ⟨some 19, .fld 0 (.t 4), none⟩,
       ⟨some 20, .load 1 false (.t 19) [], none⟩,
       ⟨some 21, .idxA 4 1 (.t 2) (.t 20), none⟩,
       ⟨some 22, .load 1 false (.t 21) [], none⟩,
       ⟨some 23, .mov (.t 0), none⟩,
       ⟨some 24, .load 4 true (.t 4) [], none⟩,
       ⟨some 25, .mov (.t 0), none⟩,
       ⟨some 26, .nilck (.t 25), none⟩,
       ⟨some 27, .fld 0 (.t 26), none⟩,
       ⟨some 28, .fld 1 (.t 27), none⟩,
       ⟨some 29, .load 1 false (.t 28) [], none⟩,
       ⟨some 30, .fld 1 (.t 4), none⟩,
       ⟨some 31, .load 1 false (.t 30) [], none⟩,
       ⟨some 32, .idx 1 (.t 29) (.t 31), none⟩,
       ⟨some 33, .load 1 false (.t 32) [], none⟩,
       ⟨some 34, .call 85 [.t 23, .t 24, .t 33], none⟩,
       ⟨some 35, .bin .add (.t 22) (.t 34), none⟩,
       ⟨some 36, .idxA 4 1 (.t 2) (.t 20), none⟩,
       ⟨none, .store 1 (.t 36) (.t 35) (some 2), none⟩] (some [0, 2, 9, 10, 11]))
     .skip))))
   (.ops false [
     ⟨some 37, .bin .add (.t 11) (.k (.int 1)), none⟩,
     ⟨some 11, .mov (.t 37), none⟩] (some [0, 2, 9, 10, 11]))))))))
 (.seq
 (.ops false [
   ⟨some 38, .load 4 true (.t 2) [], none⟩,
   ⟨none, .store 4 (.t 2) (.t 38) (some 2), none⟩] (some [2]))
 .ret)))

theorem m70 : fmatch Try.prog Try.f70 1 [.cell 2 88] v70 = true := by kernel_rfl

/-- (*steening/dowsers.book).guessed -/
def v71 : VC :=
 (.seq
 (.ops false [
   ⟨some 4, .alloc 4 [.sl 1 [] .full, .int 0], none⟩,
   ⟨some 5, .mov (.k (.int 0)), none⟩] (some [0, 1, 4, 5]))
 (.seq
 (.ops false [
   ⟨some 8, .bslice 1 [.k (.int 1)], none⟩,
   ⟨some 9, .build [.sl 1 [] .sh, .int 0] [(0, 1, .t 8), (1, 1, .k (.int 1))], none⟩,
   ⟨none, .store 2 (.t 4) (.t 9) (some 4), none⟩] (some [0, 1, 4, 5]))
 (.seq
 (.seq
 (.ops false [
   ⟨some 10, .mov (.t 0), none⟩,
   ⟨some 11, .nilck (.t 10), none⟩,
   ⟨some 12, .fld 0 (.t 11), none⟩,
   ⟨some 13, .fld 3 (.t 12), none⟩,
   ⟨some 14, .load 1 false (.t 13) [], none⟩,
   ⟨some 15, .len (.t 14), none⟩,
   ⟨some 16, .mov (.k (.int 0)), none⟩] (some [0, 1, 4, 5, 14, 15, 16]))
 (.block 0
  (.loop
   (.seq
   (.ops false [
     ⟨some 17, .bin .lss (.t 16) (.t 15), none⟩] (some [0, 1, 4, 5, 14, 15, 16, 17]))
   (.seq
   (.cond (.t 17)
    .skip
    (.exit 0))
   (.seq
   (.block 1
    (.seq
    (.ops false [
      ⟨some 18, .idx 4 (.t 14) (.t 16), none⟩,
      ⟨some 19, .load 4 true (.t 18) [], none⟩,
      ⟨some 7, .alloc 7 [.int 0, .int 0, .int 0, .int 0], none⟩,
      ⟨none, .store 4 (.t 7) (.t 19) (some 7), none⟩] (some [0, 1, 4, 5, 7, 14, 15, 16]))
    (.seq
    (.seq
    (.ops false [
      ⟨some 20, .fld 0 (.t 7), none⟩,
      ⟨some 21, .load 1 false (.t 20) [], none⟩,
      ⟨some 22, .mov (.t 1), none⟩,
      ⟨some 23, .bin .neq (.t 21) (.t 22), none⟩,
      ⟨some 24, .mov (.t 23), none⟩,
      ⟨some 25, .mov (.t 0), some (24, false)⟩,
      ⟨some 26, .load 4 true (.t 7) [], some (24, false)⟩,
      ⟨some 27, .call 84 [.t 25, .t 26], some (24, false)⟩,
      ⟨some 28, .pick (.t 24) (.k (.bool true)) (.t 27), none⟩] (some [0, 1, 4, 5, 7, 14, 15, 16, 28]))
    (.cond (.t 28)
     (.exit 1)
     .skip))
    (.seq
    (.ops true [
      ⟨some 29, .load 2 true (.t 4) [], none⟩,
      ⟨some 30, .load 4 true (.t 7) [4], none⟩,
      ⟨some 31, .call 94 [.t 30], none⟩,
      ⟨some 32, .mov (.t 0), none⟩,
      ⟨some 33, .nilck (.t 32), none⟩,
      ⟨some 34, .fld 0 (.t 33), none⟩,
      ⟨some 35, .fld 0 (.t 34), none⟩,
      ⟨some 36, .load 1 false (.t 35) [4], none⟩,
      ⟨some 37, .call 82 [.t 29, .t 31, .t 36], none⟩,
      ⟨none, .store 2 (.t 4) (.t 37) (some 4), none⟩] (some [0, 1, 4, 5, 7, 14, 15, 16]))
    (.seq
    (.ops true [
      ⟨some 38, .mov (.t 0), none⟩,
      ⟨some 39, .nilck (.t 38), none⟩,
      ⟨some 40, .fld 0 (.t 39), none⟩,
      ⟨some 41, .fld 1 (.t 40), none⟩,
      ⟨some 42, .load 1 false (.t 41) [], none⟩,
      ⟨some 43, .fld 1 (.t 7), none⟩,
      ⟨some 44, .load 1 false (.t 43) [], none⟩,
      ⟨some 45, .idx 1 (.t 42) (.t 44), none⟩,
      ⟨some 46, .load 1 false (.t 45) [], none⟩,
      ⟨some 47, .fld 2 (.t 7), none⟩,
      ⟨some 48, .load 1 false (.t 47) [], none⟩,
      ⟨some 49, .fld 3 (.t 7), none⟩,
      ⟨some 50, .load 1 false (.t 49) [], none⟩,
      ⟨some 51, .call 80 [.t 46, .t 48, .t 50], none⟩] (some [0, 1, 4, 5, 14, 15, 16, 51]))
    (.cond (.t 51)
     (.ops false [
       ⟨some 52, .mov (.t 5), none⟩,
       ⟨some 53, .bin .add (.t 52) (.k (.int 1)), none⟩,
       ⟨some 5, .mov (.t 53), none⟩] (some [0, 1, 4, 5, 14, 15, 16]))
     .skip))))))
   (.ops false [
     ⟨some 54, .bin .add (.t 16) (.k (.int 1)), none⟩,
     ⟨some 16, .mov (.t 54), none⟩] (some [0, 1, 4, 5, 14, 15, 16]))))))))
 (.seq
 (.ops false [
   ⟨some 55, .load 2 true (.t 4) [], none⟩,
   ⟨some 56, .mov (.t 5), none⟩,
   ⟨none, .store 2 (.t 4) (.t 55) (some 4), none⟩,
   ⟨some 5, .mov (.t 56), none⟩] (some [4, 5]))
 .ret))))

theorem m71 : fmatch Try.prog Try.f71 2 [.cell 4 92, .tmp 5] v71 = true := by kernel_rfl

/-- (steening/dowsers.guess).chance -/
def v72 : VC :=
 (.seq
 (.ops false [
   ⟨some 2, .box 2 2 (.t 0), none⟩,
   ⟨some 4, .alloc 4 [.int 0, .int 0], none⟩] (some [1, 2, 4]))
 (.seq
 (.ops false [
   ⟨some 5, .mov (.k (.int 0)), none⟩] (some [1, 2, 4, 5]))
 (.seq
 (.seq
 (.ops false [
   ⟨some 10, .fld 0 (.t 2), none⟩,
   ⟨some 11, .load 1 false (.t 10) [], none⟩,
   ⟨some 12, .mov (.t 1), none⟩,
   ⟨some 13, .slice 1 (.t 11) (some (.t 12)) none, none⟩,
   ⟨some 14, .len (.t 13), none⟩,
   ⟨some 15, .mov (.k (.int 0)), none⟩] (some [2, 4, 5, 13, 14, 15]))
 (.block 0
  (.loop
   (.seq
   (.ops false [
     ⟨some 16, .bin .lss (.t 15) (.t 14), none⟩] (some [2, 4, 5, 13, 14, 15, 16]))
   (.seq
   (.cond (.t 16)
    .skip
    (.exit 0))
   (.seq
   (.block 1
    (.seq
    (.ops false [
      ⟨some 17, .idx 1 (.t 13) (.t 15), none⟩,
      ⟨some 18, .load 1 false (.t 17) [], none⟩,
      ⟨some 7, .mov (.t 18), none⟩] (some [2, 4, 5, 7, 13, 14, 15]))
    (.ops false [
      ⟨some 19, .mov (.t 5), none⟩,
      ⟨some 20, .mov (.t 7), none⟩,
      ⟨some 21, .bin .add (.t 19) (.t 20), none⟩,
      ⟨some 5, .mov (.t 21), none⟩] (some [2, 4, 5, 13, 14, 15]))))
   (.ops false [
     ⟨some 22, .bin .add (.t 15) (.k (.int 1)), none⟩,
     ⟨some 15, .mov (.t 22), none⟩] (some [2, 4, 5, 13, 14, 15]))))))))
 (.seq
 (.ops true [
   ⟨some 23, .mov (.t 5), none⟩,
   ⟨some 24, .fld 1 (.t 2), none⟩,
   ⟨some 25, .load 1 false (.t 24) [], none⟩,
   ⟨some 8, .mov (.t 23), none⟩,
   ⟨some 9, .mov (.t 25), none⟩] (some [2, 4, 5, 8, 9]))
 (.seq
 (.block 2
  (.loop
   (.seq
   (.seq
   (.ops false [
     ⟨some 26, .mov (.t 9), none⟩,
     ⟨some 27, .bin .neq (.t 26) (.k (.int 0)), none⟩] (some [2, 4, 5, 8, 9, 27]))
   (.cond (.t 27)
    .skip
    (.exit 2)))
   (.block 3
    (.ops true [
      ⟨some 28, .mov (.t 9), none⟩,
      ⟨some 29, .mov (.t 8), none⟩,
      ⟨some 30, .mov (.t 9), none⟩,
      ⟨some 31, .bin .rem (.t 29) (.t 30), none⟩,
      ⟨some 8, .mov (.t 28), none⟩,
      ⟨some 9, .mov (.t 31), none⟩] (some [2, 4, 5, 8, 9]))))))
 (.seq
 (.ops true [
   ⟨some 32, .mov (.t 5), none⟩,
   ⟨some 33, .mov (.t 8), none⟩,
   ⟨some 34, .bin .quo (.t 32) (.t 33), none⟩,
   ⟨some 35, .fld 1 (.t 2), none⟩,
   ⟨some 36, .load 1 false (.t 35) [4], none⟩,
   ⟨some 37, .mov (.t 8), none⟩,
   ⟨some 38, .bin .quo (.t 36) (.t 37), none⟩,
   ⟨some 39, .build [.int 0, .int 0] [(0, 1, .t 34), (1, 1, .t 38)], none⟩,
   ⟨none, .store 2 (.t 4) (.t 39) (some 4), none⟩] (some [4]))
 .ret))))))

theorem m72 : fmatch Try.prog Try.f72 2 [.cell 4 44] v72 = true := by kernel_rfl

/-- steening/steeningref04.HitOf -/
def v73 : VC :=
 (.seq
 (.ops false [
   ⟨some 2, .box 2 4 (.t 0), none⟩,
   ⟨some 4, .mov (.k (.int 0)), none⟩] (some [1, 2]))
 (.seq
 (.block 0
  (.seq
  (.ops false [
    ⟨some 6, .mov (.t 1), none⟩,
    ⟨some 7, .fld 1 (.t 2), none⟩,
    ⟨some 8, .load 1 false (.t 7) [], none⟩,
    ⟨some 9, .idx 1 (.t 6) (.t 8), none⟩,
    ⟨some 10, .load 1 false (.t 9) [], none⟩,
    ⟨some 11, .bin .eql (.t 10) (.k (.int 0)), none⟩,
    ⟨some 5, .mov (.t 11), none⟩] (some [1, 2, 5]))
  (.cond (.t 5)
   (.seq
   (.ops false [
     ⟨some 4, .mov (.k (.int 3)), none⟩] (some [4]))
   .ret)
   (.seq
   (.ops true [
     ⟨some 13, .mov (.t 1), none⟩,
     ⟨some 14, .fld 1 (.t 2), none⟩,
     ⟨some 15, .load 1 false (.t 14) [], none⟩,
     ⟨some 16, .idx 1 (.t 13) (.t 15), none⟩,
     ⟨some 17, .load 1 false (.t 16) [], none⟩,
     ⟨some 18, .fld 2 (.t 2), none⟩,
     ⟨some 19, .load 1 false (.t 18) [], none⟩,
     ⟨some 20, .fld 3 (.t 2), none⟩,
     ⟨some 21, .load 1 false (.t 20) [], none⟩,
     ⟨some 22, .call 64 [.t 17, .t 19, .t 21], none⟩,
     ⟨some 12, .mov (.t 22), none⟩] (some [12]))
   (.cond (.t 12)
    (.seq
    (.ops false [
      ⟨some 4, .mov (.k (.int 1)), none⟩] (some [4]))
    .ret)
    .skip)))))
 (.seq
 (.ops false [
   ⟨some 4, .mov (.k (.int 2)), none⟩] (some [4]))
 .ret)))

theorem m73 : fmatch Try.prog Try.f73 2 [.tmp 4] v73 = true := by kernel_rfl

/-- steening/steeningref04.Before -/
def v74 : VC :=
 (.seq
 (.ops false [
   ⟨some 2, .box 2 4 (.t 0), none⟩,
   ⟨some 3, .box 3 4 (.t 1), none⟩,
   ⟨some 4, .mov (.k (.bool false)), none⟩] (some [2, 3]))
 (.seq
 (.ops false [
   ⟨some 5, .fld 0 (.t 2), none⟩,
   ⟨some 6, .load 1 false (.t 5) [], none⟩,
   ⟨some 7, .fld 0 (.t 3), none⟩,
   ⟨some 8, .load 1 false (.t 7) [], none⟩,
   ⟨some 9, .bin .lss (.t 6) (.t 8), none⟩,
   ⟨some 10, .mov (.t 9), none⟩,
   ⟨some 11, .fld 0 (.t 2), some (10, false)⟩,
   ⟨some 12, .load 1 false (.t 11) [], some (10, false)⟩,
   ⟨some 13, .fld 0 (.t 3), some (10, false)⟩,
   ⟨some 14, .load 1 false (.t 13) [], some (10, false)⟩,
   ⟨some 15, .bin .eql (.t 12) (.t 14), some (10, false)⟩,
   ⟨some 16, .mov (.t 15), some (10, false)⟩,
   ⟨some 17, .fld 1 (.t 2), some (16, true)⟩,
   ⟨some 18, .load 1 false (.t 17) [], some (16, true)⟩,
   ⟨some 19, .fld 1 (.t 3), some (16, true)⟩,
   ⟨some 20, .load 1 false (.t 19) [], some (16, true)⟩,
   ⟨some 21, .bin .lss (.t 18) (.t 20), some (16, true)⟩,
   ⟨some 22, .pick (.t 16) (.t 21) (.k (.bool false)), some (10, false)⟩,
   ⟨some 23, .pick (.t 10) (.k (.bool true)) (.t 22), none⟩,
   ⟨some 4, .mov (.t 23), none⟩] (some [4]))
 .ret))

theorem m74 : fmatch Try.prog Try.f74 2 [.tmp 4] v74 = true := by kernel_rfl

/-- slices.SortStableFunc[[]int,int] -/
def v75 : VC :=
 (.ops false [
   ⟨some 4, .mov (.t 0), none⟩,
   ⟨some 5, .mov (.t 0), none⟩,
   ⟨some 6, .len (.t 5), none⟩,
   ⟨some 7, .mov (.t 1), none⟩,
   ⟨some 8, .calli 95 [.t 4, .t 6, .t 7], none⟩] (some []))

theorem m75 : fmatch Try.prog Try.f75 2 [] v75 = true := by kernel_rfl

/-- steening/dowsers.Pay$1 -/
def v76 : VC :=
 (.seq
 (.ops false [
   ⟨some 7, .mov (.k (.int 0)), none⟩] (some [0, 1, 2, 3, 4]))
 (.seq
 (.ops true [
   ⟨some 8, .fld 4 (.t 2), none⟩,
   ⟨some 9, .load 1 false (.t 8) [], none⟩,
   ⟨some 10, .mov (.t 1), none⟩,
   ⟨some 11, .idxA 4 1 (.t 3) (.t 10), none⟩,
   ⟨some 12, .load 1 false (.t 11) [], none⟩,
   ⟨some 13, .bin .mul (.t 9) (.t 12), none⟩,
   ⟨some 14, .load 1 false (.t 4) [], none⟩,
   ⟨some 15, .bin .rem (.t 13) (.t 14), none⟩,
   ⟨some 16, .fld 4 (.t 2), none⟩,
   ⟨some 17, .load 1 false (.t 16) [], none⟩,
   ⟨some 18, .mov (.t 0), none⟩,
   ⟨some 19, .idxA 4 1 (.t 3) (.t 18), none⟩,
   ⟨some 20, .load 1 false (.t 19) [], none⟩,
   ⟨some 21, .bin .mul (.t 17) (.t 20), none⟩,
   ⟨some 22, .load 1 false (.t 4) [], none⟩,
   ⟨some 23, .bin .rem (.t 21) (.t 22), none⟩,
   ⟨some 24, .bin .sub (.t 15) (.t 23), none⟩,
   ⟨some 7, .mov (.t 24), none⟩] (some [7]))
 .ret))

theorem m76 : fmatch Try.prog Try.f76 5 [.tmp 7] v76 = true := by kernel_rfl

/-- steening/steeningref04.PointsOf -/
def v77 : VC :=
 (.seq
 (.ops false [
   ⟨some 3, .box 3 5 (.t 0), none⟩,
   ⟨some 4, .box 4 4 (.t 1), none⟩,
   ⟨some 6, .mov (.k (.int 0)), none⟩] (some [2, 3, 4]))
 (.seq
 (.seq
 (.ops false [
   ⟨some 7, .load 4 true (.t 4) [], none⟩,
   ⟨some 8, .mov (.t 2), none⟩,
   ⟨some 9, .call 73 [.t 7, .t 8], none⟩] (some [3, 4, 9]))
 (.block 0
  (.seq
  (.ops false [
    ⟨some 11, .bin .eql (.t 9) (.k (.int 1)), none⟩,
    ⟨some 10, .mov (.t 11), none⟩] (some [3, 4, 9, 10]))
  (.cond (.t 10)
   (.seq
   (.ops true [
     ⟨some 12, .fld 0 (.t 3), none⟩,
     ⟨some 13, .load 1 false (.t 12) [], none⟩,
     ⟨some 14, .load 4 true (.t 4) [], none⟩,
     ⟨some 15, .call 51 [.t 14], none⟩,
     ⟨some 16, .bin .sub (.t 13) (.t 15), none⟩,
     ⟨some 6, .mov (.t 16), none⟩] (some [6]))
   .ret)
   (.seq
   (.ops false [
     ⟨some 18, .bin .eql (.t 9) (.k (.int 2)), none⟩,
     ⟨some 17, .mov (.t 18), none⟩] (some [4, 17]))
   (.cond (.t 17)
    (.seq
    (.ops false [
      ⟨some 19, .load 4 true (.t 4) [], none⟩,
      ⟨some 20, .call 51 [.t 19], none⟩,
      ⟨some 21, .neg (.t 20), none⟩,
      ⟨some 6, .mov (.t 21), none⟩] (some [6]))
    .ret)
    .skip))))))
 (.seq
 (.ops false [
   ⟨some 6, .mov (.k (.int 0)), none⟩] (some [6]))
 .ret)))

theorem m77 : fmatch Try.prog Try.f77 3 [.tmp 6] v77 = true := by kernel_rfl

/-- steening/steeningref04.ask -/
def v78 : VC :=
 (.seq
 (.ops false [
   ⟨some 2, .box 2 5 (.t 0), none⟩,
   ⟨some 4, .mov (.k (.int 0)), none⟩] (some [1, 2]))
 (.seq
 (.seq
 (.ops false [
   ⟨some 6, .load 5 true (.t 2) [], none⟩,
   ⟨some 7, .call 53 [.t 6], none⟩,
   ⟨some 5, .mov (.t 7), none⟩] (some [1, 5]))
 (.seq
 (.ops false [
   ⟨some 8, .mov (.t 5), none⟩,
   ⟨some 9, .bin .neq (.t 8) (.k (.int 0)), none⟩] (some [1, 5, 9]))
 (.cond (.t 9)
  (.seq
  (.ops false [
    ⟨some 10, .mov (.t 5), none⟩,
    ⟨some 4, .mov (.t 10), none⟩] (some [4]))
  .ret)
  .skip)))
 (.seq
 (.seq
 (.ops false [
   ⟨some 11, .mov (.t 1), none⟩,
   ⟨some 12, .not (.t 11), none⟩] (some [12]))
 (.cond (.t 12)
  (.seq
  (.ops false [
    ⟨some 4, .mov (.k (.int 1)), none⟩] (some [4]))
  .ret)
  .skip))
 (.seq
 (.ops false [
   ⟨some 4, .mov (.k (.int 0)), none⟩] (some [4]))
 .ret))))

theorem m78 : fmatch Try.prog Try.f78 2 [.tmp 4] v78 = true := by kernel_rfl

/-- steening/dowsers.Order$1 -/
def v79 : VC :=
 (.seq
 (.ops false [
   ⟨some 5, .mov (.k (.int 0)), none⟩] (some [0, 1, 2]))
 (.seq
 (.ops true [
   ⟨some 6, .mov (.t 1), none⟩,
   ⟨some 7, .idxA 4 1 (.t 2) (.t 6), none⟩,
   ⟨some 8, .load 1 false (.t 7) [], none⟩,
   ⟨some 9, .mov (.t 0), none⟩,
   ⟨some 10, .idxA 4 1 (.t 2) (.t 9), none⟩,
   ⟨some 11, .load 1 false (.t 10) [], none⟩,
   ⟨some 12, .bin .sub (.t 8) (.t 11), none⟩,
   ⟨some 5, .mov (.t 12), none⟩] (some [5]))
 .ret))

theorem m79 : fmatch Try.prog Try.f79 3 [.tmp 5] v79 = true := by kernel_rfl

/-- steening/dowsers.within -/
def v80 : VC :=
 (.seq
 (.ops false [
   ⟨some 6, .mov (.k (.bool false)), none⟩] (some [0, 1, 2]))
 (.seq
 (.ops false [
   ⟨some 7, .mov (.t 0), none⟩,
   ⟨some 8, .mov (.t 1), none⟩,
   ⟨some 9, .bin .geq (.t 7) (.t 8), none⟩,
   ⟨some 10, .mov (.t 9), none⟩,
   ⟨some 11, .mov (.t 0), some (10, true)⟩,
   ⟨some 12, .mov (.t 2), some (10, true)⟩,
   ⟨some 13, .bin .leq (.t 11) (.t 12), some (10, true)⟩,
   ⟨some 14, .pick (.t 10) (.t 13) (.k (.bool false)), none⟩,
   ⟨some 6, .mov (.t 14), none⟩] (some [6]))
 .ret))

theorem m80 : fmatch Try.prog Try.f80 3 [.tmp 6] v80 = true := by kernel_rfl

/-- steening/dowsers.shows -/
def v81 : VC :=
 (.seq
 (.ops false [
   ⟨some 2, .box 2 2 (.t 0), none⟩,
   ⟨some 4, .mov (.k (.bool false)), none⟩] (some [1, 2]))
 (.seq
 (.ops false [
   ⟨some 5, .fld 0 (.t 2), none⟩,
   ⟨some 6, .load 1 false (.t 5) [], none⟩,
   ⟨some 7, .bin .mul (.k (.int 100)) (.t 6), none⟩,
   ⟨some 8, .mov (.t 1), none⟩,
   ⟨some 9, .fld 1 (.t 2), none⟩,
   ⟨some 10, .load 1 false (.t 9) [], none⟩,
   ⟨some 11, .bin .mul (.t 8) (.t 10), none⟩,
   ⟨some 12, .bin .leq (.t 7) (.t 11), none⟩,
   ⟨some 4, .mov (.t 12), none⟩] (some [4]))
 .ret))

theorem m81 : fmatch Try.prog Try.f81 2 [.tmp 4] v81 = true := by kernel_rfl

/-- (*steening/dowsers.book).isOpen -/
def v84 : VC :=
 (.seq
 (.ops false [
   ⟨some 3, .box 3 4 (.t 1), none⟩,
   ⟨some 4, .mov (.k (.bool false)), none⟩] (some [0, 3]))
 (.seq
 (.ops true [
   ⟨some 5, .mov (.t 0), none⟩,
   ⟨some 6, .nilck (.t 5), none⟩,
   ⟨some 7, .fld 0 (.t 6), none⟩,
   ⟨some 8, .fld 1 (.t 7), none⟩,
   ⟨some 9, .load 1 false (.t 8) [], none⟩,
   ⟨some 10, .fld 1 (.t 3), none⟩,
   ⟨some 11, .load 1 false (.t 10) [], none⟩,
   ⟨some 12, .idx 1 (.t 9) (.t 11), none⟩,
   ⟨some 13, .load 1 false (.t 12) [], none⟩,
   ⟨some 14, .bin .eql (.t 13) (.k (.int 0)), none⟩,
   ⟨some 4, .mov (.t 14), none⟩] (some [4]))
 .ret))

theorem m84 : fmatch Try.prog Try.f84 2 [.tmp 4] v84 = true := by kernel_rfl

/-- (*steening/dowsers.book).points -/
def v85 : VC :=
 (.seq
 (.ops false [
   ⟨some 4, .box 4 4 (.t 1), none⟩,
   ⟨some 6, .mov (.k (.int 0)), none⟩] (some [0, 2, 4]))
 (.seq
 (.seq
 (.ops false [
   ⟨some 7, .mov (.t 2), none⟩,
   ⟨some 8, .fld 2 (.t 4), none⟩,
   ⟨some 9, .load 1 false (.t 8) [], none⟩,
   ⟨some 10, .fld 3 (.t 4), none⟩,
   ⟨some 11, .load 1 false (.t 10) [], none⟩,
   ⟨some 12, .call 80 [.t 7, .t 9, .t 11], none⟩] (some [0, 4, 12]))
 (.cond (.t 12)
  (.seq
  (.ops true [
    ⟨some 13, .mov (.t 0), none⟩,
    ⟨some 14, .nilck (.t 13), none⟩,
    ⟨some 15, .fld 0 (.t 14), none⟩,
    ⟨some 16, .fld 0 (.t 15), none⟩,
    ⟨some 17, .load 1 false (.t 16) [], none⟩,
    ⟨some 18, .load 4 true (.t 4) [], none⟩,
    ⟨some 19, .call 94 [.t 18], none⟩,
    ⟨some 20, .bin .sub (.t 17) (.t 19), none⟩,
    ⟨some 6, .mov (.t 20), none⟩] (some [6]))
  .ret)
  .skip))
 (.seq
 (.ops false [
   ⟨some 21, .load 4 true (.t 4) [], none⟩,
   ⟨some 22, .call 94 [.t 21], none⟩,
   ⟨some 23, .neg (.t 22), none⟩,
   ⟨some 6, .mov (.t 23), none⟩] (some [6]))
 .ret)))

theorem m85 : fmatch Try.prog Try.f85 3 [.tmp 6] v85 = true := by kernel_rfl

/-- steening/dowsers.compare -/
def v86 : VC :=
 (.seq
 (.ops false [
   ⟨some 2, .box 2 4 (.t 0), none⟩,
   ⟨some 3, .box 3 4 (.t 1), none⟩,
   ⟨some 4, .mov (.k (.int 0)), none⟩] (some [2, 3]))
 (.seq
 (.ops true [
   ⟨some 5, .fld 0 (.t 2), none⟩,
   ⟨some 6, .load 1 false (.t 5) [], none⟩,
   ⟨some 7, .fld 0 (.t 3), none⟩,
   ⟨some 8, .load 1 false (.t 7) [], none⟩,
   ⟨some 9, .call 98 [.t 6, .t 8], none⟩,
   ⟨some 10, .fld 1 (.t 2), none⟩,
   ⟨some 11, .load 1 false (.t 10) [], none⟩,
   ⟨some 12, .fld 1 (.t 3), none⟩,
   ⟨some 13, .load 1 false (.t 12) [], none⟩,
   ⟨some 14, .call 98 [.t 11, .t 13], none⟩,
   ⟨some 15, .bslice 1 [.t 9, .t 14], none⟩,
   ⟨some 16, .call 97 [.t 15], none⟩,
   ⟨some 4, .mov (.t 16), none⟩] (some [4]))
 .ret))

theorem m86 : fmatch Try.prog Try.f86 2 [.tmp 4] v86 = true := by kernel_rfl

/-- (*steening/dowsers.book).run -/
def v91 : VC :=
 (.seq
 (.ops false [
   ⟨some 4, .mov (.k .nilp), none⟩] (some [0, 1]))
 (.seq
 (.ops false [
   ⟨some 12, .mov (.t 0), none⟩,
   ⟨some 13, .mov (.t 1), none⟩,
   ⟨some 14, .build [.und, .int 0, .sl 1 [] .full, .sl 4 [] .full] [(0, 1, .t 12), (1, 1, .t 13)], none⟩,
   ⟨some 15, .box 15 4 (.t 14), none⟩,
   ⟨some 5, .mov (.t 15), none⟩] (some [0, 1, 5]))
 (.seq
 (.seq
 (.ops false [
   ⟨some 16, .mov (.t 0), none⟩,
   ⟨some 17, .nilck (.t 16), none⟩,
   ⟨some 18, .fld 0 (.t 17), none⟩,
   ⟨some 19, .fld 1 (.t 18), none⟩,
   ⟨some 20, .load 1 false (.t 19) [], none⟩,
   ⟨some 21, .len (.t 20), none⟩,
   ⟨some 22, .mov (.k (.int 0)), none⟩] (some [0, 1, 5, 21, 22]))
 (.block 0
  (.loop
   (.seq
   (.ops false [
     ⟨some 23, .bin .lss (.t 22) (.t 21), none⟩] (some [0, 1, 5, 21, 22, 23]))
   (.seq
   (.cond (.t 23)
    .skip
    (.exit 0))
   (.seq
   (.block 1
    (.seq
    (.ops false [
      ⟨some 24, .mov (.t 22), none⟩,
      ⟨some 6, .mov (.t 24), none⟩] (some [0, 1, 5, 6, 21, 22]))
    (.ops true [
      ⟨some 25, .mov (.t 5), none⟩,
      ⟨some 26, .mov (.t 5), none⟩,
      ⟨some 27, .nilck (.t 26), none⟩,
      ⟨some 28, .fld 2 (.t 27), none⟩,
      ⟨some 29, .load 1 false (.t 28) [], none⟩,
      ⟨some 30, .mov (.t 0), none⟩,
      ⟨some 31, .mov (.t 6), none⟩,
      ⟨some 32, .call 68 [.t 30, .t 31], none⟩,
      ⟨some 33, .bslice 1 [.t 32], none⟩,
      ⟨some 34, .app 34 1 24 (.t 29) (.t 33), none⟩,
      ⟨some 35, .nilck (.t 25), none⟩,
      ⟨some 36, .fld 2 (.t 35), none⟩,
      ⟨none, .store 1 (.t 36) (.t 34) none, none⟩] (some [0, 1, 5, 21, 22]))))
   (.ops false [
     ⟨some 37, .bin .add (.t 22) (.k (.int 1)), none⟩,
     ⟨some 22, .mov (.t 37), none⟩] (some [0, 1, 5, 21, 22]))))))))
 (.seq
 (.ops false [
   ⟨some 38, .mov (.t 5), none⟩,
   ⟨some 39, .mov (.t 0), none⟩,
   ⟨some 40, .nilck (.t 39), none⟩,
   ⟨some 41, .fld 0 (.t 40), none⟩,
   ⟨some 42, .fld 1 (.t 41), none⟩,
   ⟨some 43, .load 1 false (.t 42) [], none⟩,
   ⟨some 44, .len (.t 43), none⟩,
   ⟨some 45, .bin .add (.t 44) (.k (.int 1)), none⟩,
   ⟨some 46, .makes 46 4 32 true [.int 0, .int 0, .int 0, .int 0] (.t 45), none⟩,
   ⟨some 47, .nilck (.t 38), none⟩,
   ⟨some 48, .fld 3 (.t 47), none⟩,
   ⟨none, .store 1 (.t 48) (.t 46) none, none⟩] (some [0, 1, 5]))
 (.seq
 (.seq
 (.ops false [
   ⟨some 49, .mov (.t 0), none⟩,
   ⟨some 50, .nilck (.t 49), none⟩,
   ⟨some 51, .fld 0 (.t 50), none⟩,
   ⟨some 52, .fld 1 (.t 51), none⟩,
   ⟨some 53, .load 1 false (.t 52) [], none⟩,
   ⟨some 54, .len (.t 53), none⟩,
   ⟨some 55, .bin .sub (.t 54) (.k (.int 1)), none⟩,
   ⟨some 7, .mov (.t 55), none⟩] (some [0, 1, 5, 7]))
 (.block 2
  (.loop
   (.seq
   (.seq
   (.ops false [
     ⟨some 56, .mov (.t 7), none⟩,
     ⟨some 57, .bin .geq (.t 56) (.k (.int 0)), none⟩] (some [0, 1, 5, 7, 57]))
   (.cond (.t 57)
    .skip
    (.exit 2)))
   (.seq
   (.block 3
    (.seq
    (.ops false [
      ⟨some 60, .mov (.t 0), none⟩,
      ⟨some 61, .nilck (.t 60), none⟩,
      ⟨some 62, .fld 0 (.t 61), none⟩,
      ⟨some 63, .fld 2 (.t 62), none⟩,
      ⟨some 64, .load 1 false (.t 63) [], none⟩,
      ⟨some 65, .mov (.k (.int 0)), none⟩] (some [0, 1, 5, 7, 64, 65]))
    (.block 4
     (.loop
      (.seq
      (.ops false [
        ⟨some 66, .bin .lss (.t 65) (.t 64), none⟩] (some [0, 1, 5, 7, 64, 65, 66]))
      (.seq
      (.cond (.t 66)
       .skip
       (.exit 4))
      (.seq
      (.block 5
       (.seq
       (.ops false [
         ⟨some 67, .mov (.t 65), none⟩,
         ⟨some 8, .mov (.t 67), none⟩] (some [0, 1, 5, 7, 8, 64, 65]))
       (.seq
       (.ops true [
         ⟨some 68, .mov (.t 5), none⟩,
         ⟨some 69, .nilck (.t 68), none⟩,
         ⟨some 70, .fld 2 (.t 69), none⟩,
         ⟨some 71, .load 1 false (.t 70) [], none⟩,
         ⟨some 72, .mov (.t 7), none⟩,
         ⟨some 73, .idx 1 (.t 71) (.t 72), none⟩,
         ⟨some 74, .load 1 false (.t 73) [], none⟩,
         ⟨some 75, .mov (.t 1), none⟩,
         ⟨some 76, .idx 4 (.t 74) (.k (.int 0)), none⟩,
         ⟨some 77, .idxA 4 1 (.t 76) (.t 75), none⟩,
         ⟨some 78, .load 1 false (.t 77) [], none⟩,
         ⟨some 79, .mov (.t 5), none⟩,
         ⟨some 80, .nilck (.t 79), none⟩,
         ⟨some 81, .fld 2 (.t 80), none⟩,
         ⟨some 82, .load 1 false (.t 81) [], none⟩,
         ⟨some 83, .mov (.t 7), none⟩,
         ⟨some 84, .idx 1 (.t 82) (.t 83), none⟩,
         ⟨some 85, .load 1 false (.t 84) [], none⟩,
         ⟨some 86, .mov (.t 8), none⟩,
         ⟨some 87, .idx 4 (.t 85) (.k (.int 0)), none⟩,
         ⟨some 88, .idxA 4 1 (.t 87) (.t 86), none⟩,
         ⟨some 89, .load 1 false (.t 88) [], none⟩,
         ⟨some 90, .bin .sub (.t 78) (.t 89), none⟩,
         ⟨some 9, .mov (.t 90), none⟩] (some [0, 1, 5, 7, 8, 9, 64, 65]))
       (.seq
       (.seq
       (.ops false [
         ⟨some 91, .mov (.t 5), none⟩,
         ⟨some 92, .nilck (.t 91), none⟩,
         ⟨some 93, .fld 2 (.t 92), none⟩,
         ⟨some 94, .load 1 false (.t 93) [], none⟩,
         ⟨some 95, .mov (.t 7), none⟩,
         ⟨some 96, .idx 1 (.t 94) (.t 95), none⟩,
         ⟨some 97, .load 1 false (.t 96) [], none⟩,
         ⟨some 98, .len (.t 97), none⟩,
         ⟨some 99, .mov (.k (.int 0)), none⟩] (some [0, 1, 5, 7, 8, 9, 64, 65, 97, 98, 99]))
       (.block 6
        (.loop
         (.seq
         (.ops false [
           ⟨some 100, .bin .lss (.t 99) (.t 98), none⟩] (some [0, 1, 5, 7, 8, 9, 64, 65, 97, 98, 99, 100]))
         (.seq
         (.cond (.t 100)
          .skip
          (.exit 6))
         (.seq
         (.block 7
          (.seq
          (.ops false [
            ⟨some 101, .idx 4 (.t 97) (.t 99), none⟩,
            ⟨some 102, .load 4 true (.t 101) [], none⟩,
            ⟨some 11, .alloc 11 [.int 0, .int 0, .int 0, .int 0], none⟩,
            ⟨none, .store 4 (.t 11) (.t 102) (some 11), none⟩] (some [0, 1, 5, 7, 8, 9, 11, 64, 65, 97, 98, 99]))
          (.ops true [
            ⟨some 103, .mov (.t 9), none⟩,
            ⟨some 104, .mov (.t 1), none⟩,
            ⟨some 105, .idxA 4 1 (.t 11) (.t 104), none⟩,
            ⟨some 106, .load 1 false (.t 105) [], none⟩,
            ⟨some 107, .mov (.t 8), none⟩,
            ⟨some 108, .idxA 4 1 (.t 11) (.t 107), none⟩,
            ⟨some 109, .load 1 false (.t 108) [], none⟩,
            ⟨some 110, .bin .sub (.t 106) (.t 109), none⟩,
            ⟨some 111, .max (.t 103) (.t 110), none⟩,
            ⟨some 9, .mov (.t 111), none⟩] (some [0, 1, 5, 7, 8, 9, 64, 65, 97, 98, 99]))))
         (.ops false [
           ⟨some 112, .bin .add (.t 99) (.k (.int 1)), none⟩,
           ⟨some 99, .mov (.t 112), none⟩] (some [0, 1, 5, 7, 8, 9, 64, 65, 97, 98, 99]))))))))
       (.ops true [
         ⟨some 113, .mov (.t 5), none⟩,
         ⟨some 114, .nilck (.t 113), none⟩,
         ⟨some 115, .fld 3 (.t 114), none⟩,
         ⟨some 116, .load 1 false (.t 115) [], none⟩,
         ⟨some 117, .mov (.t 7), none⟩,
         ⟨some 118, .mov (.t 8), none⟩,
         ⟨some 119, .mov (.t 5), none⟩,
         ⟨some 120, .nilck (.t 119), none⟩,
         ⟨some 121, .fld 3 (.t 120), none⟩,
         ⟨some 122, .load 1 false (.t 121) [], none⟩,
         ⟨some 123, .mov (.t 7), none⟩,
         ⟨some 124, .bin .add (.t 123) (.k (.int 1)), none⟩,
         ⟨some 125, .mov (.t 8), none⟩,
         ⟨some 126, .idx 4 (.t 122) (.t 124), none⟩,
         ⟨some 127, .idxA 4 1 (.t 126) (.t 125), none⟩,
         ⟨some 128, .load 1 false (.t 127) [], none⟩,
         ⟨some 129, .mov (.t 9), none⟩,
         ⟨some 130, .bin .add (.t 128) (.t 129), none⟩,
         ⟨some 131, .idx 4 (.t 116) (.t 117), none⟩,
         ⟨some 132, .idxA 4 1 (.t 131) (.t 118), none⟩,
         ⟨none, .store 1 (.t 132) (.t 130) none, none⟩] (some [0, 1, 5, 7, 64, 65]))))))
      (.ops false [
        ⟨some 133, .bin .add (.t 65) (.k (.int 1)), none⟩,
        ⟨some 65, .mov (.t 133), none⟩] (some [0, 1, 5, 7, 64, 65])))))))))
   (.ops false [
     ⟨some 58, .mov (.t 7), none⟩,
     ⟨some 59, .bin .sub (.t 58) (.k (.int 1)), none⟩,
     ⟨some 7, .mov (.t 59), none⟩] (some [0, 1, 5, 7])))))))
 (.seq
 (.opsN false [
   ⟨some 134, .mov (.t 5), none⟩,
   ⟨some 4, .mov (.t 134), none⟩] (some [4]))
 .ret))))))

theorem m91 : fmatch Try.prog Try.f91 2 [.tmp 4] v91 = true := by kernel_rfl

/-- (*steening/dowsers.race).surely -/
def v92 : VC :=
 (.seq
 (.ops false [
   ⟨some 2, .mov (.k (.bool false)), none⟩] (some [0]))
 (.seq
 (.seq
 (.ops false [
   ⟨some 10, .mov (.t 0), none⟩,
   ⟨some 11, .nilck (.t 10), none⟩,
   ⟨some 12, .fld 0 (.t 11), none⟩,
   ⟨some 13, .load 1 false (.t 12) [], none⟩,
   ⟨some 14, .nilck (.t 13), none⟩,
   ⟨some 15, .fld 0 (.t 14), none⟩,
   ⟨some 16, .fld 2 (.t 15), none⟩,
   ⟨some 17, .load 1 false (.t 16) [], none⟩,
   ⟨some 18, .mov (.k (.int 0)), none⟩] (some [0, 17, 18]))
 (.block 0
  (.loop
   (.seq
   (.ops false [
     ⟨some 19, .bin .lss (.t 18) (.t 17), none⟩] (some [0, 17, 18, 19]))
   (.seq
   (.cond (.t 19)
    .skip
    (.exit 0))
   (.seq
   (.block 1
    (.seq
    (.ops false [
      ⟨some 20, .mov (.t 18), none⟩,
      ⟨some 3, .mov (.t 20), none⟩] (some [0, 3, 17, 18]))
    (.seq
    (.ops false [
      ⟨some 4, .mov (.k (.int 0)), none⟩] (some [0, 3, 4, 17, 18]))
    (.seq
    (.seq
    (.ops false [
      ⟨some 21, .mov (.t 0), none⟩,
      ⟨some 22, .nilck (.t 21), none⟩,
      ⟨some 23, .fld 2 (.t 22), none⟩,
      ⟨some 24, .load 1 false (.t 23) [], none⟩,
      ⟨some 25, .len (.t 24), none⟩,
      ⟨some 26, .mov (.k (.int 0)), none⟩] (some [0, 3, 4, 17, 18, 24, 25, 26]))
    (.block 2
     (.loop
      (.seq
      (.ops false [
        ⟨some 27, .bin .lss (.t 26) (.t 25), none⟩] (some [0, 3, 4, 17, 18, 24, 25, 26, 27]))
      (.seq
      (.cond (.t 27)
       .skip
       (.exit 2))
      (.seq
      (.block 3
       (.seq
       (.ops false [
         ⟨some 28, .idx 1 (.t 24) (.t 26), none⟩,
         ⟨some 29, .load 1 false (.t 28) [], none⟩,
         ⟨some 6, .mov (.t 29), none⟩] (some [0, 3, 4, 6, 17, 18, 24, 25, 26]))
       (.seq
       (.ops true [
         ⟨some 30, .mov (.t 6), none⟩,
         ⟨some 31, .mov (.t 3), none⟩,
         ⟨some 32, .idx 4 (.t 30) (.k (.int 0)), none⟩,
         ⟨some 33, .idxA 4 1 (.t 32) (.t 31), none⟩,
         ⟨some 34, .load 1 false (.t 33) [], none⟩,
         ⟨some 35, .mov (.t 6), none⟩,
         ⟨some 36, .mov (.t 0), none⟩,
         ⟨some 37, .nilck (.t 36), none⟩,
         ⟨some 38, .fld 1 (.t 37), none⟩,
         ⟨some 39, .load 1 false (.t 38) [], none⟩,
         ⟨some 40, .idx 4 (.t 35) (.k (.int 0)), none⟩,
         ⟨some 41, .idxA 4 1 (.t 40) (.t 39), none⟩,
         ⟨some 42, .load 1 false (.t 41) [], none⟩,
         ⟨some 43, .bin .sub (.t 34) (.t 42), none⟩,
         ⟨some 7, .mov (.t 43), none⟩] (some [0, 3, 4, 6, 7, 17, 18, 24, 25, 26]))
       (.seq
       (.seq
       (.ops false [
         ⟨some 44, .mov (.t 6), none⟩,
         ⟨some 45, .len (.t 44), none⟩,
         ⟨some 46, .mov (.k (.int 0)), none⟩] (some [0, 3, 4, 7, 17, 18, 24, 25, 26, 44, 45, 46]))
       (.block 4
        (.loop
         (.seq
         (.ops false [
           ⟨some 47, .bin .lss (.t 46) (.t 45), none⟩] (some [0, 3, 4, 7, 17, 18, 24, 25, 26, 44, 45, 46, 47]))
         (.seq
         (.cond (.t 47)
          .skip
          (.exit 4))
         (.seq
         (.block 5
          (.seq
          (.ops false [
            ⟨some 48, .idx 4 (.t 44) (.t 46), none⟩,
            ⟨some 49, .load 4 true (.t 48) [], none⟩,
            ⟨some 9, .alloc 9 [.int 0, .int 0, .int 0, .int 0], none⟩,
            ⟨none, .store 4 (.t 9) (.t 49) (some 9), none⟩] (some [0, 3, 4, 7, 9, 17, 18, 24, 25, 26, 44, 45, 46]))
          (.ops true [
            ⟨some 50, .mov (.t 7), none⟩,
            ⟨some 51, .mov (.t 3), none⟩,
            ⟨some 52, .idxA 4 1 (.t 9) (.t 51), none⟩,
            ⟨some 53, .load 1 false (.t 52) [], none⟩,
            ⟨some 54, .mov (.t 0), none⟩,
            ⟨some 55, .nilck (.t 54), none⟩,
            ⟨some 56, .fld 1 (.t 55), none⟩,
            ⟨some 57, .load 1 false (.t 56) [], none⟩,
            ⟨some 58, .idxA 4 1 (.t 9) (.t 57), none⟩,
            ⟨some 59, .load 1 false (.t 58) [], none⟩,
            ⟨some 60, .bin .sub (.t 53) (.t 59), none⟩,
            ⟨some 61, .max (.t 50) (.t 60), none⟩,
            ⟨some 7, .mov (.t 61), none⟩] (some [0, 3, 4, 7, 17, 18, 24, 25, 26, 44, 45, 46]))))
         (.ops false [
           ⟨some 62, .bin .add (.t 46) (.k (.int 1)), none⟩,
           ⟨some 46, .mov (.t 62), none⟩] (some [0, 3, 4, 7, 17, 18, 24, 25, 26, 44, 45, 46]))))))))
       (.ops false [
         ⟨some 63, .mov (.t 4), none⟩,
         ⟨some 64, .mov (.t 7), none⟩,
         ⟨some 65, .bin .add (.t 63) (.t 64), none⟩,
         ⟨some 4, .mov (.t 65), none⟩] (some [0, 3, 4, 17, 18, 24, 25, 26]))))))
      (.ops false [
        ⟨some 66, .bin .add (.t 26) (.k (.int 1)), none⟩,
        ⟨some 26, .mov (.t 66), none⟩] (some [0, 3, 4, 17, 18, 24, 25, 26]))))))))
    (.seq
    (.ops false [
      ⟨some 67, .mov (.t 4), none⟩,
      ⟨some 68, .bin .gtr (.t 67) (.k (.int 0)), none⟩] (some [0, 17, 18, 68]))
    (.cond (.t 68)
     (.seq
     (.ops false [
       ⟨some 2, .mov (.k (.bool false)), none⟩] (some [2]))
     .ret)
     .skip))))))
   (.ops false [
     ⟨some 69, .bin .add (.t 18) (.k (.int 1)), none⟩,
     ⟨some 18, .mov (.t 69), none⟩] (some [0, 17, 18]))))))))
 (.seq
 (.ops false [
   ⟨some 2, .mov (.k (.bool true)), none⟩] (some [2]))
 .ret)))

theorem m92 : fmatch Try.prog Try.f92 1 [.tmp 2] v92 = true := by kernel_rfl

/-- (*steening/dowsers.race).may -/
def v93 : VC :=
 (.seq
 (.ops false [
   ⟨some 4, .box 4 5 (.t 1), none⟩,
   ⟨some 6, .mov (.k (.bool false)), none⟩] (some [0, 2, 4]))
 (.seq
 (.seq
 (.opsN false [
   ⟨some 12, .mov (.t 0), none⟩,
   ⟨some 13, .nilck (.t 12), none⟩,
   ⟨some 14, .fld 0 (.t 13), none⟩,
   ⟨some 15, .load 1 false (.t 14) [], none⟩,
   ⟨some 16, .nilck (.t 15), none⟩,
   ⟨some 17, .fld 0 (.t 16), none⟩,
   ⟨some 18, .fld 2 (.t 17), none⟩,
   ⟨some 19, .load 1 false (.t 18) [], none⟩,
   ⟨some 20, .mov (.k (.int 0)), none⟩] (some [0, 2, 4, 19, 20]))
 (.block 0
  (.loop
   (.seq
   (.ops false [
     ⟨some 21, .bin .lss (.t 20) (.t 19), none⟩] (some [0, 2, 4, 19, 20, 21]))
   (.seq
   (.cond (.t 21)
    .skip
    (.exit 0))
   (.seq
   (.block 1
    (.seq
    (.ops false [
      ⟨some 22, .mov (.t 20), none⟩,
      ⟨some 7, .mov (.t 22), none⟩] (some [0, 2, 4, 7, 19, 20]))
    (.seq
    (.ops true [
      ⟨some 23, .mov (.t 7), none⟩,
      ⟨some 24, .fld 1 (.t 4), none⟩,
      ⟨some 25, .idxA 4 1 (.t 24) (.t 23), none⟩,
      ⟨some 26, .load 1 false (.t 25) [], none⟩,
      ⟨some 27, .mov (.t 0), none⟩,
      ⟨some 28, .nilck (.t 27), none⟩,
      ⟨some 29, .fld 3 (.t 28), none⟩,
      ⟨some 30, .load 1 false (.t 29) [], none⟩,
      ⟨some 31, .fld 0 (.t 4), none⟩,
      ⟨some 32, .load 1 false (.t 31) [], none⟩,
      ⟨some 33, .mov (.t 7), none⟩,
      ⟨some 34, .idx 4 (.t 30) (.t 32), none⟩,
      ⟨some 35, .idxA 4 1 (.t 34) (.t 33), none⟩,
      ⟨some 36, .load 1 false (.t 35) [], none⟩,
      ⟨some 37, .bin .gtr (.t 26) (.t 36), none⟩] (some [0, 2, 4, 19, 20, 37]))
    (.cond (.t 37)
     (.seq
     (.ops false [
       ⟨some 6, .mov (.k (.bool false)), none⟩] (some [6]))
     .ret)
     .skip))))
   (.ops false [
     ⟨some 38, .bin .add (.t 20) (.k (.int 1)), none⟩,
     ⟨some 20, .mov (.t 38), none⟩] (some [0, 2, 4, 19, 20]))))))))
 (.seq
 (.seq
 (.ops true [
   ⟨some 39, .fld 0 (.t 4), none⟩,
   ⟨some 40, .load 1 false (.t 39) [], none⟩,
   ⟨some 41, .mov (.t 0), none⟩,
   ⟨some 42, .nilck (.t 41), none⟩,
   ⟨some 43, .fld 2 (.t 42), none⟩,
   ⟨some 44, .load 1 false (.t 43) [], none⟩,
   ⟨some 45, .len (.t 44), none⟩,
   ⟨some 46, .bin .eql (.t 40) (.t 45), none⟩] (some [0, 2, 4, 46]))
 (.cond (.t 46)
  (.seq
  (.ops false [
    ⟨some 6, .mov (.k (.bool true)), none⟩] (some [6]))
  .ret)
  .skip))
 (.seq
 (.seq
 (.ops false [
   ⟨some 47, .mov (.t 2), none⟩,
   ⟨some 48, .load 5 true (.t 4) [], none⟩,
   ⟨some 49, .mlook 119 (.t 47) (.t 48), none⟩,
   ⟨some 50, .bin .gtr (.t 49) (.k (.int 0)), none⟩] (some [0, 2, 4, 50]))
 (.cond (.t 50)
  (.seq
  (.ops false [
    ⟨some 6, .mov (.k (.bool false)), none⟩] (some [6]))
  .ret)
  .skip))
 (.seq
 (.seq
 (.ops true [
   ⟨some 51, .mov (.t 0), none⟩,
   ⟨some 52, .nilck (.t 51), none⟩,
   ⟨some 53, .fld 2 (.t 52), none⟩,
   ⟨some 54, .load 1 false (.t 53) [], none⟩,
   ⟨some 55, .fld 0 (.t 4), none⟩,
   ⟨some 56, .load 1 false (.t 55) [], none⟩,
   ⟨some 57, .idx 1 (.t 54) (.t 56), none⟩,
   ⟨some 58, .load 1 false (.t 57) [], none⟩,
   ⟨some 59, .len (.t 58), none⟩,
   ⟨some 60, .mov (.k (.int 0)), none⟩] (some [0, 2, 4, 58, 59, 60]))
 (.block 2
  (.loop
   (.seq
   (.ops false [
     ⟨some 61, .bin .lss (.t 60) (.t 59), none⟩] (some [0, 2, 4, 58, 59, 60, 61]))
   (.seq
   (.cond (.t 61)
    .skip
    (.exit 2))
   (.seq
   (.block 3
    (.seq
    (.ops false [
      ⟨some 62, .idx 4 (.t 58) (.t 60), none⟩,
      ⟨some 63, .load 4 true (.t 62) [], none⟩,
      ⟨some 9, .alloc 9 [.int 0, .int 0, .int 0, .int 0], none⟩,
      ⟨none, .store 4 (.t 9) (.t 63) (some 9), none⟩] (some [0, 2, 4, 9, 58, 59, 60]))
    (.seq
    (.ops false [
      ⟨some 64, .fld 0 (.t 4), none⟩,
      ⟨some 65, .load 1 false (.t 64) [], none⟩,
      ⟨some 66, .bin .add (.t 65) (.k (.int 1)), none⟩,
      ⟨some 67, .fld 1 (.t 4), none⟩,
      ⟨some 68, .load 4 true (.t 67) [], none⟩,
      ⟨some 69, .build [.int 0, .int 0, .int 0, .int 0, .int 0] [(0, 1, .t 66), (1, 4, .t 68)], none⟩,
      ⟨some 10, .alloc 10 [.int 0, .int 0, .int 0, .int 0, .int 0], none⟩,
      ⟨none, .store 5 (.t 10) (.t 69) (some 10), none⟩] (some [0, 2, 4, 9, 10, 58, 59, 60]))
    (.seq
    (.seq
    (.ops false [
      ⟨some 70, .mov (.t 0), none⟩,
      ⟨some 71, .nilck (.t 70), none⟩,
      ⟨some 72, .fld 0 (.t 71), none⟩,
      ⟨some 73, .load 1 false (.t 72) [], none⟩,
      ⟨some 74, .nilck (.t 73), none⟩,
      ⟨some 75, .fld 0 (.t 74), none⟩,
      ⟨some 76, .fld 2 (.t 75), none⟩,
      ⟨some 77, .load 1 false (.t 76) [], none⟩,
      ⟨some 78, .mov (.k (.int 0)), none⟩] (some [0, 2, 4, 9, 10, 58, 59, 60, 77, 78]))
    (.block 4
     (.loop
      (.seq
      (.ops false [
        ⟨some 79, .bin .lss (.t 78) (.t 77), none⟩] (some [0, 2, 4, 9, 10, 58, 59, 60, 77, 78, 79]))
      (.seq
      (.cond (.t 79)
       .skip
       (.exit 4))
      (.seq
      (.block 5
       (.seq
       (.ops false [
         ⟨some 80, .mov (.t 78), none⟩,
         ⟨some 11, .mov (.t 80), none⟩] (some [0, 2, 4, 9, 10, 11, 58, 59, 60, 77, 78]))
       (.ops true [
         ⟨some 81, .mov (.t 11), none⟩,
         ⟨some 82, .fld 1 (.t 10), none⟩,
         ⟨some 83, .idxA 4 1 (.t 82) (.t 81), none⟩,
         ⟨some 84, .load 1 false (.t 83) [], none⟩,
         ⟨some 85, .mov (.t 11), none⟩,
         ⟨some 86, .idxA 4 1 (.t 9) (.t 85), none⟩,
         ⟨some 87, .load 1 false (.t 86) [], none⟩,
         ⟨some 88, .mov (.t 0), none⟩,
         ⟨some 89, .nilck (.t 88), none⟩,
         ⟨some 90, .fld 1 (.t 89), none⟩,
         ⟨some 91, .load 1 false (.t 90) [], none⟩,
         ⟨some 92, .idxA 4 1 (.t 9) (.t 91), none⟩,
         ⟨some 93, .load 1 false (.t 92) [], none⟩,
         ⟨some 94, .bin .sub (.t 87) (.t 93), none⟩,
         ⟨some 95, .bin .add (.t 84) (.t 94), none⟩,
         ⟨some 96, .fld 1 (.t 10), none⟩,
         ⟨some 97, .idxA 4 1 (.t 96) (.t 81), none⟩,
         ⟨none, .store 1 (.t 97) (.t 95) (some 10), none⟩] (some [0, 2, 4, 9, 10, 58, 59, 60, 77, 78]))))
      (.ops false [
        ⟨some 98, .bin .add (.t 78) (.k (.int 1)), none⟩,
        ⟨some 78, .mov (.t 98), none⟩] (some [0, 2, 4, 9, 10, 58, 59, 60, 77, 78]))))))))
    (.seq
    (.opsN false [
      ⟨some 99, .mov (.t 0), none⟩,
      ⟨some 100, .load 5 true (.t 10) [], none⟩,
      ⟨some 101, .mov (.t 2), none⟩,
      ⟨some 102, .calli 93 [.t 99, .t 100, .t 101], none⟩] (some [0, 2, 4, 58, 59, 60, 102]))
    (.cond (.t 102)
     (.seq
     (.ops false [
       ⟨some 6, .mov (.k (.bool true)), none⟩] (some [6]))
     .ret)
     .skip))))))
   (.ops false [
     ⟨some 103, .bin .add (.t 60) (.k (.int 1)), none⟩,
     ⟨some 60, .mov (.t 103), none⟩] (some [0, 2, 4, 58, 59, 60]))))))))
 (.seq
 (.mbump 119 (.t 2) (.load 5 true (.t 4) []) [104, 105, 106, 107, 108, 109] (some []))
 (.seq
 (.ops false [
   ⟨some 6, .mov (.k (.bool false)), none⟩] (some [6]))
 .ret)))))))

theorem m93 : fmatch Try.prog Try.f93 3 [.tmp 6] v93 = true := by kernel_rfl

/-- steening/dowsers.width -/
def v94 : VC :=
 (.seq
 (.ops false [
   ⟨some 1, .box 1 4 (.t 0), none⟩,
   ⟨some 2, .mov (.k (.int 0)), none⟩] (some [1]))
 (.seq
 (.ops false [
   ⟨some 3, .fld 3 (.t 1), none⟩,
   ⟨some 4, .load 1 false (.t 3) [], none⟩,
   ⟨some 5, .fld 2 (.t 1), none⟩,
   ⟨some 6, .load 1 false (.t 5) [], none⟩,
   ⟨some 7, .bin .sub (.t 4) (.t 6), none⟩,
   ⟨some 8, .bin .add (.t 7) (.k (.int 1)), none⟩,
   ⟨some 2, .mov (.t 8), none⟩] (some [2]))
 .ret))

theorem m94 : fmatch Try.prog Try.f94 1 [.tmp 2] v94 = true := by kernel_rfl

/-- slices.stableCmpFunc[int] -/
def v95 : VC :=
 (.seq
 (.ops false [
   ⟨some 6, .mov (.k (.int 20)), none⟩] (some [0, 1, 2, 6]))
 (.seq
 (.ops false [
   ⟨some 10, .mov (.t 6), none⟩,
   ⟨some 7, .mov (.k (.int 0)), none⟩,
   ⟨some 8, .mov (.t 10), none⟩] (some [0, 1, 2, 6, 7, 8]))
 (.seq
 (.block 0
  (.loop
   (.seq
   (.seq
   (.ops false [
     ⟨some 11, .mov (.t 8), none⟩,
     ⟨some 12, .mov (.t 1), none⟩,
     ⟨some 13, .bin .leq (.t 11) (.t 12), none⟩] (some [0, 1, 2, 6, 7, 8, 13]))
   (.cond (.t 13)
    .skip
    (.exit 0)))
   (.block 1
    (.seq
    (.ops false [
      ⟨some 14, .mov (.t 0), none⟩,
      ⟨some 15, .mov (.t 7), none⟩,
      ⟨some 16, .mov (.t 8), none⟩,
      ⟨some 17, .mov (.t 2), none⟩,
      ⟨some 18, .calli 100 [.t 14, .t 15, .t 16, .t 17], none⟩] (some [0, 1, 2, 6, 8]))
    (.seq
    (.ops false [
      ⟨some 19, .mov (.t 8), none⟩,
      ⟨some 7, .mov (.t 19), none⟩] (some [0, 1, 2, 6, 7, 8]))
    (.ops false [
      ⟨some 20, .mov (.t 8), none⟩,
      ⟨some 21, .mov (.t 6), none⟩,
      ⟨some 22, .bin .add (.t 20) (.t 21), none⟩,
      ⟨some 8, .mov (.t 22), none⟩] (some [0, 1, 2, 6, 7, 8]))))))))
 (.seq
 (.ops false [
   ⟨some 23, .mov (.t 0), none⟩,
   ⟨some 24, .mov (.t 7), none⟩,
   ⟨some 25, .mov (.t 1), none⟩,
   ⟨some 26, .mov (.t 2), none⟩,
   ⟨some 27, .calli 100 [.t 23, .t 24, .t 25, .t 26], none⟩] (some [0, 1, 2, 6]))
 (.block 2
  (.loop
   (.seq
   (.seq
   (.ops false [
     ⟨some 28, .mov (.t 6), none⟩,
     ⟨some 29, .mov (.t 1), none⟩,
     ⟨some 30, .bin .lss (.t 28) (.t 29), none⟩] (some [0, 1, 2, 6, 30]))
   (.cond (.t 30)
    .skip
    (.exit 2)))
   (.block 3
    (.seq
    (.ops false [
      ⟨some 31, .mov (.t 6), none⟩,
      ⟨some 32, .bin .mul (.k (.int 2)) (.t 31), none⟩,
      ⟨some 7, .mov (.k (.int 0)), none⟩,
      ⟨some 8, .mov (.t 32), none⟩] (some [0, 1, 2, 6, 7, 8]))
    (.seq
    (.block 4
     (.loop
      (.seq
      (.seq
      (.ops false [
        ⟨some 33, .mov (.t 8), none⟩,
        ⟨some 34, .mov (.t 1), none⟩,
        ⟨some 35, .bin .leq (.t 33) (.t 34), none⟩] (some [0, 1, 2, 6, 7, 8, 35]))
      (.cond (.t 35)
       .skip
       (.exit 4)))
      (.block 5
       (.seq
       (.ops false [
         ⟨some 36, .mov (.t 0), none⟩,
         ⟨some 37, .mov (.t 7), none⟩,
         ⟨some 38, .mov (.t 7), none⟩,
         ⟨some 39, .mov (.t 6), none⟩,
         ⟨some 40, .bin .add (.t 38) (.t 39), none⟩,
         ⟨some 41, .mov (.t 8), none⟩,
         ⟨some 42, .mov (.t 2), none⟩,
         ⟨some 43, .call 101 [.t 36, .t 37, .t 40, .t 41, .t 42], none⟩] (some [0, 1, 2, 6, 8]))
       (.seq
       (.ops false [
         ⟨some 44, .mov (.t 8), none⟩,
         ⟨some 7, .mov (.t 44), none⟩] (some [0, 1, 2, 6, 7, 8]))
       (.ops false [
         ⟨some 45, .mov (.t 8), none⟩,
         ⟨some 46, .mov (.t 6), none⟩,
         ⟨some 47, .bin .mul (.k (.int 2)) (.t 46), none⟩,
         ⟨some 48, .bin .add (.t 45) (.t 47), none⟩,
         ⟨some 8, .mov (.t 48), none⟩] (some [0, 1, 2, 6, 7, 8]))))))))
    (.seq
    (.seq
    (.ops false [
      ⟨some 49, .mov (.t 7), none⟩,
      ⟨some 50, .mov (.t 6), none⟩,
      ⟨some 51, .bin .add (.t 49) (.t 50), none⟩,
      ⟨some 9, .mov (.t 51), none⟩] (some [0, 1, 2, 6, 7, 9]))
    (.seq
    (.ops false [
      ⟨some 52, .mov (.t 9), none⟩,
      ⟨some 53, .mov (.t 1), none⟩,
      ⟨some 54, .bin .lss (.t 52) (.t 53), none⟩] (some [0, 1, 2, 6, 7, 9, 54]))
    (.cond (.t 54)
     (.ops false [
       ⟨some 55, .mov (.t 0), none⟩,
       ⟨some 56, .mov (.t 7), none⟩,
       ⟨some 57, .mov (.t 9), none⟩,
       ⟨some 58, .mov (.t 1), none⟩,
       ⟨some 59, .mov (.t 2), none⟩,
       ⟨some 60, .call 101 [.t 55, .t 56, .t 57, .t 58, .t 59], none⟩] (some [0, 1, 2, 6]))
     .skip)))
    (.ops false [
      ⟨some 61, .mov (.t 6), none⟩,
      ⟨some 62, .bin .mul (.t 61) (.k (.int 2)), none⟩,
      ⟨some 6, .mov (.t 62), none⟩] (some [0, 1, 2, 6])))))))))))))

theorem m95 : fmatch Try.prog Try.f95 3 [] v95 = true := by kernel_rfl

/-- cmp.Or[int] -/
def v97 : VC :=
 (.seq
 (.ops false [
   ⟨some 2, .mov (.k (.int 0)), none⟩] (some [0]))
 (.seq
 (.ops false [
   ⟨some 3, .mov (.k (.int 0)), none⟩] (some [0, 3]))
 (.seq
 (.seq
 (.ops false [
   ⟨some 6, .mov (.t 0), none⟩,
   ⟨some 7, .len (.t 6), none⟩,
   ⟨some 8, .mov (.k (.int 0)), none⟩] (some [3, 6, 7, 8]))
 (.block 0
  (.loop
   (.seq
   (.ops false [
     ⟨some 9, .bin .lss (.t 8) (.t 7), none⟩] (some [3, 6, 7, 8, 9]))
   (.seq
   (.cond (.t 9)
    .skip
    (.exit 0))
   (.seq
   (.block 1
    (.seq
    (.ops false [
      ⟨some 10, .idx 1 (.t 6) (.t 8), none⟩,
      ⟨some 11, .load 1 false (.t 10) [], none⟩,
      ⟨some 5, .mov (.t 11), none⟩] (some [3, 5, 6, 7, 8]))
    (.seq
    (.ops false [
      ⟨some 12, .mov (.t 5), none⟩,
      ⟨some 13, .mov (.t 3), none⟩,
      ⟨some 14, .bin .neq (.t 12) (.t 13), none⟩] (some [3, 5, 6, 7, 8, 14]))
    (.cond (.t 14)
     (.seq
     (.ops false [
       ⟨some 15, .mov (.t 5), none⟩,
       ⟨some 2, .mov (.t 15), none⟩] (some [2]))
     .ret)
     .skip))))
   (.ops false [
     ⟨some 16, .bin .add (.t 8) (.k (.int 1)), none⟩,
     ⟨some 8, .mov (.t 16), none⟩] (some [3, 6, 7, 8]))))))))
 (.seq
 (.ops false [
   ⟨some 17, .mov (.t 3), none⟩,
   ⟨some 2, .mov (.t 17), none⟩] (some [2]))
 .ret))))

theorem m97 : fmatch Try.prog Try.f97 1 [.tmp 2] v97 = true := by kernel_rfl

/-- cmp.Compare[int] -/
def v98 : VC :=
 (.seq
 (.ops false [
   ⟨some 4, .mov (.k (.int 0)), none⟩] (some [0, 1]))
 (.seq
 (.ops false [
   ⟨some 7, .mov (.t 0), none⟩,
   ⟨some 8, .call 102 [.t 7], none⟩,
   ⟨some 5, .mov (.t 8), none⟩] (some [0, 1, 5]))
 (.seq
 (.ops false [
   ⟨some 9, .mov (.t 1), none⟩,
   ⟨some 10, .call 102 [.t 9], none⟩,
   ⟨some 6, .mov (.t 10), none⟩] (some [0, 1, 5, 6]))
 (.seq
 (.seq
 (.ops false [
   ⟨some 11, .mov (.t 5), none⟩] (some [0, 1, 6, 11]))
 (.cond (.t 11)
  (.seq
  (.seq
  (.ops false [
    ⟨some 12, .mov (.t 6), none⟩] (some [12]))
  (.cond (.t 12)
   (.seq
   (.ops false [
     ⟨some 4, .mov (.k (.int 0)), none⟩] (some [4]))
   .ret)
   .skip))
  (.seq
  (.ops false [
    ⟨some 4, .mov (.k (.int (-1))), none⟩] (some [4]))
  .ret))
  .skip))
 (.seq
 (.seq
 (.ops false [
   ⟨some 13, .mov (.t 6), none⟩] (some [0, 1, 13]))
 (.cond (.t 13)
  (.seq
  (.ops false [
    ⟨some 4, .mov (.k (.int 1)), none⟩] (some [4]))
  .ret)
  .skip))
 (.seq
 (.seq
 (.ops false [
   ⟨some 14, .mov (.t 0), none⟩,
   ⟨some 15, .mov (.t 1), none⟩,
   ⟨some 16, .bin .lss (.t 14) (.t 15), none⟩] (some [0, 1, 16]))
 (.cond (.t 16)
  (.seq
  (.ops false [
    ⟨some 4, .mov (.k (.int (-1))), none⟩] (some [4]))
  .ret)
  .skip))
 (.seq
 (.seq
 (.ops false [
   ⟨some 17, .mov (.t 0), none⟩,
   ⟨some 18, .mov (.t 1), none⟩,
   ⟨some 19, .bin .gtr (.t 17) (.t 18), none⟩] (some [19]))
 (.cond (.t 19)
  (.seq
  (.ops false [
    ⟨some 4, .mov (.k (.int 1)), none⟩] (some [4]))
  .ret)
  .skip))
 (.seq
 (.ops false [
   ⟨some 4, .mov (.k (.int 0)), none⟩] (some [4]))
 .ret))))))))

theorem m98 : fmatch Try.prog Try.f98 2 [.tmp 4] v98 = true := by kernel_rfl

/-- slices.insertionSortCmpFunc[int] -/
def v100 : VC :=
 (.seq
 (.ops false [
   ⟨some 10, .mov (.t 1), none⟩,
   ⟨some 11, .bin .add (.t 10) (.k (.int 1)), none⟩,
   ⟨some 8, .mov (.t 11), none⟩] (some [0, 1, 2, 3, 8]))
 (.block 0
  (.loop
   (.seq
   (.seq
   (.ops false [
     ⟨some 12, .mov (.t 8), none⟩,
     ⟨some 13, .mov (.t 2), none⟩,
     ⟨some 14, .bin .lss (.t 12) (.t 13), none⟩] (some [0, 1, 2, 3, 8, 14]))
   (.cond (.t 14)
    .skip
    (.exit 0)))
   (.seq
   (.block 1
    (.seq
    (.ops false [
      ⟨some 17, .mov (.t 8), none⟩,
      ⟨some 9, .mov (.t 17), none⟩] (some [0, 1, 2, 3, 8, 9]))
    (.block 2
     (.loop
      (.seq
      (.seq
      (.ops true [
        ⟨some 18, .mov (.t 9), none⟩,
        ⟨some 19, .mov (.t 1), none⟩,
        ⟨some 20, .bin .gtr (.t 18) (.t 19), none⟩,
        ⟨some 21, .mov (.t 20), none⟩,
        ⟨some 22, .mov (.t 3), some (21, true)⟩,
        ⟨some 23, .mov (.t 0), some (21, true)⟩,
        ⟨some 24, .mov (.t 9), some (21, true)⟩,
        ⟨some 25, .idx 1 (.t 23) (.t 24), some (21, true)⟩,
        ⟨some 26, .load 1 false (.t 25) [], some (21, true)⟩,
        ⟨some 27, .mov (.t 0), some (21, true)⟩,
        ⟨some 28, .mov (.t 9), some (21, true)⟩,
        ⟨some 29, .bin .sub (.t 28) (.k (.int 1)), some (21, true)⟩,
        ⟨some 30, .idx 1 (.t 27) (.t 29), some (21, true)⟩,
        ⟨some 31, .load 1 false (.t 30) [], some (21, true)⟩,
        ⟨some 32, .callv (.t 22) [.t 26, .t 31], some (21, true)⟩,
        ⟨some 33, .bin .lss (.t 32) (.k (.int 0)), some (21, true)⟩,
        ⟨some 34, .pick (.t 21) (.t 33) (.k (.bool false)), none⟩] (some [0, 1, 2, 3, 8, 9, 34]))
      (.cond (.t 34)
       .skip
       (.exit 2)))
      (.seq
      (.block 3
       (.ops true [
         ⟨some 37, .mov (.t 0), none⟩,
         ⟨some 38, .mov (.t 9), none⟩,
         ⟨some 39, .mov (.t 0), none⟩,
         ⟨some 40, .mov (.t 9), none⟩,
         ⟨some 41, .bin .sub (.t 40) (.k (.int 1)), none⟩,
         ⟨some 42, .mov (.t 0), none⟩,
         ⟨some 43, .mov (.t 9), none⟩,
         ⟨some 44, .bin .sub (.t 43) (.k (.int 1)), none⟩,
         ⟨some 45, .idx 1 (.t 42) (.t 44), none⟩,
         ⟨some 46, .load 1 false (.t 45) [], none⟩,
         ⟨some 47, .mov (.t 0), none⟩,
         ⟨some 48, .mov (.t 9), none⟩,
         ⟨some 49, .idx 1 (.t 47) (.t 48), none⟩,
         ⟨some 50, .load 1 false (.t 49) [], none⟩,
         ⟨some 51, .idx 1 (.t 37) (.t 38), none⟩,
         ⟨none, .store 1 (.t 51) (.t 46) none, none⟩,
         ⟨some 52, .idx 1 (.t 39) (.t 41), none⟩,
         ⟨none, .store 1 (.t 52) (.t 50) none, none⟩] (some [0, 1, 2, 3, 8, 9])))
      (.ops false [
        ⟨some 35, .mov (.t 9), none⟩,
        ⟨some 36, .bin .sub (.t 35) (.k (.int 1)), none⟩,
        ⟨some 9, .mov (.t 36), none⟩] (some [0, 1, 2, 3, 8, 9]))))))))
   (.ops false [
     ⟨some 15, .mov (.t 8), none⟩,
     ⟨some 16, .bin .add (.t 15) (.k (.int 1)), none⟩,
     ⟨some 8, .mov (.t 16), none⟩] (some [0, 1, 2, 3, 8])))))))

theorem m100 : fmatch Try.prog Try.f100 4 [] v100 = true := by kernel_rfl

/-- cmp.isNaN[int] -/
def v102 : VC :=
 (.seq
 (.ops false [
   ⟨some 2, .mov (.k (.bool false)), none⟩] (some [0]))
 (.seq
 (.ops false [
   ⟨some 3, .mov (.t 0), none⟩,
   ⟨some 4, .mov (.t 0), none⟩,
   ⟨some 5, .bin .neq (.t 3) (.t 4), none⟩,
   ⟨some 2, .mov (.t 5), none⟩] (some [2]))
 .ret))

theorem m102 : fmatch Try.prog Try.f102 1 [.tmp 2] v102 = true := by kernel_rfl

end Go.Proofs.Ytmcfibpeenhcnaa


/- The two types of maps. -/
set_option linter.unusedSimpArgs false
set_option linter.unusedVariables false
set_option linter.unnecessarySimpa false
namespace Go.Proofs.Ytmcfibpeenhcnaa
open Go Go.V Go.WideShapes

theorem hmix : Try.prog.follows .mixedOrders = true := by kernel_rfl

theorem bid_nilp : AV.bid .nilp = [] := rfl
theorem strip_nilp {hp : HpL} : strip hp .nilp = .nilp := rfl
theorem isUnd_nilp : AV.isUnd .nilp = false := rfl
theorem bid_mpr {l : Nat} : AV.bid (.mpr l) = [] := rfl
theorem strip_mpr {hp : HpL} {l : Nat} : strip hp (.mpr l) = .mpr l := rfl
theorem isUnd_mpr {l : Nat} : AV.isUnd (.mpr l) = false := rfl
attribute [go_sem] bid_nilp strip_nilp isUnd_nilp bid_mpr strip_mpr isUnd_mpr

/-- A type whose cells are all integers. -/
def intT (P : Program) : Nat → TypeId → Bool
  | 0, _ => false
  | d + 1, t => match P.underlying t with
    | some (.int q) => q == .i64 && P.cellsOf t == 1
    | some (.array n e) => P.cellsOf t == n * P.cellsOf e && intT P d e
    | some (.struct fs) => fs.toList.all fun f => f.name != "_" && decide (f.offset + P.cellsOf f.type ≤ P.cellsOf t) && intT P d f.type
    | _ => false

theorem mapM_some {α β : Type} {f : α → Option β} : ∀ {l : List α}, (∀ x ∈ l, ∃ y, f x = some y) → ∃ ys, l.mapM f = some ys
  | [], _ => ⟨[], by simp⟩
  | x :: r, h => by
    obtain ⟨y, hy⟩ := h x (by simp)
    obtain ⟨ys, hys⟩ := mapM_some (l := r) fun z hz => h z (by simp [hz])
    exact ⟨y :: ys, by simp [List.mapM_cons, hy, hys]⟩

theorem keyLits_ints {P : Program} : ∀ (d : Nat) (t : TypeId) (cs : List Value), intT P d t = true → cs.length = P.cellsOf t → (∀ v ∈ cs, ∃ n, v = .int .i64 n ∧ inR n) → ∃ ls, P.keyLits d t cs = some ls
  | 0, _, _, h, _, _ => by simp [intT] at h
  | d + 1, t, cs, h, hl, hv => by
    unfold intT at h
    unfold Program.keyLits
    cases hu : P.underlying t with
    | none => simp [hu] at h
    | some k =>
      cases k <;> simp only [hu, Bool.false_eq_true] at h
      case int q =>
        simp only [Bool.and_eq_true, beq_iff_eq] at h
        obtain ⟨rfl, hc⟩ := h
        rw [hc] at hl
        match cs, hl with
        | [v], _ =>
          obtain ⟨n, rfl, hn⟩ := hv v (by simp)
          refine ⟨[.int .i64 n], ?_⟩
          have : (Lit.int .i64 n).wf = true := by
            unfold inR at hn
            simp only [Lit.wf, Bool.and_eq_true, decide_eq_true_eq]
            exact hn
          simp [this]
      case array n e =>
        simp only [Bool.and_eq_true, beq_iff_eq] at h
        obtain ⟨hc, he⟩ := h
        obtain ⟨ys, hys⟩ := mapM_some (f := fun i => P.keyLits d e ((cs.drop (i * P.cellsOf e)).take (P.cellsOf e))) (l := List.range n) fun i hi => by
          have hi := List.mem_range.1 hi
          refine keyLits_ints d e _ he ?_ fun v hv' => hv v (List.mem_of_mem_drop (List.mem_of_mem_take hv'))
          have h1 : i * P.cellsOf e + P.cellsOf e ≤ n * P.cellsOf e := by
            rw [← Nat.succ_mul]
            exact Nat.mul_le_mul_right _ hi
          rw [List.length_take, List.length_drop, hl, hc]
          omega
        refine ⟨ys.flatten, ?_⟩
        simp [hl, hys]
      case struct fs =>
        obtain ⟨ys, hys⟩ := mapM_some (f := fun f : Field => P.keyLits d f.type ((cs.drop f.offset).take (P.cellsOf f.type))) (l := fs.toList) fun f hf => by
          have h1 := List.all_eq_true.1 h f hf
          simp only [Bool.and_eq_true, decide_eq_true_eq] at h1
          obtain ⟨⟨_, h2⟩, h3⟩ := h1
          refine keyLits_ints d f.type _ h3 ?_ fun v hv' => hv v (List.mem_of_mem_drop (List.mem_of_mem_take hv'))
          rw [List.length_take, List.length_drop, hl]
          omega
        have hn : ∀ x ∈ fs, ¬ x.name = "_" := by
          intro x hx
          have h1 := List.all_eq_true.1 h x (by simpa using hx)
          simp only [Bool.and_eq_true, bne_iff_ne] at h1
          exact h1.1.1
        refine ⟨ys.flatten, ?_⟩
        simp [hl, hys]
        exact fun i hi => hn _ (Array.getElem_mem hi)

theorem mkey {P : Program} {t k : TypeId} {n : Nat} (h1 : P.underlying t = some (.map k 3)) (h2 : laidOutB P = true) (h3 : k < P.types.size) (h4 : P.keyTypeAt 5 k = true)
    (h5 : (match P.underlying k with | some (.array _ _) | some (.struct _) => true | _ => false) = true) (h6 : intT P (P.types.size + 1) k = true) (h7 : P.keyType k = true) (h8 : P.cellsOf k = n)
    (h9 : ∀ w, (zeroValue 3).run P w = .ok (.int .i64 0) w) : MKey P t n := by
  refine ⟨k, 3, h1, Maps.Keyed.of_law (deep_law_laid h2 (m := 5) (by omega) h3 h4 h5), fun xs hx hr => ?_, h9⟩
  have hf : (kval xs).formed P k = true := by
    unfold kval Value.formed
    split at h5
    · next h => simp only [h]; simp [hx, h8]
    · next h => simp only [h]; simp [hx, h8]
    · cases h5
  obtain ⟨ls, hls⟩ := keyLits_ints (P := P) (P.types.size + 1) k (kval xs).cells.toList h6 (by simp [kval, Value.cells, hx, h8]) (fun v hv => by
    simp only [kval, Value.cells, List.toList_toArray, List.mem_map] at hv
    obtain ⟨x, hx, rfl⟩ := hv
    exact ⟨x, rfl, hr x hx⟩)
  have h10 : (P.keyType k && (kval xs).formed P k) = true := by rw [h7, hf]; rfl
  unfold keyOf
  split at h5
  · next h => rw [h]; simp only; rw [if_pos h10, hls]; exact ⟨_, rfl⟩
  · next h => rw [h]; simp only; rw [if_pos h10, hls]; exact ⟨_, rfl⟩
  · cases h5

theorem zero_of {P : Program} {t : TypeId} {z : Value} (h : ((P.info? t).bind fun i => i.zero) = some z) (w : World) : (zeroValue t).run P w = .ok z w := by
  cases hi : P.info? t with
  | none => rw [hi] at h; cases h
  | some i =>
    rw [hi] at h
    have hz : i.zero = some z := h
    have h1 : (typeInfo t).run P w = .ok i w := run_typeInfo (w := w) hi
    simp [zeroValue, h1, hz]

theorem zero3 (w : World) : (zeroValue 3).run Try.prog w = .ok (.int .i64 0) w := zero_of (by kernel_rfl) w

theorem mk113 : MKey Try.prog 113 4 := mkey Try.underlying113 (by kernel_rfl) (of_decide_eq_true (by kernel_rfl)) (by kernel_rfl) (by kernel_rfl) (by kernel_rfl) (by kernel_rfl) (by kernel_rfl) zero3
theorem mk119 : MKey Try.prog 119 5 := mkey Try.underlying119 (by kernel_rfl) (of_decide_eq_true (by kernel_rfl)) (by kernel_rfl) (by kernel_rfl) (by kernel_rfl) (by kernel_rfl) (by kernel_rfl) zero3

end Go.Proofs.Ytmcfibpeenhcnaa


/- Books; contracts of small functions. -/
set_option linter.unusedSimpArgs false
set_option linter.unusedVariables false
set_option linter.unnecessarySimpa false
namespace Go.Proofs.Ytmcfibpeenhcnaa
open Go Go.V

structure Sy where
  d : Int
  p : Int
  lo : Int
  hi : Int
  deriving Inhabited, DecidableEq

structure Bk where
  depth : Int
  found : List Int
  dow : Int
  say : List Sy
  pence : Int

abbrev IS (l : List Int) : AV := .sl 1 (l.map .int) .sh
abbrev SY (s : Sy) : AV := .agg [.int s.d, .int s.p, .int s.lo, .int s.hi]
abbrev SL (l : List Sy) : AV := .sl 4 (l.map SY) .sh
abbrev DB (b : Bk) : AV := .agg [.int b.depth, IS b.found, .int b.dow, SL b.say, .int b.pence]
/-- A book at work. -/
abbrev OB (b : Bk) : AV := .ref 5 [DB b] 0 0

def within (n lo hi : Int) : Bool := decide (lo ≤ n ∧ n ≤ hi)
theorem within_iff {n lo hi : Int} : within n lo hi = true ↔ lo ≤ n ∧ n ≤ hi := by simp [within]

theorem c80 (n lo hi : Int) : Ctr Try.prog 80 [.int n, .int lo, .int hi] (.bool (within n lo hi)) := by
  refine ctr_of_wp hmix Try.func80 m80 rfl ?_
  unfold v80
  simp -failIfUnchanged (disch := first | omega | (simp <;> omega) | fail) only [go_sem, simprocAttr]
  refine WGd_bool (fun h => ?_) (fun h => ?_)
  · simp -failIfUnchanged (disch := first | omega | (simp <;> omega) | fail) only [go_sem, simprocAttr, h]
    simp only [decide_eq_true_eq] at h
    simp [within, h]
  · simp -failIfUnchanged (disch := first | omega | (simp <;> omega) | fail) only [go_sem, simprocAttr, h]
    simp only [Bool.not_true, decide_eq_false_iff_not] at h
    simp [within, h]

theorem c20 (n lo hi : Int) : Ctr Try.prog 20 [.int n, .int lo, .int hi] (.bool (within n lo hi)) := by
  refine ctr_of_wp hmix Try.func20 m20 rfl ?_
  unfold v20
  simp -failIfUnchanged (disch := first | omega | (simp <;> omega) | fail) only [go_sem, simprocAttr]
  refine WGd_bool (fun h => ?_) (fun h => ?_)
  · simp -failIfUnchanged (disch := first | omega | (simp <;> omega) | fail) only [go_sem, simprocAttr, h]
    simp only [decide_eq_true_eq] at h
    simp [within, h]
  · simp -failIfUnchanged (disch := first | omega | (simp <;> omega) | fail) only [go_sem, simprocAttr, h]
    simp only [Bool.not_true, decide_eq_false_iff_not] at h
    simp [within, h]

theorem c64 (n lo hi : Int) : Ctr Try.prog 64 [.int n, .int lo, .int hi] (.bool (within n lo hi)) := by
  refine ctr_of_wp hmix Try.func64 m64 rfl ?_
  unfold v64
  simp -failIfUnchanged (disch := first | omega | (simp <;> omega) | fail) only [go_sem, simprocAttr]
  refine wcall (c20 _ _ _) ?_
  simp -failIfUnchanged (disch := first | omega | (simp <;> omega) | fail) only [go_sem, simprocAttr]

theorem c67 (b : Bk) (n : Int) : Ctr Try.prog 67 [DB b, .int n] (.bool (within n 0 (w64 (b.dow - 1)))) := by
  refine ctr_of_wp hmix Try.func67 m67 rfl ?_
  unfold v67
  simp -failIfUnchanged (disch := first | omega | (simp <;> omega) | fail) only [go_sem, simprocAttr]
  refine wcall (c80 _ _ _) ?_
  simp -failIfUnchanged (disch := first | omega | (simp <;> omega) | fail) only [go_sem, simprocAttr]

theorem c16 (b : Bk) (n : Int) : Ctr Try.prog 16 [DB b, .int n] (.bool (within n 0 (w64 (b.dow - 1)))) := by
  refine ctr_of_wp hmix Try.func16 m16 rfl ?_
  unfold v16
  simp -failIfUnchanged (disch := first | omega | (simp <;> omega) | fail) only [go_sem, simprocAttr]
  refine wcall (c64 _ _ _) ?_
  simp -failIfUnchanged (disch := first | omega | (simp <;> omega) | fail) only [go_sem, simprocAttr]

theorem c56 (b : Bk) (n : Int) : Ctr Try.prog 56 [DB b, .int n] (.bool (within n 0 (w64 ((b.found.length : Int) - 1)))) := by
  refine ctr_of_wp hmix Try.func56 m56 rfl ?_
  unfold v56
  simp -failIfUnchanged (disch := first | omega | (simp <;> omega) | fail) only [go_sem, simprocAttr]
  refine wcall (c64 _ _ _) ?_
  simp -failIfUnchanged (disch := first | omega | (simp <;> omega) | fail) only [go_sem, simprocAttr]

theorem c47 (b : Bk) (n : Int) : Ctr Try.prog 47 [DB b, .int n] (.bool (within n 0 (w64 ((b.say.length : Int) - 1)))) := by
  refine ctr_of_wp hmix Try.func47 m47 rfl ?_
  unfold v47
  simp -failIfUnchanged (disch := first | omega | (simp <;> omega) | fail) only [go_sem, simprocAttr]
  refine wcall (c64 _ _ _) ?_
  simp -failIfUnchanged (disch := first | omega | (simp <;> omega) | fail) only [go_sem, simprocAttr]

/-- The width of a saying, as the machine has it. -/
def wid (s : Sy) : Int := w64 (w64 (s.hi - s.lo) + 1)

theorem c94 (s : Sy) : Ctr Try.prog 94 [SY s] (.int (wid s)) := by
  refine ctr_of_wp hmix Try.func94 m94 rfl ?_
  unfold v94
  simp -failIfUnchanged (disch := first | omega | (simp <;> omega) | fail) only [go_sem, simprocAttr]
  rfl

theorem c51 (s : Sy) : Ctr Try.prog 51 [SY s] (.int (wid s)) := by
  refine ctr_of_wp hmix Try.func51 m51 rfl ?_
  unfold v51
  simp -failIfUnchanged (disch := first | omega | (simp <;> omega) | fail) only [go_sem, simprocAttr]
  rfl

theorem c84 (b : Bk) (s : Sy) (h0 : 0 ≤ s.p) (h1 : s.p < b.found.length) : Ctr Try.prog 84 [OB b, SY s] (.bool (decide (b.found[s.p.toNat]?.getD default = 0))) := by
  refine ctr_of_wp hmix Try.func84 m84 rfl ?_
  unfold v84
  obtain ⟨k, hk⟩ : ∃ k : Nat, s.p = k := ⟨s.p.toNat, by omega⟩
  rw [hk] at h1 ⊢
  simp -failIfUnchanged (disch := first | omega | (simp <;> omega) | fail) only [go_sem, simprocAttr, hk]

end Go.Proofs.Ytmcfibpeenhcnaa


/- Comparing sayings. -/
set_option linter.unusedSimpArgs false
set_option linter.unusedVariables false
set_option linter.unnecessarySimpa false
namespace Go.Proofs.Ytmcfibpeenhcnaa
open Go Go.V

def cmpI (a b : Int) : Int := if a < b then -1 else if b < a then 1 else 0
/-- A saying comes before another one. -/
def bef (a b : Sy) : Bool := decide (a.d < b.d ∨ (a.d = b.d ∧ a.p < b.p))

theorem c102 (n : Int) : Ctr Try.prog 102 [.int n] (.bool false) := by
  refine ctr_of_wp hmix Try.func102 m102 rfl ?_
  unfold v102
  simp -failIfUnchanged (disch := first | omega | (simp <;> omega) | fail) only [go_sem, simprocAttr]
  try simp

theorem c98 (a b : Int) : Ctr Try.prog 98 [.int a, .int b] (.int (cmpI a b)) := by
  refine ctr_of_wp hmix Try.func98 m98 rfl ?_
  unfold v98 cmpI
  simp -failIfUnchanged (disch := first | omega | (simp <;> omega) | fail) only [go_sem, simprocAttr]
  refine wcall (c102 a) ?_
  simp -failIfUnchanged (disch := first | omega | (simp <;> omega) | fail) only [go_sem, simprocAttr]
  refine wcall (c102 b) ?_
  simp -failIfUnchanged (disch := first | omega | (simp <;> omega) | fail) only [go_sem, simprocAttr]
  refine wcond_dec (fun h => ?_) (fun h => ?_)
  · simp -failIfUnchanged (disch := first | omega | (simp <;> omega) | fail) only [go_sem, simprocAttr, h]
  · simp -failIfUnchanged (disch := first | omega | (simp <;> omega) | fail) only [go_sem, simprocAttr, h]
    refine wcond_dec (fun h2 => ?_) (fun h2 => ?_)
    · simp -failIfUnchanged (disch := first | omega | (simp <;> omega) | fail) only [go_sem, simprocAttr, h, h2]
    · simp -failIfUnchanged (disch := first | omega | (simp <;> omega) | fail) only [go_sem, simprocAttr, h, h2]

/-- The first one that is not 0. -/
def orF (l : List Int) : Int := (l.find? fun x => x != 0).getD 0

theorem orF_hit {l : List Int} {i : Nat} (hi : i < l.length) (h : ∀ j, j < i → l[j]?.getD default = 0) (hx : l[i]?.getD default ≠ 0) : orF l = l[i]?.getD default := by
  have e : l[i]?.getD default = l[i] := by simp [hi]
  rw [e] at hx ⊢
  have : l.find? (fun x => x != 0) = some l[i] := by
    rw [List.find?_eq_some_iff_getElem]
    refine ⟨by simpa using hx, i, hi, rfl, fun j hj => ?_⟩
    have := h j hj
    simpa [Nat.lt_trans hj hi] using this
  unfold orF
  rw [this]
  rfl
theorem orF_none {l : List Int} (h : ∀ j, j < l.length → l[j]?.getD default = 0) : orF l = 0 := by
  have : l.find? (fun x => x != 0) = none := by
    rw [List.find?_eq_none]
    intro x hx
    obtain ⟨j, hj, rfl⟩ := List.getElem_of_mem hx
    have := h j hj
    simpa [hj] using this
  unfold orF
  rw [this]
  rfl

theorem c97 (l : List Int) (hl : l.length < 1000000) : Ctr Try.prog 97 [IS l] (.int (orF l)) := by
  refine ctr_of_wp hmix Try.func97 m97 rfl ?_
  unfold v97
  simp -failIfUnchanged (disch := first | omega | (simp <;> omega) | fail) only [go_sem, simprocAttr]
  refine wp_loop' Nat (fun i => ⟨[(3, .int 0), (6, IS l), (7, .int l.length), (8, .int i)], [], [], none⟩) (fun i => i ≤ l.length ∧ ∀ j, j < i → l[j]?.getD default = 0) (fun i => l.length - i) 0 (by simp) (by simp -failIfUnchanged (disch := first | omega | (simp <;> omega) | fail) only [go_sem, simprocAttr]; try simp) ?_
  rintro i ⟨h1, h2⟩
  simp -failIfUnchanged (disch := first | omega | (simp <;> omega) | fail) only [go_sem, simprocAttr]
  refine wcond_dec (fun h => ?_) (fun h => ?_)
  · have hlt : i < l.length := by omega
    simp -failIfUnchanged (disch := first | omega | (simp <;> omega) | fail) only [go_sem, simprocAttr]
    refine wcond_dec (fun hx => ?_) (fun hx => ?_)
    · rw [orF_hit hlt h2 hx]
      simp -failIfUnchanged (disch := first | omega | (simp <;> omega) | fail) only [go_sem, simprocAttr]
    · have hx' : l[i]?.getD default = 0 := by simpa using hx
      simp -failIfUnchanged (disch := first | omega | (simp <;> omega) | fail) only [go_sem, simprocAttr]
      refine ⟨i + 1, ⟨by omega, fun j hj => ?_⟩, by dsimp only; omega, ?_⟩
      · rcases Nat.lt_or_ge j i with h3 | h3
        · exact h2 j h3
        · obtain rfl : j = i := by omega
          exact hx'
      · simp -failIfUnchanged (disch := first | omega | (simp <;> omega) | fail) only [go_sem, simprocAttr]
        try simp
  · have e : i = l.length := by omega
    subst e
    rw [orF_none h2]
    simp -failIfUnchanged (disch := first | omega | (simp <;> omega) | fail) only [go_sem, simprocAttr]

theorem c86 (a b : Sy) : Ctr Try.prog 86 [SY a, SY b] (.int (orF [cmpI a.d b.d, cmpI a.p b.p])) := by
  refine ctr_of_wp hmix Try.func86 m86 rfl ?_
  unfold v86
  simp -failIfUnchanged (disch := first | omega | (simp <;> omega) | fail) only [go_sem, simprocAttr]
  refine wcall (c98 _ _) ?_
  simp -failIfUnchanged (disch := first | omega | (simp <;> omega) | fail) only [go_sem, simprocAttr]
  refine wcall (c98 _ _) ?_
  simp -failIfUnchanged (disch := first | omega | (simp <;> omega) | fail) only [go_sem, simprocAttr]
  refine wcall (c97 [cmpI a.d b.d, cmpI a.p b.p] (by simp)) ?_
  simp -failIfUnchanged (disch := first | omega | (simp <;> omega) | fail) only [go_sem, simprocAttr]

theorem cmp_bef (a b : Sy) : decide (0 ≤ orF [cmpI a.d b.d, cmpI a.p b.p]) = !bef a b := by
  have e : orF [cmpI a.d b.d, cmpI a.p b.p] = if cmpI a.d b.d = 0 then cmpI a.p b.p else cmpI a.d b.d := by
    unfold orF
    by_cases h1 : cmpI a.d b.d = 0
    · by_cases h2 : cmpI a.p b.p = 0
      · simp [h1, h2]
      · simp [h1, h2]
    · simp [h1]
  rw [e]
  unfold cmpI bef
  by_cases h : a.d < b.d ∨ (a.d = b.d ∧ a.p < b.p)
  · rw [decide_eq_true h]
    apply decide_eq_false
    repeat' split
    all_goals omega
  · rw [decide_eq_false h]
    apply decide_eq_true
    repeat' split
    all_goals omega

theorem c74 (a b : Sy) : Ctr Try.prog 74 [SY a, SY b] (.bool (bef a b)) := by
  refine ctr_of_wp hmix Try.func74 m74 rfl ?_
  unfold v74 bef
  simp -failIfUnchanged (disch := first | omega | (simp <;> omega) | fail) only [go_sem, simprocAttr]
  refine WGd_bool (fun h => ?_) (fun h => ?_)
  · have h' : ¬ a.d < b.d := by simpa using h
    simp -failIfUnchanged (disch := first | omega | (simp <;> omega) | fail) only [go_sem, simprocAttr, h]
    refine WGd_bool (fun h2 => ?_) (fun h2 => ?_)
    · have h2' : a.d = b.d := by simpa using h2
      simp -failIfUnchanged (disch := first | omega | (simp <;> omega) | fail) only [go_sem, simprocAttr, h2]
      simp [h2']
    · have h2' : ¬ a.d = b.d := by simpa using h2
      simp -failIfUnchanged (disch := first | omega | (simp <;> omega) | fail) only [go_sem, simprocAttr, h2]
      simp [h', h2']
  · have h' : a.d < b.d := by simpa using h
    simp -failIfUnchanged (disch := first | omega | (simp <;> omega) | fail) only [go_sem, simprocAttr, h]
    simp [h']

end Go.Proofs.Ytmcfibpeenhcnaa

