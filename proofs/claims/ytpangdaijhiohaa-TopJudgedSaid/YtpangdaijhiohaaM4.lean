/- Merged by program: Code, CodeG, T101, T102, T103, T104, T105, T106, T107, T108, T109, T110, T111, T112, T113, T114. -/
import Derived.Test.YtpangdaijhiohaaM3
import Derived.Test.YtpangdaijhiohaaProg
import Derived.ProofKit
import Derived.DeepKeys4
/- The compact code of the functions, and that it is theirs. -/
namespace Go.Proofs.Ytpangdaijhiohaa
open Go Go.V
set_option maxRecDepth 100000

/-- steening/steeningtop.TopJudged -/
def v3 : VC :=
 (.seq
 (.ops false [
   ⟨some 2, .box 2 3 (.t 0), none⟩,
   ⟨some 3, .box 3 4 (.t 1), none⟩,
   ⟨some 4, .mov (.k (.bool false)), none⟩] (some [2, 3]))
 (.seq
 (.seq
 (.ops false [
   ⟨some 30, .load 3 true (.t 2) [], none⟩,
   ⟨some 31, .call 4 [.t 30], none⟩,
   ⟨some 32, .mov (.t 31), none⟩,
   ⟨some 33, .load 3 true (.t 2) [], some (32, false)⟩,
   ⟨some 34, .call 5 [.t 33], some (32, false)⟩,
   ⟨some 35, .bin .neq (.t 34) (.k (.int 0)), some (32, false)⟩,
   ⟨some 36, .pick (.t 32) (.k (.bool true)) (.t 35), none⟩,
   ⟨some 37, .mov (.t 36), none⟩,
   ⟨some 38, .fld 0 (.t 3), some (37, false)⟩,
   ⟨some 39, .load 1 false (.t 38) [], some (37, false)⟩,
   ⟨some 40, .len (.t 39), some (37, false)⟩,
   ⟨some 41, .bin .gtr (.t 40) (.k (.int 40)), some (37, false)⟩,
   ⟨some 42, .pick (.t 37) (.k (.bool true)) (.t 41), none⟩,
   ⟨some 43, .mov (.t 42), none⟩,
   ⟨some 44, .load 3 true (.t 2) [], some (43, false)⟩,
   ⟨some 45, .fld 0 (.t 3), some (43, false)⟩,
   ⟨some 46, .load 1 false (.t 45) [], some (43, false)⟩,
   ⟨some 47, .call 6 [.t 44, .t 46], some (43, false)⟩,
   ⟨some 48, .not (.t 47), some (43, false)⟩,
   ⟨some 49, .pick (.t 43) (.k (.bool true)) (.t 48), none⟩] (some [2, 3, 49]))
 (.cond (.t 49)
  (.seq
  (.ops false [
    ⟨some 50, .call 7 [], none⟩,
    ⟨some 4, .mov (.t 50), none⟩] (some [4]))
  .ret)
  .skip))
 (.seq
 (.ops false [
   ⟨some 51, .load 3 true (.t 2) [], none⟩,
   ⟨some 52, .fld 1 (.t 3), none⟩,
   ⟨some 53, .load 3 true (.t 52) [], none⟩,
   ⟨some 54, .call 8 [.t 51, .t 53], none⟩,
   ⟨some 5, .alloc 5 [.int 0, .sl 3 [] .full, .sl 4 [] .full], none⟩,
   ⟨none, .store 3 (.t 5) (.t 54) (some 5), none⟩] (some [2, 3, 5]))
 (.seq
 (.seq
 (.ops false [
   ⟨some 55, .load 3 true (.t 5) [], none⟩,
   ⟨some 56, .call 4 [.t 55], none⟩,
   ⟨some 57, .mov (.t 56), none⟩,
   ⟨some 58, .load 3 true (.t 5) [], some (57, false)⟩,
   ⟨some 59, .call 5 [.t 58], some (57, false)⟩,
   ⟨some 60, .bin .neq (.t 59) (.k (.int 0)), some (57, false)⟩,
   ⟨some 61, .pick (.t 57) (.k (.bool true)) (.t 60), none⟩,
   ⟨some 62, .mov (.t 61), none⟩,
   ⟨some 63, .load 3 true (.t 5) [], some (62, false)⟩,
   ⟨some 64, .fld 0 (.t 3), some (62, false)⟩,
   ⟨some 65, .load 1 false (.t 64) [], some (62, false)⟩,
   ⟨some 66, .call 6 [.t 63, .t 65], some (62, false)⟩,
   ⟨some 67, .not (.t 66), some (62, false)⟩,
   ⟨some 68, .pick (.t 62) (.k (.bool true)) (.t 67), none⟩] (some [2, 3, 5, 68]))
 (.cond (.t 68)
  (.seq
  (.ops false [
    ⟨some 69, .call 7 [], none⟩,
    ⟨some 4, .mov (.t 69), none⟩] (some [4]))
  .ret)
  .skip))
 (.seq
 (.ops false [
   ⟨some 71, .load 3 true (.t 2) [], none⟩,
   ⟨some 72, .call 9 [.t 71, .k (.int 0)], none⟩,
   ⟨some 70, .mov (.t 72), none⟩,
   ⟨some 73, .ext (.t 70) 0, none⟩,
   ⟨some 74, .ext (.t 70) 1, none⟩,
   ⟨some 6, .mov (.t 73), none⟩,
   ⟨some 7, .mov (.t 74), none⟩] (some [2, 3, 5, 6, 7]))
 (.seq
 (.ops false [
   ⟨some 76, .load 3 true (.t 5) [], none⟩,
   ⟨some 77, .call 9 [.t 76, .k (.int 1)], none⟩,
   ⟨some 75, .mov (.t 77), none⟩,
   ⟨some 78, .ext (.t 75) 0, none⟩,
   ⟨some 79, .ext (.t 75) 1, none⟩,
   ⟨some 8, .mov (.t 78), none⟩,
   ⟨some 9, .mov (.t 79), none⟩] (some [2, 3, 6, 7, 8, 9]))
 (.seq
 (.seq
 (.ops false [
   ⟨some 80, .mov (.t 7), none⟩,
   ⟨some 81, .not (.t 80), none⟩,
   ⟨some 82, .mov (.t 81), none⟩,
   ⟨some 83, .mov (.t 9), some (82, false)⟩,
   ⟨some 84, .not (.t 83), some (82, false)⟩,
   ⟨some 85, .pick (.t 82) (.k (.bool true)) (.t 84), none⟩] (some [2, 3, 6, 8, 85]))
 (.cond (.t 85)
  (.seq
  (.ops false [
    ⟨some 4, .mov (.k (.bool false)), none⟩] (some [4]))
  .ret)
  .skip))
 (.seq
 (.ops false [
   ⟨some 86, .bslice 1 [], none⟩,
   ⟨some 87, .fld 0 (.t 3), none⟩,
   ⟨some 88, .load 1 false (.t 87) [], none⟩,
   ⟨some 89, .app 89 1 8 (.t 86) (.t 88), none⟩,
   ⟨some 90, .mov (.t 6), none⟩,
   ⟨some 91, .mov (.t 8), none⟩,
   ⟨some 92, .app 92 4 32 (.t 90) (.t 91), none⟩,
   ⟨some 93, .build [.int 0, .sl 1 [] .sh, .int 0, .sl 4 [] .sh, .int 0] [(0, 1, .k (.int 12)), (1, 1, .t 89), (2, 1, .k (.int 2)), (3, 1, .t 92)], none⟩,
   ⟨some 10, .alloc 10 [.int 0, .sl 1 [] .full, .int 0, .sl 4 [] .full, .int 0], none⟩,
   ⟨none, .store 5 (.t 10) (.t 93) (some 10), none⟩] (some [2, 6, 10]))
 (.seq
 (.seq
 (.ops false [
   ⟨some 94, .load 5 true (.t 10) [], none⟩,
   ⟨some 95, .call 10 [.t 94], none⟩,
   ⟨some 96, .bin .neq (.t 95) (.k (.int 0)), none⟩] (some [2, 6, 10, 96]))
 (.cond (.t 96)
  (.seq
  (.ops false [
    ⟨some 97, .call 7 [], none⟩,
    ⟨some 4, .mov (.t 97), none⟩] (some [4]))
  .ret)
  .skip))
 (.seq
 (.ops false [
   ⟨some 11, .mov (.k (.int 0)), none⟩,
   ⟨some 12, .mov (.k (.int 1)), none⟩,
   ⟨some 13, .mov (.k (.int 1)), none⟩] (some [2, 6, 10, 11, 12, 13]))
 (.seq
 (.seq
 (.ops false [
   ⟨some 14, .mov (.k (.int 0)), none⟩] (some [2, 6, 10, 11, 12, 13, 14]))
 (.block 0
  (.loop
   (.seq
   (.seq
   (.ops false [
     ⟨some 98, .mov (.t 14), none⟩,
     ⟨some 99, .fld 0 (.t 2), none⟩,
     ⟨some 100, .load 1 false (.t 99) [], none⟩,
     ⟨some 101, .bin .lss (.t 98) (.t 100), none⟩] (some [2, 6, 10, 11, 12, 13, 14, 101]))
   (.cond (.t 101)
    .skip
    (.exit 0)))
   (.seq
   (.block 1
    (.seq
    (.ops false [
      ⟨some 105, .load 5 true (.t 10) [], none⟩,
      ⟨some 106, .mov (.t 14), none⟩,
      ⟨some 107, .call 11 [.t 105, .t 106], none⟩,
      ⟨some 104, .mov (.t 107), none⟩,
      ⟨some 108, .ext (.t 104) 0, none⟩,
      ⟨some 109, .ext (.t 104) 1, none⟩,
      ⟨some 15, .mov (.t 108), none⟩,
      ⟨some 16, .mov (.t 109), none⟩] (some [2, 6, 10, 11, 12, 13, 14, 15, 16]))
    (.seq
    (.ops false [
      ⟨some 111, .load 5 true (.t 10) [], none⟩,
      ⟨some 112, .fld 0 (.t 2), none⟩,
      ⟨some 113, .load 1 false (.t 112) [], none⟩,
      ⟨some 114, .mov (.t 14), none⟩,
      ⟨some 115, .bin .add (.t 113) (.t 114), none⟩,
      ⟨some 116, .call 11 [.t 111, .t 115], none⟩,
      ⟨some 110, .mov (.t 116), none⟩,
      ⟨some 117, .ext (.t 110) 0, none⟩,
      ⟨some 118, .ext (.t 110) 1, none⟩,
      ⟨some 17, .mov (.t 117), none⟩,
      ⟨some 18, .mov (.t 118), none⟩] (some [2, 6, 10, 11, 12, 13, 14, 15, 16, 17, 18]))
    (.seq
    (.seq
    (.ops false [
      ⟨some 119, .mov (.t 16), none⟩,
      ⟨some 120, .bin .neq (.t 119) (.k (.int 0)), none⟩,
      ⟨some 121, .mov (.t 120), none⟩,
      ⟨some 122, .mov (.t 18), some (121, false)⟩,
      ⟨some 123, .bin .neq (.t 122) (.k (.int 0)), some (121, false)⟩,
      ⟨some 124, .pick (.t 121) (.k (.bool true)) (.t 123), none⟩,
      ⟨some 125, .mov (.t 124), none⟩,
      ⟨some 126, .mov (.t 15), some (125, false)⟩,
      ⟨some 127, .bin .neq (.t 126) (.k (.int 1)), some (125, false)⟩,
      ⟨some 128, .pick (.t 125) (.k (.bool true)) (.t 127), none⟩,
      ⟨some 129, .mov (.t 128), none⟩,
      ⟨some 130, .mov (.t 17), some (129, false)⟩,
      ⟨some 131, .bin .neq (.t 130) (.k (.int 1)), some (129, false)⟩,
      ⟨some 132, .pick (.t 129) (.k (.bool true)) (.t 131), none⟩] (some [2, 6, 10, 11, 12, 13, 14, 132]))
    (.cond (.t 132)
     (.seq
     (.ops false [
       ⟨some 4, .mov (.k (.bool false)), none⟩] (some [4]))
     .ret)
     .skip))
    (.seq
    (.ops false [
      ⟨some 133, .mov (.t 6), none⟩,
      ⟨some 134, .mov (.t 14), none⟩,
      ⟨some 135, .idx 4 (.t 133) (.t 134), none⟩,
      ⟨some 136, .load 4 true (.t 135) [], none⟩,
      ⟨some 137, .call 12 [.t 136], none⟩,
      ⟨some 19, .mov (.t 137), none⟩] (some [2, 6, 10, 11, 12, 13, 14, 19]))
    (.ops true [
      ⟨some 138, .mov (.t 11), none⟩,
      ⟨some 139, .fld 0 (.t 10), none⟩,
      ⟨some 140, .load 1 false (.t 139) [], none⟩,
      ⟨some 141, .bin .add (.t 138) (.t 140), none⟩,
      ⟨some 142, .mov (.t 19), none⟩,
      ⟨some 143, .bin .sub (.t 141) (.t 142), none⟩,
      ⟨some 144, .mov (.t 12), none⟩,
      ⟨some 145, .mov (.t 19), none⟩,
      ⟨some 146, .bin .mul (.t 144) (.t 145), none⟩,
      ⟨some 147, .mov (.t 13), none⟩,
      ⟨some 148, .fld 0 (.t 10), none⟩,
      ⟨some 149, .load 1 false (.t 148) [], none⟩,
      ⟨some 150, .bin .mul (.t 147) (.t 149), none⟩,
      ⟨some 11, .mov (.t 143), none⟩,
      ⟨some 12, .mov (.t 146), none⟩,
      ⟨some 13, .mov (.t 150), none⟩] (some [2, 6, 10, 11, 12, 13, 14])))))))
   (.ops false [
     ⟨some 102, .mov (.t 14), none⟩,
     ⟨some 103, .bin .add (.t 102) (.k (.int 1)), none⟩,
     ⟨some 14, .mov (.t 103), none⟩] (some [2, 6, 10, 11, 12, 13, 14])))))))
 (.seq
 (.ops false [
   ⟨some 152, .load 5 true (.t 10) [], none⟩,
   ⟨some 153, .call 13 [.t 152, .k (.int 0)], none⟩,
   ⟨some 151, .mov (.t 153), none⟩,
   ⟨some 154, .ext (.t 151) 0, none⟩,
   ⟨some 155, .ext (.t 151) 1, none⟩,
   ⟨some 20, .mov (.t 154), none⟩,
   ⟨some 21, .mov (.t 155), none⟩] (some [10, 11, 12, 13, 20, 21]))
 (.seq
 (.ops false [
   ⟨some 157, .load 5 true (.t 10) [], none⟩,
   ⟨some 158, .call 13 [.t 157, .k (.int 1)], none⟩,
   ⟨some 156, .mov (.t 158), none⟩,
   ⟨some 159, .ext (.t 156) 0, none⟩,
   ⟨some 160, .ext (.t 156) 1, none⟩,
   ⟨some 22, .mov (.t 159), none⟩,
   ⟨some 23, .mov (.t 160), none⟩] (some [10, 11, 12, 13, 20, 21, 22, 23]))
 (.seq
 (.ops false [
   ⟨some 162, .load 5 true (.t 10) [], none⟩,
   ⟨some 163, .call 14 [.t 162, .k (.int 0)], none⟩,
   ⟨some 161, .mov (.t 163), none⟩,
   ⟨some 164, .ext (.t 161) 0, none⟩,
   ⟨some 165, .ext (.t 161) 1, none⟩,
   ⟨some 24, .alloc 24 [.int 0, .int 0], none⟩,
   ⟨none, .store 2 (.t 24) (.t 164) (some 24), none⟩,
   ⟨some 25, .mov (.t 165), none⟩] (some [10, 11, 12, 13, 20, 21, 22, 23, 24, 25]))
 (.seq
 (.ops false [
   ⟨some 167, .load 5 true (.t 10) [], none⟩,
   ⟨some 168, .call 14 [.t 167, .k (.int 1)], none⟩,
   ⟨some 166, .mov (.t 168), none⟩,
   ⟨some 169, .ext (.t 166) 0, none⟩,
   ⟨some 170, .ext (.t 166) 1, none⟩,
   ⟨some 26, .alloc 26 [.int 0, .int 0], none⟩,
   ⟨none, .store 2 (.t 26) (.t 169) (some 26), none⟩,
   ⟨some 27, .mov (.t 170), none⟩] (some [10, 11, 12, 13, 20, 21, 22, 23, 24, 25, 26, 27]))
 (.seq
 (.ops false [
   ⟨some 172, .load 5 true (.t 10) [], none⟩,
   ⟨some 173, .call 15 [.t 172, .k (.int 1)], none⟩,
   ⟨some 171, .mov (.t 173), none⟩,
   ⟨some 174, .ext (.t 171) 0, none⟩,
   ⟨some 175, .ext (.t 171) 1, none⟩,
   ⟨some 28, .mov (.t 174), none⟩,
   ⟨some 29, .mov (.t 175), none⟩] (some [11, 12, 13, 20, 21, 22, 23, 24, 25, 26, 27, 28, 29]))
 (.seq
 (.seq
 (.ops true [
   ⟨some 176, .mov (.t 21), none⟩,
   ⟨some 177, .bin .neq (.t 176) (.k (.int 0)), none⟩,
   ⟨some 178, .mov (.t 177), none⟩,
   ⟨some 179, .mov (.t 23), some (178, false)⟩,
   ⟨some 180, .bin .neq (.t 179) (.k (.int 0)), some (178, false)⟩,
   ⟨some 181, .pick (.t 178) (.k (.bool true)) (.t 180), none⟩,
   ⟨some 182, .mov (.t 181), none⟩,
   ⟨some 183, .mov (.t 25), some (182, false)⟩,
   ⟨some 184, .bin .neq (.t 183) (.k (.int 0)), some (182, false)⟩,
   ⟨some 185, .pick (.t 182) (.k (.bool true)) (.t 184), none⟩,
   ⟨some 186, .mov (.t 185), none⟩,
   ⟨some 187, .mov (.t 27), some (186, false)⟩,
   ⟨some 188, .bin .neq (.t 187) (.k (.int 0)), some (186, false)⟩,
   ⟨some 189, .pick (.t 186) (.k (.bool true)) (.t 188), none⟩,
   ⟨some 190, .mov (.t 189), none⟩,
   ⟨some 191, .mov (.t 29), some (190, false)⟩,
   ⟨some 192, .bin .neq (.t 191) (.k (.int 0)), some (190, false)⟩,
   ⟨some 193, .pick (.t 190) (.k (.bool true)) (.t 192), none⟩,
   ⟨some 194, .mov (.t 193), none⟩,
   ⟨some 195, .mov (.t 20), some (194, false)⟩,
   ⟨some 196, .mov (.t 11), some (194, false)⟩,
   ⟨some 197, .bin .neq (.t 195) (.t 196), some (194, false)⟩,
   ⟨some 198, .pick (.t 194) (.k (.bool true)) (.t 197), none⟩,
   ⟨some 199, .mov (.t 198), none⟩,
   ⟨some 200, .mov (.t 22), some (199, false)⟩,
   ⟨some 201, .mov (.t 20), some (199, false)⟩,
   ⟨some 202, .bin .lss (.t 200) (.t 201), some (199, false)⟩,
   ⟨some 203, .pick (.t 199) (.k (.bool true)) (.t 202), none⟩,
   ⟨some 204, .mov (.t 203), none⟩,
   ⟨some 205, .load 2 true (.t 24) [], some (204, false)⟩,
   ⟨some 206, .mov (.t 12), some (204, false)⟩,
   ⟨some 207, .mov (.t 13), some (204, false)⟩,
   ⟨some 208, .call 16 [.t 206, .t 207], some (204, false)⟩,
   ⟨some 209, .bin (.sne 2) (.t 205) (.t 208), some (204, false)⟩,
   ⟨some 210, .pick (.t 204) (.k (.bool true)) (.t 209), none⟩,
   ⟨some 211, .mov (.t 210), none⟩,
   ⟨some 212, .mov (.t 28), some (211, false)⟩,
   ⟨some 213, .bin .neq (.t 212) (.k (.int 1)), some (211, false)⟩,
   ⟨some 214, .pick (.t 211) (.k (.bool true)) (.t 213), none⟩] (some [24, 26, 214]))
 (.cond (.t 214)
  (.seq
  (.ops false [
    ⟨some 4, .mov (.k (.bool false)), none⟩] (some [4]))
  .ret)
  .skip))
 (.seq
 (.ops false [
   ⟨some 215, .fld 0 (.t 26), none⟩,
   ⟨some 216, .load 1 false (.t 215) [], none⟩,
   ⟨some 217, .bin .geq (.t 216) (.k (.int 1)), none⟩,
   ⟨some 218, .mov (.t 217), none⟩,
   ⟨some 219, .fld 0 (.t 26), some (218, true)⟩,
   ⟨some 220, .load 1 false (.t 219) [], some (218, true)⟩,
   ⟨some 221, .fld 1 (.t 26), some (218, true)⟩,
   ⟨some 222, .load 1 false (.t 221) [], some (218, true)⟩,
   ⟨some 223, .bin .leq (.t 220) (.t 222), some (218, true)⟩,
   ⟨some 224, .pick (.t 218) (.t 223) (.k (.bool false)), none⟩,
   ⟨some 225, .mov (.t 224), none⟩,
   ⟨some 226, .fld 1 (.t 26), some (225, true)⟩,
   ⟨some 227, .load 1 false (.t 226) [], some (225, true)⟩,
   ⟨some 228, .bin .leq (.t 227) (.k (.int 33554432)), some (225, true)⟩,
   ⟨some 229, .pick (.t 225) (.t 228) (.k (.bool false)), none⟩,
   ⟨some 230, .mov (.t 229), none⟩,
   ⟨some 231, .fld 0 (.t 26), some (230, true)⟩,
   ⟨some 232, .load 1 false (.t 231) [], some (230, true)⟩,
   ⟨some 233, .fld 1 (.t 24), some (230, true)⟩,
   ⟨some 234, .load 1 false (.t 233) [], some (230, true)⟩,
   ⟨some 235, .bin .mul (.t 232) (.t 234), some (230, true)⟩,
   ⟨some 236, .fld 0 (.t 24), some (230, true)⟩,
   ⟨some 237, .load 1 false (.t 236) [], some (230, true)⟩,
   ⟨some 238, .fld 1 (.t 26), some (230, true)⟩,
   ⟨some 239, .load 1 false (.t 238) [], some (230, true)⟩,
   ⟨some 240, .bin .mul (.t 237) (.t 239), some (230, true)⟩,
   ⟨some 241, .bin .leq (.t 235) (.t 240), some (230, true)⟩,
   ⟨some 242, .pick (.t 230) (.t 241) (.k (.bool false)), none⟩,
   ⟨some 243, .mov (.t 242), none⟩,
   ⟨some 244, .call 7 [], some (243, true)⟩,
   ⟨some 245, .pick (.t 243) (.t 244) (.k (.bool false)), none⟩,
   ⟨some 4, .mov (.t 245), none⟩] (some [4]))
 .ret))))))))))))))))))

theorem m3 : fmatch Try.prog Try.f3 2 [.tmp 4] v3 = true := by kernel_rfl

/-- steening/steeninglaw01.Far -/
def v4 : VC :=
 (.seq
 (.ops false [
   ⟨some 1, .box 1 3 (.t 0), none⟩,
   ⟨some 2, .mov (.k (.bool false)), none⟩] (some [1]))
 (.seq
 (.ops false [
   ⟨some 3, .load 3 true (.t 1) [], none⟩,
   ⟨some 4, .call 17 [.t 3], none⟩,
   ⟨some 5, .mov (.t 4), none⟩,
   ⟨some 6, .fld 0 (.t 1), some (5, false)⟩,
   ⟨some 7, .load 1 false (.t 6) [], some (5, false)⟩,
   ⟨some 8, .bin .gtr (.t 7) (.k (.int 5)), some (5, false)⟩,
   ⟨some 9, .mov (.t 8), some (5, false)⟩,
   ⟨some 10, .load 3 true (.t 1) [], some (9, false)⟩,
   ⟨some 11, .call 18 [.t 10], some (9, false)⟩,
   ⟨some 12, .bin .gtr (.t 11) (.k (.int 8)), some (9, false)⟩,
   ⟨some 13, .pick (.t 9) (.k (.bool true)) (.t 12), some (5, false)⟩,
   ⟨some 14, .mov (.t 13), some (5, false)⟩,
   ⟨some 15, .load 3 true (.t 1) [], some (14, true)⟩,
   ⟨some 16, .call 5 [.t 15], some (14, true)⟩,
   ⟨some 17, .bin .eql (.t 16) (.k (.int 0)), some (14, true)⟩,
   ⟨some 18, .pick (.t 14) (.t 17) (.k (.bool false)), some (5, false)⟩,
   ⟨some 19, .pick (.t 5) (.k (.bool true)) (.t 18), none⟩,
   ⟨some 2, .mov (.t 19), none⟩] (some [2]))
 .ret))

theorem m4 : fmatch Try.prog Try.f4 1 [.tmp 2] v4 = true := by kernel_rfl

/-- steening/steeningref01.Check -/
def v5 : VC :=
 (.seq
 (.ops false [
   ⟨some 1, .box 1 3 (.t 0), none⟩,
   ⟨some 2, .mov (.k (.int 0)), none⟩] (some [1]))
 (.seq
 (.seq
 (.ops false [
   ⟨some 7, .fld 0 (.t 1), none⟩,
   ⟨some 8, .load 1 false (.t 7) [], none⟩,
   ⟨some 9, .call 19 [.t 8, .k (.int 0), .k (.int 6)], none⟩,
   ⟨some 10, .not (.t 9), none⟩,
   ⟨some 11, .mov (.t 10), none⟩,
   ⟨some 12, .fld 1 (.t 1), some (11, false)⟩,
   ⟨some 13, .load 1 false (.t 12) [], some (11, false)⟩,
   ⟨some 14, .len (.t 13), some (11, false)⟩,
   ⟨some 15, .bin .gtr (.t 14) (.k (.int 8)), some (11, false)⟩,
   ⟨some 16, .pick (.t 11) (.k (.bool true)) (.t 15), none⟩,
   ⟨some 17, .mov (.t 16), none⟩,
   ⟨some 18, .fld 2 (.t 1), some (17, false)⟩,
   ⟨some 19, .load 1 false (.t 18) [], some (17, false)⟩,
   ⟨some 20, .len (.t 19), some (17, false)⟩,
   ⟨some 21, .bin .gtr (.t 20) (.k (.int 8)), some (17, false)⟩,
   ⟨some 22, .pick (.t 17) (.k (.bool true)) (.t 21), none⟩] (some [1, 22]))
 (.cond (.t 22)
  (.seq
  (.ops false [
    ⟨some 2, .mov (.k (.int 10)), none⟩] (some [2]))
  .ret)
  .skip))
 (.seq
 (.seq
 (.ops false [
   ⟨some 3, .mov (.k (.int 0)), none⟩] (some [1, 3]))
 (.block 0
  (.loop
   (.seq
   (.seq
   (.ops false [
     ⟨some 23, .mov (.t 3), none⟩,
     ⟨some 24, .fld 1 (.t 1), none⟩,
     ⟨some 25, .load 1 false (.t 24) [], none⟩,
     ⟨some 26, .len (.t 25), none⟩,
     ⟨some 27, .bin .lss (.t 23) (.t 26), none⟩] (some [1, 3, 27]))
   (.cond (.t 27)
    .skip
    (.exit 0)))
   (.seq
   (.block 1
    (.seq
    (.ops false [
      ⟨some 30, .fld 1 (.t 1), none⟩,
      ⟨some 31, .load 1 false (.t 30) [], none⟩,
      ⟨some 32, .mov (.t 3), none⟩,
      ⟨some 33, .idx 3 (.t 31) (.t 32), none⟩,
      ⟨some 34, .load 3 true (.t 33) [], none⟩,
      ⟨some 4, .alloc 4 [.int 0, .int 0, .int 0], none⟩,
      ⟨none, .store 3 (.t 4) (.t 34) (some 4), none⟩] (some [1, 3, 4]))
    (.seq
    (.ops false [
      ⟨some 35, .load 3 true (.t 1) [], none⟩,
      ⟨some 36, .fld 0 (.t 4), none⟩,
      ⟨some 37, .load 1 false (.t 36) [], none⟩,
      ⟨some 38, .call 20 [.t 35, .t 37], none⟩,
      ⟨some 39, .not (.t 38), none⟩,
      ⟨some 40, .mov (.t 39), none⟩,
      ⟨some 41, .fld 2 (.t 4), some (40, false)⟩,
      ⟨some 42, .load 1 false (.t 41) [], some (40, false)⟩,
      ⟨some 43, .call 19 [.t 42, .k (.int 0), .k (.int 99)], some (40, false)⟩,
      ⟨some 44, .not (.t 43), some (40, false)⟩,
      ⟨some 45, .pick (.t 40) (.k (.bool true)) (.t 44), none⟩,
      ⟨some 46, .mov (.t 45), none⟩,
      ⟨some 47, .fld 1 (.t 4), some (46, false)⟩,
      ⟨some 48, .load 1 false (.t 47) [], some (46, false)⟩,
      ⟨some 49, .fld 2 (.t 4), some (46, false)⟩,
      ⟨some 50, .load 1 false (.t 49) [], some (46, false)⟩,
      ⟨some 51, .call 19 [.t 48, .k (.int 0), .t 50], some (46, false)⟩,
      ⟨some 52, .not (.t 51), some (46, false)⟩,
      ⟨some 53, .pick (.t 46) (.k (.bool true)) (.t 52), none⟩] (some [1, 3, 53]))
    (.cond (.t 53)
     (.seq
     (.ops false [
       ⟨some 2, .mov (.k (.int 10)), none⟩] (some [2]))
     .ret)
     .skip))))
   (.ops false [
     ⟨some 28, .mov (.t 3), none⟩,
     ⟨some 29, .bin .add (.t 28) (.k (.int 1)), none⟩,
     ⟨some 3, .mov (.t 29), none⟩] (some [1, 3])))))))
 (.seq
 (.seq
 (.ops false [
   ⟨some 5, .mov (.k (.int 0)), none⟩] (some [1, 5]))
 (.block 2
  (.loop
   (.seq
   (.seq
   (.ops false [
     ⟨some 54, .mov (.t 5), none⟩,
     ⟨some 55, .fld 2 (.t 1), none⟩,
     ⟨some 56, .load 1 false (.t 55) [], none⟩,
     ⟨some 57, .len (.t 56), none⟩,
     ⟨some 58, .bin .lss (.t 54) (.t 57), none⟩] (some [1, 5, 58]))
   (.cond (.t 58)
    .skip
    (.exit 2)))
   (.seq
   (.block 3
    (.seq
    (.ops false [
      ⟨some 61, .fld 2 (.t 1), none⟩,
      ⟨some 62, .load 1 false (.t 61) [], none⟩,
      ⟨some 63, .mov (.t 5), none⟩,
      ⟨some 64, .idx 4 (.t 62) (.t 63), none⟩,
      ⟨some 65, .load 4 true (.t 64) [], none⟩,
      ⟨some 6, .alloc 6 [.int 0, .int 0, .int 0, .int 0], none⟩,
      ⟨none, .store 4 (.t 6) (.t 65) (some 6), none⟩] (some [1, 5, 6]))
    (.seq
    (.ops false [
      ⟨some 66, .load 3 true (.t 1) [], none⟩,
      ⟨some 67, .fld 0 (.t 6), none⟩,
      ⟨some 68, .load 1 false (.t 67) [], none⟩,
      ⟨some 69, .call 20 [.t 66, .t 68], none⟩,
      ⟨some 70, .not (.t 69), none⟩,
      ⟨some 71, .mov (.t 70), none⟩,
      ⟨some 72, .load 3 true (.t 1) [], some (71, false)⟩,
      ⟨some 73, .fld 1 (.t 6), some (71, false)⟩,
      ⟨some 74, .load 1 false (.t 73) [], some (71, false)⟩,
      ⟨some 75, .call 20 [.t 72, .t 74], some (71, false)⟩,
      ⟨some 76, .not (.t 75), some (71, false)⟩,
      ⟨some 77, .pick (.t 71) (.k (.bool true)) (.t 76), none⟩,
      ⟨some 78, .mov (.t 77), none⟩,
      ⟨some 79, .fld 0 (.t 6), some (78, false)⟩,
      ⟨some 80, .load 1 false (.t 79) [], some (78, false)⟩,
      ⟨some 81, .fld 1 (.t 6), some (78, false)⟩,
      ⟨some 82, .load 1 false (.t 81) [], some (78, false)⟩,
      ⟨some 83, .bin .eql (.t 80) (.t 82), some (78, false)⟩,
      ⟨some 84, .pick (.t 78) (.k (.bool true)) (.t 83), none⟩,
      ⟨some 85, .mov (.t 84), none⟩,
      ⟨some 86, .fld 3 (.t 6), some (85, false)⟩,
      ⟨some 87, .load 1 false (.t 86) [], some (85, false)⟩,
      ⟨some 88, .call 19 [.t 87, .k (.int (-99)), .k (.int 99)], some (85, false)⟩,
      ⟨some 89, .not (.t 88), some (85, false)⟩,
      ⟨some 90, .pick (.t 85) (.k (.bool true)) (.t 89), none⟩,
      ⟨some 91, .mov (.t 90), none⟩,
      ⟨some 92, .fld 2 (.t 6), some (91, false)⟩,
      ⟨some 93, .load 1 false (.t 92) [], some (91, false)⟩,
      ⟨some 94, .fld 3 (.t 6), some (91, false)⟩,
      ⟨some 95, .load 1 false (.t 94) [], some (91, false)⟩,
      ⟨some 96, .call 19 [.t 93, .k (.int (-99)), .t 95], some (91, false)⟩,
      ⟨some 97, .not (.t 96), some (91, false)⟩,
      ⟨some 98, .pick (.t 91) (.k (.bool true)) (.t 97), none⟩] (some [1, 5, 98]))
    (.cond (.t 98)
     (.seq
     (.ops false [
       ⟨some 2, .mov (.k (.int 10)), none⟩] (some [2]))
     .ret)
     .skip))))
   (.ops false [
     ⟨some 59, .mov (.t 5), none⟩,
     ⟨some 60, .bin .add (.t 59) (.k (.int 1)), none⟩,
     ⟨some 5, .mov (.t 60), none⟩] (some [1, 5])))))))
 (.seq
 (.ops false [
   ⟨some 2, .mov (.k (.int 0)), none⟩] (some [2]))
 .ret)))))

theorem m5 : fmatch Try.prog Try.f5 1 [.tmp 2] v5 = true := by kernel_rfl

/-- steening/steeningref01.IsTruth -/
def v6 : VC :=
 (.seq
 (.ops false [
   ⟨some 2, .box 2 3 (.t 0), none⟩,
   ⟨some 4, .mov (.k (.bool false)), none⟩] (some [1, 2]))
 (.seq
 (.seq
 (.ops false [
   ⟨some 10, .mov (.t 1), none⟩,
   ⟨some 11, .len (.t 10), none⟩,
   ⟨some 12, .fld 0 (.t 2), none⟩,
   ⟨some 13, .load 1 false (.t 12) [], none⟩,
   ⟨some 14, .bin .neq (.t 11) (.t 13), none⟩] (some [1, 2, 14]))
 (.cond (.t 14)
  (.seq
  (.ops false [
    ⟨some 4, .mov (.k (.bool false)), none⟩] (some [4]))
  .ret)
  .skip))
 (.seq
 (.seq
 (.ops false [
   ⟨some 5, .mov (.k (.int 0)), none⟩] (some [1, 2, 5]))
 (.block 0
  (.loop
   (.seq
   (.seq
   (.ops false [
     ⟨some 15, .mov (.t 5), none⟩,
     ⟨some 16, .mov (.t 1), none⟩,
     ⟨some 17, .len (.t 16), none⟩,
     ⟨some 18, .bin .lss (.t 15) (.t 17), none⟩] (some [1, 2, 5, 18]))
   (.cond (.t 18)
    .skip
    (.exit 0)))
   (.seq
   (.block 1
    (.seq
    (.ops false [
      ⟨some 21, .mov (.t 1), none⟩,
      ⟨some 22, .mov (.t 5), none⟩,
      ⟨some 23, .idx 1 (.t 21) (.t 22), none⟩,
      ⟨some 24, .load 1 false (.t 23) [], none⟩,
      ⟨some 25, .call 19 [.t 24, .k (.int 0), .k (.int 99)], none⟩,
      ⟨some 26, .not (.t 25), none⟩] (some [1, 2, 5, 26]))
    (.cond (.t 26)
     (.seq
     (.ops false [
       ⟨some 4, .mov (.k (.bool false)), none⟩] (some [4]))
     .ret)
     .skip)))
   (.ops false [
     ⟨some 19, .mov (.t 5), none⟩,
     ⟨some 20, .bin .add (.t 19) (.k (.int 1)), none⟩,
     ⟨some 5, .mov (.t 20), none⟩] (some [1, 2, 5])))))))
 (.seq
 (.seq
 (.ops false [
   ⟨some 6, .mov (.k (.int 0)), none⟩] (some [1, 2, 6]))
 (.block 2
  (.loop
   (.seq
   (.seq
   (.ops false [
     ⟨some 27, .mov (.t 6), none⟩,
     ⟨some 28, .fld 1 (.t 2), none⟩,
     ⟨some 29, .load 1 false (.t 28) [], none⟩,
     ⟨some 30, .len (.t 29), none⟩,
     ⟨some 31, .bin .lss (.t 27) (.t 30), none⟩] (some [1, 2, 6, 31]))
   (.cond (.t 31)
    .skip
    (.exit 2)))
   (.seq
   (.block 3
    (.seq
    (.ops false [
      ⟨some 34, .fld 1 (.t 2), none⟩,
      ⟨some 35, .load 1 false (.t 34) [], none⟩,
      ⟨some 36, .mov (.t 6), none⟩,
      ⟨some 37, .idx 3 (.t 35) (.t 36), none⟩,
      ⟨some 38, .load 3 true (.t 37) [], none⟩,
      ⟨some 7, .alloc 7 [.int 0, .int 0, .int 0], none⟩,
      ⟨none, .store 3 (.t 7) (.t 38) (some 7), none⟩] (some [1, 2, 6, 7]))
    (.seq
    (.ops true [
      ⟨some 39, .mov (.t 1), none⟩,
      ⟨some 40, .fld 0 (.t 7), none⟩,
      ⟨some 41, .load 1 false (.t 40) [], none⟩,
      ⟨some 42, .idx 1 (.t 39) (.t 41), none⟩,
      ⟨some 43, .load 1 false (.t 42) [], none⟩,
      ⟨some 44, .fld 1 (.t 7), none⟩,
      ⟨some 45, .load 1 false (.t 44) [], none⟩,
      ⟨some 46, .fld 2 (.t 7), none⟩,
      ⟨some 47, .load 1 false (.t 46) [], none⟩,
      ⟨some 48, .call 19 [.t 43, .t 45, .t 47], none⟩,
      ⟨some 49, .not (.t 48), none⟩] (some [1, 2, 6, 49]))
    (.cond (.t 49)
     (.seq
     (.ops false [
       ⟨some 4, .mov (.k (.bool false)), none⟩] (some [4]))
     .ret)
     .skip))))
   (.ops false [
     ⟨some 32, .mov (.t 6), none⟩,
     ⟨some 33, .bin .add (.t 32) (.k (.int 1)), none⟩,
     ⟨some 6, .mov (.t 33), none⟩] (some [1, 2, 6])))))))
 (.seq
 (.seq
 (.ops false [
   ⟨some 8, .mov (.k (.int 0)), none⟩] (some [1, 2, 8]))
 (.block 4
  (.loop
   (.seq
   (.seq
   (.ops false [
     ⟨some 50, .mov (.t 8), none⟩,
     ⟨some 51, .fld 2 (.t 2), none⟩,
     ⟨some 52, .load 1 false (.t 51) [], none⟩,
     ⟨some 53, .len (.t 52), none⟩,
     ⟨some 54, .bin .lss (.t 50) (.t 53), none⟩] (some [1, 2, 8, 54]))
   (.cond (.t 54)
    .skip
    (.exit 4)))
   (.seq
   (.block 5
    (.seq
    (.ops false [
      ⟨some 57, .fld 2 (.t 2), none⟩,
      ⟨some 58, .load 1 false (.t 57) [], none⟩,
      ⟨some 59, .mov (.t 8), none⟩,
      ⟨some 60, .idx 4 (.t 58) (.t 59), none⟩,
      ⟨some 61, .load 4 true (.t 60) [], none⟩,
      ⟨some 9, .alloc 9 [.int 0, .int 0, .int 0, .int 0], none⟩,
      ⟨none, .store 4 (.t 9) (.t 61) (some 9), none⟩] (some [1, 2, 8, 9]))
    (.seq
    (.ops true [
      ⟨some 62, .mov (.t 1), none⟩,
      ⟨some 63, .fld 1 (.t 9), none⟩,
      ⟨some 64, .load 1 false (.t 63) [], none⟩,
      ⟨some 65, .idx 1 (.t 62) (.t 64), none⟩,
      ⟨some 66, .load 1 false (.t 65) [], none⟩,
      ⟨some 67, .mov (.t 1), none⟩,
      ⟨some 68, .fld 0 (.t 9), none⟩,
      ⟨some 69, .load 1 false (.t 68) [], none⟩,
      ⟨some 70, .idx 1 (.t 67) (.t 69), none⟩,
      ⟨some 71, .load 1 false (.t 70) [], none⟩,
      ⟨some 72, .bin .sub (.t 66) (.t 71), none⟩,
      ⟨some 73, .fld 2 (.t 9), none⟩,
      ⟨some 74, .load 1 false (.t 73) [], none⟩,
      ⟨some 75, .fld 3 (.t 9), none⟩,
      ⟨some 76, .load 1 false (.t 75) [], none⟩,
      ⟨some 77, .call 19 [.t 72, .t 74, .t 76], none⟩,
      ⟨some 78, .not (.t 77), none⟩] (some [1, 2, 8, 78]))
    (.cond (.t 78)
     (.seq
     (.ops false [
       ⟨some 4, .mov (.k (.bool false)), none⟩] (some [4]))
     .ret)
     .skip))))
   (.ops false [
     ⟨some 55, .mov (.t 8), none⟩,
     ⟨some 56, .bin .add (.t 55) (.k (.int 1)), none⟩,
     ⟨some 8, .mov (.t 56), none⟩] (some [1, 2, 8])))))))
 (.seq
 (.ops false [
   ⟨some 4, .mov (.k (.bool true)), none⟩] (some [4]))
 .ret))))))

theorem m6 : fmatch Try.prog Try.f6 2 [.tmp 4] v6 = true := by kernel_rfl

/-- steening/steeningtop.judged -/
def v7 : VC :=
 (.seq
 (.ops false [
   ⟨some 0, .mov (.k (.bool false)), none⟩] (some []))
 (.seq
 (.ops false [
   ⟨some 8, .call 21 [], none⟩,
   ⟨some 7, .mov (.t 8), none⟩,
   ⟨some 9, .ext (.t 7) 0, none⟩,
   ⟨some 10, .ext (.t 7) 1, none⟩,
   ⟨some 1, .alloc 1 [.int 0, .sl 3 [] .full, .sl 4 [] .full], none⟩,
   ⟨some 2, .alloc 2 [.int 0, .sl 3 [] .full, .sl 4 [] .full], none⟩,
   ⟨none, .store 3 (.t 1) (.t 9) (some 1), none⟩,
   ⟨none, .store 3 (.t 2) (.t 10) (some 2), none⟩] (some [1]))
 (.seq
 (.ops false [
   ⟨some 12, .load 3 true (.t 1) [], none⟩,
   ⟨some 13, .call 22 [.t 12], none⟩,
   ⟨some 11, .mov (.t 13), none⟩,
   ⟨some 14, .ext (.t 11) 0, none⟩,
   ⟨some 15, .ext (.t 11) 1, none⟩,
   ⟨some 3, .mov (.t 14), none⟩,
   ⟨some 4, .mov (.t 15), none⟩] (some [3, 4]))
 (.seq
 (.ops false [
   ⟨some 17, .call 23 [], none⟩,
   ⟨some 18, .call 14 [.t 17, .k (.int 1)], none⟩,
   ⟨some 16, .mov (.t 18), none⟩,
   ⟨some 19, .ext (.t 16) 0, none⟩,
   ⟨some 20, .ext (.t 16) 1, none⟩,
   ⟨some 5, .alloc 5 [.int 0, .int 0], none⟩,
   ⟨none, .store 2 (.t 5) (.t 19) (some 5), none⟩,
   ⟨some 6, .mov (.t 20), none⟩] (some [3, 4, 5, 6]))
 (.seq
 (.ops false [
   ⟨some 21, .mov (.t 4), none⟩,
   ⟨some 22, .bin .eql (.t 21) (.k (.int 0)), none⟩,
   ⟨some 23, .mov (.t 22), none⟩,
   ⟨some 24, .mov (.t 6), some (23, true)⟩,
   ⟨some 25, .bin .eql (.t 24) (.k (.int 0)), some (23, true)⟩,
   ⟨some 26, .pick (.t 23) (.t 25) (.k (.bool false)), none⟩,
   ⟨some 27, .mov (.t 26), none⟩,
   ⟨some 28, .mov (.t 3), some (27, true)⟩,
   ⟨some 29, .bslice 1 [.k (.int 12), .k (.int 17), .k (.int 25)], some (27, true)⟩,
   ⟨some 30, .call 24 [.t 28, .t 29], some (27, true)⟩,
   ⟨some 31, .pick (.t 27) (.t 30) (.k (.bool false)), none⟩,
   ⟨some 32, .mov (.t 31), none⟩,
   ⟨some 33, .load 2 true (.t 5) [], some (32, true)⟩,
   ⟨some 34, .build [.int 0, .int 0] [(0, 1, .k (.int 1)), (1, 1, .k (.int 12))], some (32, true)⟩,
   ⟨some 35, .bin (.seq 2) (.t 33) (.t 34), some (32, true)⟩,
   ⟨some 36, .pick (.t 32) (.t 35) (.k (.bool false)), none⟩,
   ⟨some 0, .mov (.t 36), none⟩] (some [0]))
 .ret)))))

theorem m7 : fmatch Try.prog Try.f7 0 [.tmp 0] v7 = true := by kernel_rfl

/-- steening/steeningref04.Check -/
def v10 : VC :=
 (.seq
 (.ops false [
   ⟨some 1, .box 1 5 (.t 0), none⟩,
   ⟨some 2, .mov (.k (.int 0)), none⟩] (some [1]))
 (.seq
 (.seq
 (.ops false [
   ⟨some 6, .fld 0 (.t 1), none⟩,
   ⟨some 7, .load 1 false (.t 6) [], none⟩,
   ⟨some 8, .call 27 [.t 7, .k (.int 1), .k (.int 12)], none⟩,
   ⟨some 9, .not (.t 8), none⟩,
   ⟨some 10, .mov (.t 9), none⟩,
   ⟨some 11, .fld 1 (.t 1), some (10, false)⟩,
   ⟨some 12, .load 1 false (.t 11) [], some (10, false)⟩,
   ⟨some 13, .len (.t 12), some (10, false)⟩,
   ⟨some 14, .bin .gtr (.t 13) (.k (.int 6)), some (10, false)⟩,
   ⟨some 15, .pick (.t 10) (.k (.bool true)) (.t 14), none⟩,
   ⟨some 16, .mov (.t 15), none⟩,
   ⟨some 17, .fld 2 (.t 1), some (16, false)⟩,
   ⟨some 18, .load 1 false (.t 17) [], some (16, false)⟩,
   ⟨some 19, .call 27 [.t 18, .k (.int 0), .k (.int 4)], some (16, false)⟩,
   ⟨some 20, .not (.t 19), some (16, false)⟩,
   ⟨some 21, .pick (.t 16) (.k (.bool true)) (.t 20), none⟩,
   ⟨some 22, .mov (.t 21), none⟩,
   ⟨some 23, .fld 4 (.t 1), some (22, false)⟩,
   ⟨some 24, .load 1 false (.t 23) [], some (22, false)⟩,
   ⟨some 25, .call 27 [.t 24, .k (.int 0), .k (.int 999)], some (22, false)⟩,
   ⟨some 26, .not (.t 25), some (22, false)⟩,
   ⟨some 27, .pick (.t 22) (.k (.bool true)) (.t 26), none⟩] (some [1, 27]))
 (.cond (.t 27)
  (.seq
  (.ops false [
    ⟨some 2, .mov (.k (.int 40)), none⟩] (some [2]))
  .ret)
  .skip))
 (.seq
 (.seq
 (.ops false [
   ⟨some 3, .mov (.k (.int 0)), none⟩] (some [1, 3]))
 (.block 0
  (.loop
   (.seq
   (.seq
   (.ops false [
     ⟨some 28, .mov (.t 3), none⟩,
     ⟨some 29, .fld 1 (.t 1), none⟩,
     ⟨some 30, .load 1 false (.t 29) [], none⟩,
     ⟨some 31, .len (.t 30), none⟩,
     ⟨some 32, .bin .lss (.t 28) (.t 31), none⟩] (some [1, 3, 32]))
   (.cond (.t 32)
    .skip
    (.exit 0)))
   (.seq
   (.block 1
    (.seq
    (.ops true [
      ⟨some 35, .fld 1 (.t 1), none⟩,
      ⟨some 36, .load 1 false (.t 35) [], none⟩,
      ⟨some 37, .mov (.t 3), none⟩,
      ⟨some 38, .idx 1 (.t 36) (.t 37), none⟩,
      ⟨some 39, .load 1 false (.t 38) [], none⟩,
      ⟨some 40, .fld 0 (.t 1), none⟩,
      ⟨some 41, .load 1 false (.t 40) [], none⟩,
      ⟨some 42, .call 27 [.t 39, .k (.int 0), .t 41], none⟩,
      ⟨some 43, .not (.t 42), none⟩] (some [1, 3, 43]))
    (.cond (.t 43)
     (.seq
     (.ops false [
       ⟨some 2, .mov (.k (.int 40)), none⟩] (some [2]))
     .ret)
     .skip)))
   (.ops false [
     ⟨some 33, .mov (.t 3), none⟩,
     ⟨some 34, .bin .add (.t 33) (.k (.int 1)), none⟩,
     ⟨some 3, .mov (.t 34), none⟩] (some [1, 3])))))))
 (.seq
 (.seq
 (.ops false [
   ⟨some 4, .mov (.k (.int 0)), none⟩] (some [1, 4]))
 (.block 2
  (.loop
   (.seq
   (.seq
   (.ops false [
     ⟨some 44, .mov (.t 4), none⟩,
     ⟨some 45, .fld 3 (.t 1), none⟩,
     ⟨some 46, .load 1 false (.t 45) [], none⟩,
     ⟨some 47, .len (.t 46), none⟩,
     ⟨some 48, .bin .lss (.t 44) (.t 47), none⟩] (some [1, 4, 48]))
   (.cond (.t 48)
    .skip
    (.exit 2)))
   (.seq
   (.block 3
    (.seq
    (.ops false [
      ⟨some 51, .fld 3 (.t 1), none⟩,
      ⟨some 52, .load 1 false (.t 51) [], none⟩,
      ⟨some 53, .mov (.t 4), none⟩,
      ⟨some 54, .idx 4 (.t 52) (.t 53), none⟩,
      ⟨some 55, .load 4 true (.t 54) [], none⟩,
      ⟨some 5, .alloc 5 [.int 0, .int 0, .int 0, .int 0], none⟩,
      ⟨none, .store 4 (.t 5) (.t 55) (some 5), none⟩] (some [1, 4, 5]))
    (.seq
    (.ops true [
      ⟨some 56, .load 5 true (.t 1) [], none⟩,
      ⟨some 57, .fld 0 (.t 5), none⟩,
      ⟨some 58, .load 1 false (.t 57) [], none⟩,
      ⟨some 59, .call 28 [.t 56, .t 58], none⟩,
      ⟨some 60, .not (.t 59), none⟩,
      ⟨some 61, .mov (.t 60), none⟩,
      ⟨some 62, .load 5 true (.t 1) [], some (61, false)⟩,
      ⟨some 63, .fld 1 (.t 5), some (61, false)⟩,
      ⟨some 64, .load 1 false (.t 63) [], some (61, false)⟩,
      ⟨some 65, .call 29 [.t 62, .t 64], some (61, false)⟩,
      ⟨some 66, .not (.t 65), some (61, false)⟩,
      ⟨some 67, .pick (.t 61) (.k (.bool true)) (.t 66), none⟩,
      ⟨some 68, .mov (.t 67), none⟩,
      ⟨some 69, .fld 2 (.t 5), some (68, false)⟩,
      ⟨some 70, .load 1 false (.t 69) [], some (68, false)⟩,
      ⟨some 71, .fld 0 (.t 1), some (68, false)⟩,
      ⟨some 72, .load 1 false (.t 71) [], some (68, false)⟩,
      ⟨some 73, .call 27 [.t 70, .k (.int 1), .t 72], some (68, false)⟩,
      ⟨some 74, .not (.t 73), some (68, false)⟩,
      ⟨some 75, .pick (.t 68) (.k (.bool true)) (.t 74), none⟩,
      ⟨some 76, .mov (.t 75), none⟩,
      ⟨some 77, .fld 3 (.t 5), some (76, false)⟩,
      ⟨some 78, .load 1 false (.t 77) [], some (76, false)⟩,
      ⟨some 79, .fld 2 (.t 5), some (76, false)⟩,
      ⟨some 80, .load 1 false (.t 79) [], some (76, false)⟩,
      ⟨some 81, .fld 0 (.t 1), some (76, false)⟩,
      ⟨some 82, .load 1 false (.t 81) [], some (76, false)⟩,
      ⟨some 83, .call 27 [.t 78, .t 80, .t 82], some (76, false)⟩,
      ⟨some 84, .not (.t 83), some (76, false)⟩,
      ⟨some 85, .pick (.t 76) (.k (.bool true)) (.t 84), none⟩,
      ⟨some 86, .mov (.t 85), none⟩,
      ⟨some 87, .mov (.t 4), some (86, false)⟩,
      ⟨some 88, .bin .gtr (.t 87) (.k (.int 0)), some (86, false)⟩,
      ⟨some 89, .mov (.t 88), some (86, false)⟩,
      ⟨some 90, .fld 3 (.t 1), some (89, true)⟩,
      ⟨some 91, .load 1 false (.t 90) [], some (89, true)⟩,
      ⟨some 92, .mov (.t 4), some (89, true)⟩,
      ⟨some 93, .bin .sub (.t 92) (.k (.int 1)), some (89, true)⟩,
      ⟨some 94, .idx 4 (.t 91) (.t 93), some (89, true)⟩,
      ⟨some 95, .load 4 true (.t 94) [], some (89, true)⟩,
      ⟨some 96, .load 4 true (.t 5) [], some (89, true)⟩,
      ⟨some 97, .call 30 [.t 95, .t 96], some (89, true)⟩,
      ⟨some 98, .not (.t 97), some (89, true)⟩,
      ⟨some 99, .pick (.t 89) (.t 98) (.k (.bool false)), some (86, false)⟩,
      ⟨some 100, .pick (.t 86) (.k (.bool true)) (.t 99), none⟩] (some [1, 4, 100]))
    (.cond (.t 100)
     (.seq
     (.ops false [
       ⟨some 2, .mov (.k (.int 40)), none⟩] (some [2]))
     .ret)
     .skip))))
   (.ops false [
     ⟨some 49, .mov (.t 4), none⟩,
     ⟨some 50, .bin .add (.t 49) (.k (.int 1)), none⟩,
     ⟨some 4, .mov (.t 50), none⟩] (some [1, 4])))))))
 (.seq
 (.ops false [
   ⟨some 2, .mov (.k (.int 0)), none⟩] (some [2]))
 .ret)))))

theorem m10 : fmatch Try.prog Try.f10 1 [.tmp 2] v10 = true := by kernel_rfl

/-- steening/dowsers.Hit -/
def v11 : VC :=
 (.seq
 (.ops false [
   ⟨some 2, .box 2 5 (.t 0), none⟩,
   ⟨some 4, .mov (.k (.int 0)), none⟩,
   ⟨some 5, .mov (.k (.int 0)), none⟩] (some [1, 2]))
 (.seq
 (.ops true [
   ⟨some 10, .load 5 true (.t 2) [], none⟩,
   ⟨some 11, .mov (.t 1), none⟩,
   ⟨some 12, .fld 3 (.t 2), none⟩,
   ⟨some 13, .load 1 false (.t 12) [], none⟩,
   ⟨some 14, .len (.t 13), none⟩,
   ⟨some 15, .bin .sub (.t 14) (.k (.int 1)), none⟩,
   ⟨some 16, .call 32 [.t 11, .k (.int 0), .t 15], none⟩,
   ⟨some 17, .call 31 [.t 10, .t 16], none⟩,
   ⟨some 9, .mov (.t 17), none⟩,
   ⟨some 18, .ext (.t 9) 0, none⟩,
   ⟨some 19, .ext (.t 9) 1, none⟩,
   ⟨some 6, .mov (.t 18), none⟩,
   ⟨some 7, .mov (.t 19), none⟩] (some [1, 2, 6, 7]))
 (.seq
 (.seq
 (.ops false [
   ⟨some 20, .mov (.t 7), none⟩,
   ⟨some 21, .bin .neq (.t 20) (.k (.int 0)), none⟩] (some [1, 2, 6, 7, 21]))
 (.cond (.t 21)
  (.seq
  (.ops false [
    ⟨some 22, .mov (.t 7), none⟩,
    ⟨some 4, .mov (.k (.int 0)), none⟩,
    ⟨some 5, .mov (.t 22), none⟩] (some [4, 5]))
  .ret)
  .skip))
 (.seq
 (.seq
 (.ops false [
   ⟨some 23, .fld 3 (.t 2), none⟩,
   ⟨some 24, .load 1 false (.t 23) [], none⟩,
   ⟨some 25, .mov (.t 1), none⟩,
   ⟨some 26, .idx 4 (.t 24) (.t 25), none⟩,
   ⟨some 27, .load 4 true (.t 26) [], none⟩,
   ⟨some 8, .alloc 8 [.int 0, .int 0, .int 0, .int 0], none⟩,
   ⟨none, .store 4 (.t 8) (.t 27) (some 8), none⟩] (some [2, 6, 8]))
 (.block 0
  (.seq
  (.ops false [
    ⟨some 29, .mov (.t 6), none⟩,
    ⟨some 30, .load 4 true (.t 8) [], none⟩,
    ⟨some 31, .call 33 [.t 29, .t 30], none⟩,
    ⟨some 28, .mov (.t 31), none⟩] (some [2, 8, 28]))
  (.cond (.t 28)
   (.seq
   (.ops false [
     ⟨some 4, .mov (.k (.int 3)), none⟩,
     ⟨some 5, .mov (.k (.int 0)), none⟩] (some [4, 5]))
   .ret)
   (.seq
   (.ops true [
     ⟨some 33, .fld 1 (.t 2), none⟩,
     ⟨some 34, .load 1 false (.t 33) [], none⟩,
     ⟨some 35, .fld 1 (.t 8), none⟩,
     ⟨some 36, .load 1 false (.t 35) [], none⟩,
     ⟨some 37, .idx 1 (.t 34) (.t 36), none⟩,
     ⟨some 38, .load 1 false (.t 37) [], none⟩,
     ⟨some 39, .fld 2 (.t 8), none⟩,
     ⟨some 40, .load 1 false (.t 39) [], none⟩,
     ⟨some 41, .fld 3 (.t 8), none⟩,
     ⟨some 42, .load 1 false (.t 41) [], none⟩,
     ⟨some 43, .call 32 [.t 38, .t 40, .t 42], none⟩,
     ⟨some 32, .mov (.t 43), none⟩] (some [32]))
   (.cond (.t 32)
    (.seq
    (.ops false [
      ⟨some 4, .mov (.k (.int 1)), none⟩,
      ⟨some 5, .mov (.k (.int 0)), none⟩] (some [4, 5]))
    .ret)
    .skip))))))
 (.seq
 (.ops false [
   ⟨some 4, .mov (.k (.int 2)), none⟩,
   ⟨some 5, .mov (.k (.int 0)), none⟩] (some [4, 5]))
 .ret)))))

theorem m11 : fmatch Try.prog Try.f11 2 [.tmp 4, .tmp 5] v11 = true := by kernel_rfl

/-- steening/steeningref04.WidthOf -/
def v12 : VC :=
 (.seq
 (.ops false [
   ⟨some 1, .box 1 4 (.t 0), none⟩,
   ⟨some 2, .mov (.k (.int 0)), none⟩] (some [1]))
 (.seq
 (.ops false [
   ⟨some 3, .fld 3 (.t 1), none⟩,
   ⟨some 4, .load 1 false (.t 3) [], none⟩,
   ⟨some 5, .fld 2 (.t 1), none⟩,
   ⟨some 6, .load 1 false (.t 5) [], none⟩,
   ⟨some 7, .bin .sub (.t 4) (.t 6), none⟩,
   ⟨some 8, .bin .add (.t 7) (.k (.int 1)), none⟩,
   ⟨some 2, .mov (.t 8), none⟩] (some [2]))
 .ret))

theorem m12 : fmatch Try.prog Try.f12 1 [.tmp 2] v12 = true := by kernel_rfl

/-- steening/dowsers.Score -/
def v13 : VC :=
 (.seq
 (.ops false [
   ⟨some 2, .box 2 5 (.t 0), none⟩,
   ⟨some 4, .mov (.k (.int 0)), none⟩,
   ⟨some 5, .mov (.k (.int 0)), none⟩] (some [1, 2]))
 (.seq
 (.ops true [
   ⟨some 9, .load 5 true (.t 2) [], none⟩,
   ⟨some 10, .load 5 true (.t 2) [], none⟩,
   ⟨some 11, .mov (.t 1), none⟩,
   ⟨some 12, .call 34 [.t 10, .t 11], none⟩,
   ⟨some 13, .call 31 [.t 9, .t 12], none⟩,
   ⟨some 8, .mov (.t 13), none⟩,
   ⟨some 14, .ext (.t 8) 0, none⟩,
   ⟨some 15, .ext (.t 8) 1, none⟩,
   ⟨some 6, .mov (.t 14), none⟩,
   ⟨some 7, .mov (.t 15), none⟩] (some [1, 6, 7]))
 (.seq
 (.seq
 (.ops false [
   ⟨some 16, .mov (.t 7), none⟩,
   ⟨some 17, .bin .neq (.t 16) (.k (.int 0)), none⟩] (some [1, 6, 7, 17]))
 (.cond (.t 17)
  (.seq
  (.ops false [
    ⟨some 18, .mov (.t 7), none⟩,
    ⟨some 4, .mov (.k (.int 0)), none⟩,
    ⟨some 5, .mov (.t 18), none⟩] (some [4, 5]))
  .ret)
  .skip))
 (.seq
 (.ops false [
   ⟨some 19, .mov (.t 6), none⟩,
   ⟨some 20, .call 35 [.t 19], none⟩,
   ⟨some 21, .mov (.t 1), none⟩,
   ⟨some 22, .indexV 4 1 false (.t 20) (.t 21), none⟩,
   ⟨some 4, .mov (.t 22), none⟩,
   ⟨some 5, .mov (.k (.int 0)), none⟩] (some [4, 5]))
 .ret))))

theorem m13 : fmatch Try.prog Try.f13 2 [.tmp 4, .tmp 5] v13 = true := by kernel_rfl

/-- steening/dowsers.Chance -/
def v14 : VC :=
 (.seq
 (.ops false [
   ⟨some 2, .box 2 5 (.t 0), none⟩,
   ⟨some 4, .alloc 4 [.int 0, .int 0], none⟩,
   ⟨some 5, .mov (.k (.int 0)), none⟩] (some [1, 2, 4]))
 (.seq
 (.ops true [
   ⟨some 11, .load 5 true (.t 2) [], none⟩,
   ⟨some 12, .load 5 true (.t 2) [], none⟩,
   ⟨some 13, .mov (.t 1), none⟩,
   ⟨some 14, .call 34 [.t 12, .t 13], none⟩,
   ⟨some 15, .call 31 [.t 11, .t 14], none⟩,
   ⟨some 10, .mov (.t 15), none⟩,
   ⟨some 16, .ext (.t 10) 0, none⟩,
   ⟨some 17, .ext (.t 10) 1, none⟩,
   ⟨some 6, .mov (.t 16), none⟩,
   ⟨some 7, .mov (.t 17), none⟩] (some [1, 4, 6, 7]))
 (.seq
 (.seq
 (.ops false [
   ⟨some 18, .mov (.t 7), none⟩,
   ⟨some 19, .bin .neq (.t 18) (.k (.int 0)), none⟩] (some [1, 4, 6, 7, 19]))
 (.cond (.t 19)
  (.seq
  (.ops false [
    ⟨some 20, .build [.int 0, .int 0] [], none⟩,
    ⟨some 21, .mov (.t 7), none⟩,
    ⟨none, .store 2 (.t 4) (.t 20) (some 4), none⟩,
    ⟨some 5, .mov (.t 21), none⟩] (some [4, 5]))
  .ret)
  .skip))
 (.seq
 (.ops false [
   ⟨some 23, .mov (.t 6), none⟩,
   ⟨some 24, .mov (.t 1), none⟩,
   ⟨some 25, .call 36 [.t 23, .t 24], none⟩,
   ⟨some 22, .mov (.t 25), none⟩,
   ⟨some 26, .ext (.t 22) 0, none⟩,
   ⟨some 27, .ext (.t 22) 1, none⟩,
   ⟨some 8, .alloc 8 [.sl 1 [] .full, .int 0], none⟩,
   ⟨none, .store 2 (.t 8) (.t 26) (some 8), none⟩,
   ⟨some 9, .mov (.t 27), none⟩] (some [4, 8, 9]))
 (.seq
 (.ops false [
   ⟨some 28, .load 2 true (.t 8) [], none⟩,
   ⟨some 29, .mov (.t 9), none⟩,
   ⟨some 30, .call 37 [.t 28, .t 29], none⟩,
   ⟨none, .store 2 (.t 4) (.t 30) (some 4), none⟩,
   ⟨some 5, .mov (.k (.int 0)), none⟩] (some [4, 5]))
 .ret)))))

theorem m14 : fmatch Try.prog Try.f14 2 [.cell 4 49, .tmp 5] v14 = true := by kernel_rfl

/-- steening/dowsers.Leads -/
def v15 : VC :=
 (.seq
 (.ops false [
   ⟨some 2, .box 2 5 (.t 0), none⟩,
   ⟨some 4, .mov (.k (.int 0)), none⟩,
   ⟨some 5, .mov (.k (.int 0)), none⟩] (some [1, 2]))
 (.seq
 (.ops true [
   ⟨some 9, .load 5 true (.t 2) [], none⟩,
   ⟨some 10, .load 5 true (.t 2) [], none⟩,
   ⟨some 11, .mov (.t 1), none⟩,
   ⟨some 12, .call 34 [.t 10, .t 11], none⟩,
   ⟨some 13, .call 31 [.t 9, .t 12], none⟩,
   ⟨some 8, .mov (.t 13), none⟩,
   ⟨some 14, .ext (.t 8) 0, none⟩,
   ⟨some 15, .ext (.t 8) 1, none⟩,
   ⟨some 6, .mov (.t 14), none⟩,
   ⟨some 7, .mov (.t 15), none⟩] (some [1, 6, 7]))
 (.seq
 (.seq
 (.ops false [
   ⟨some 16, .mov (.t 7), none⟩,
   ⟨some 17, .bin .neq (.t 16) (.k (.int 0)), none⟩] (some [1, 6, 7, 17]))
 (.cond (.t 17)
  (.seq
  (.ops false [
    ⟨some 18, .mov (.t 7), none⟩,
    ⟨some 4, .mov (.k (.int 0)), none⟩,
    ⟨some 5, .mov (.t 18), none⟩] (some [4, 5]))
  .ret)
  .skip))
 (.seq
 (.ops false [
   ⟨some 19, .mov (.t 6), none⟩,
   ⟨some 20, .mov (.t 1), none⟩,
   ⟨some 21, .call 38 [.t 19, .t 20], none⟩,
   ⟨some 4, .mov (.t 21), none⟩,
   ⟨some 5, .mov (.k (.int 0)), none⟩] (some [4, 5]))
 .ret))))

theorem m15 : fmatch Try.prog Try.f15 2 [.tmp 4, .tmp 5] v15 = true := by kernel_rfl

/-- steening/steeningref01.Reduced -/
def v16 : VC :=
 (.seq
 (.ops false [
   ⟨some 4, .alloc 4 [.int 0, .int 0], none⟩] (some [0, 1, 4]))
 (.seq
 (.ops false [
   ⟨some 7, .mov (.t 0), none⟩,
   ⟨some 8, .mov (.t 0), none⟩,
   ⟨some 9, .neg (.t 8), none⟩,
   ⟨some 10, .max (.t 7) (.t 9), none⟩,
   ⟨some 11, .mov (.t 1), none⟩,
   ⟨some 5, .mov (.t 10), none⟩,
   ⟨some 6, .mov (.t 11), none⟩] (some [0, 1, 4, 5, 6]))
 (.seq
 (.block 0
  (.loop
   (.seq
   (.seq
   (.ops false [
     ⟨some 12, .mov (.t 6), none⟩,
     ⟨some 13, .bin .gtr (.t 12) (.k (.int 0)), none⟩] (some [0, 1, 4, 5, 6, 13]))
   (.cond (.t 13)
    .skip
    (.exit 0)))
   (.block 1
    (.ops true [
      ⟨some 14, .mov (.t 6), none⟩,
      ⟨some 15, .mov (.t 5), none⟩,
      ⟨some 16, .mov (.t 6), none⟩,
      ⟨some 17, .bin .rem (.t 15) (.t 16), none⟩,
      ⟨some 5, .mov (.t 14), none⟩,
      ⟨some 6, .mov (.t 17), none⟩] (some [0, 1, 4, 5, 6]))))))
 (.seq
 (.ops true [
   ⟨some 18, .mov (.t 0), none⟩,
   ⟨some 19, .mov (.t 5), none⟩,
   ⟨some 20, .bin .quo (.t 18) (.t 19), none⟩,
   ⟨some 21, .mov (.t 1), none⟩,
   ⟨some 22, .mov (.t 5), none⟩,
   ⟨some 23, .bin .quo (.t 21) (.t 22), none⟩,
   ⟨some 24, .build [.int 0, .int 0] [(0, 1, .t 20), (1, 1, .t 23)], none⟩,
   ⟨none, .store 2 (.t 4) (.t 24) (some 4), none⟩] (some [4]))
 .ret))))

theorem m16 : fmatch Try.prog Try.f16 2 [.cell 4 49] v16 = true := by kernel_rfl

/-- steening/steeninglaw01.Huge -/
def v17 : VC :=
 (.seq
 (.ops false [
   ⟨some 1, .box 1 3 (.t 0), none⟩,
   ⟨some 2, .mov (.k (.bool false)), none⟩] (some [1]))
 (.seq
 (.ops false [
   ⟨some 3, .fld 1 (.t 1), none⟩,
   ⟨some 4, .load 1 false (.t 3) [], none⟩,
   ⟨some 5, .len (.t 4), none⟩,
   ⟨some 6, .bin .gtr (.t 5) (.k (.int 40)), none⟩,
   ⟨some 7, .mov (.t 6), none⟩,
   ⟨some 8, .fld 2 (.t 1), some (7, false)⟩,
   ⟨some 9, .load 1 false (.t 8) [], some (7, false)⟩,
   ⟨some 10, .len (.t 9), some (7, false)⟩,
   ⟨some 11, .bin .gtr (.t 10) (.k (.int 40)), some (7, false)⟩,
   ⟨some 12, .pick (.t 7) (.k (.bool true)) (.t 11), none⟩,
   ⟨some 2, .mov (.t 12), none⟩] (some [2]))
 .ret))

theorem m17 : fmatch Try.prog Try.f17 1 [.tmp 2] v17 = true := by kernel_rfl

/-- steening/steeningref01.Many -/
def v18 : VC :=
 (.seq
 (.ops false [
   ⟨some 1, .box 1 3 (.t 0), none⟩,
   ⟨some 2, .mov (.k (.int 0)), none⟩] (some [1]))
 (.seq
 (.ops false [
   ⟨some 3, .fld 1 (.t 1), none⟩,
   ⟨some 4, .load 1 false (.t 3) [], none⟩,
   ⟨some 5, .len (.t 4), none⟩,
   ⟨some 6, .fld 2 (.t 1), none⟩,
   ⟨some 7, .load 1 false (.t 6) [], none⟩,
   ⟨some 8, .len (.t 7), none⟩,
   ⟨some 9, .bin .add (.t 5) (.t 8), none⟩,
   ⟨some 2, .mov (.t 9), none⟩] (some [2]))
 .ret))

theorem m18 : fmatch Try.prog Try.f18 1 [.tmp 2] v18 = true := by kernel_rfl

/-- steening/steeningref01.Within -/
def v19 : VC :=
 (.seq
 (.ops false [
   ⟨some 6, .mov (.k (.bool false)), none⟩] (some [0, 1, 2]))
 (.seq
 (.ops false [
   ⟨some 7, .mov (.t 1), none⟩,
   ⟨some 8, .mov (.t 0), none⟩,
   ⟨some 9, .bin .leq (.t 7) (.t 8), none⟩,
   ⟨some 10, .mov (.t 9), none⟩,
   ⟨some 11, .mov (.t 0), some (10, true)⟩,
   ⟨some 12, .mov (.t 2), some (10, true)⟩,
   ⟨some 13, .bin .leq (.t 11) (.t 12), some (10, true)⟩,
   ⟨some 14, .pick (.t 10) (.t 13) (.k (.bool false)), none⟩,
   ⟨some 6, .mov (.t 14), none⟩] (some [6]))
 .ret))

theorem m19 : fmatch Try.prog Try.f19 3 [.tmp 6] v19 = true := by kernel_rfl

/-- steening/steeningref01.IsWell -/
def v20 : VC :=
 (.seq
 (.ops false [
   ⟨some 2, .box 2 3 (.t 0), none⟩,
   ⟨some 4, .mov (.k (.bool false)), none⟩] (some [1, 2]))
 (.seq
 (.ops false [
   ⟨some 5, .mov (.t 1), none⟩,
   ⟨some 6, .fld 0 (.t 2), none⟩,
   ⟨some 7, .load 1 false (.t 6) [], none⟩,
   ⟨some 8, .bin .sub (.t 7) (.k (.int 1)), none⟩,
   ⟨some 9, .call 19 [.t 5, .k (.int 0), .t 8], none⟩,
   ⟨some 4, .mov (.t 9), none⟩] (some [4]))
 .ret))

theorem m20 : fmatch Try.prog Try.f20 2 [.tmp 4] v20 = true := by kernel_rfl

/-- steening/steeninglaw01.Example -/
def v21 : VC :=
 (.seq
 (.ops false [
   ⟨some 0, .alloc 0 [.int 0, .sl 3 [] .full, .sl 4 [] .full], none⟩,
   ⟨some 1, .alloc 1 [.int 0, .sl 3 [] .full, .sl 4 [] .full], none⟩] (some [0, 1]))
 (.seq
 (.ops false [
   ⟨some 2, .build [.int 0, .int 0, .int 0] [(0, 1, .k (.int 0)), (1, 1, .k (.int 10)), (2, 1, .k (.int 12))], none⟩,
   ⟨some 3, .build [.int 0, .int 0, .int 0] [(0, 1, .k (.int 2)), (1, 1, .k (.int 20)), (2, 1, .k (.int 30))], none⟩,
   ⟨some 4, .bslice 3 [.t 2, .t 3], none⟩,
   ⟨some 5, .build [.int 0, .int 0, .int 0, .int 0] [(0, 1, .k (.int 0)), (1, 1, .k (.int 1)), (2, 1, .k (.int 3)), (3, 1, .k (.int 5))], none⟩,
   ⟨some 6, .build [.int 0, .int 0, .int 0, .int 0] [(0, 1, .k (.int 1)), (1, 1, .k (.int 2)), (2, 1, .k (.int 4)), (3, 1, .k (.int 8))], none⟩,
   ⟨some 7, .bslice 4 [.t 5, .t 6], none⟩,
   ⟨some 8, .build [.int 0, .sl 3 [] .sh, .sl 4 [] .sh] [(0, 1, .k (.int 3)), (1, 1, .t 4), (2, 1, .t 7)], none⟩,
   ⟨none, .store 3 (.t 0) (.t 8) (some 0), none⟩] (some [0, 1]))
 (.seq
 (.ops true [
   ⟨some 9, .load 3 true (.t 0) [1], none⟩,
   ⟨some 10, .load 3 true (.t 0) [1], none⟩,
   ⟨some 11, .build [.int 0, .int 0, .int 0] [(0, 1, .k (.int 1)), (1, 1, .k (.int 18)), (2, 1, .k (.int 19))], none⟩,
   ⟨some 12, .call 8 [.t 10, .t 11], none⟩,
   ⟨none, .store 3 (.t 0) (.t 9) (some 0), none⟩,
   ⟨none, .store 3 (.t 1) (.t 12) (some 1), none⟩] (some [0, 1]))
 .ret)))

theorem m21 : fmatch Try.prog Try.f21 0 [.cell 0 25, .cell 1 25] v21 = true := by kernel_rfl

/-- steening/levels.Highest -/
def v22 : VC :=
 (.seq
 (.ops false [
   ⟨some 1, .box 1 3 (.t 0), none⟩,
   ⟨some 2, .nils 2 1, none⟩,
   ⟨some 3, .mov (.k (.int 0)), none⟩] (some [1]))
 (.seq
 (.ops false [
   ⟨some 4, .load 3 true (.t 1) [], none⟩,
   ⟨some 5, .call 39 [.t 4, .k (.clo 40 [] [])], none⟩,
   ⟨some 6, .ext (.t 5) 0, none⟩,
   ⟨some 7, .ext (.t 5) 1, none⟩,
   ⟨some 2, .mov (.t 6), none⟩,
   ⟨some 3, .mov (.t 7), none⟩] (some [2, 3]))
 .ret))

theorem m22 : fmatch Try.prog Try.f22 1 [.tmp 2, .tmp 3] v22 = true := by kernel_rfl

/-- steening/steeninglaw04.Example -/
def v23 : VC :=
 (.seq
 (.ops false [
   ⟨some 0, .alloc 0 [.int 0, .sl 1 [] .full, .int 0, .sl 4 [] .full, .int 0], none⟩] (some [0]))
 (.seq
 (.ops false [
   ⟨some 1, .bslice 1 [.k (.int 3), .k (.int 0), .k (.int 5)], none⟩,
   ⟨some 2, .build [.int 0, .int 0, .int 0, .int 0] [(0, 1, .k (.int 0)), (1, 1, .k (.int 0)), (2, 1, .k (.int 2)), (3, 1, .k (.int 3))], none⟩,
   ⟨some 3, .build [.int 0, .int 0, .int 0, .int 0] [(0, 1, .k (.int 0)), (1, 1, .k (.int 1)), (2, 1, .k (.int 1)), (3, 1, .k (.int 1))], none⟩,
   ⟨some 4, .build [.int 0, .int 0, .int 0, .int 0] [(0, 1, .k (.int 0)), (1, 1, .k (.int 2)), (2, 1, .k (.int 1)), (3, 1, .k (.int 2))], none⟩,
   ⟨some 5, .build [.int 0, .int 0, .int 0, .int 0] [(0, 1, .k (.int 1)), (1, 1, .k (.int 0)), (2, 1, .k (.int 3)), (3, 1, .k (.int 3))], none⟩,
   ⟨some 6, .build [.int 0, .int 0, .int 0, .int 0] [(0, 1, .k (.int 1)), (1, 1, .k (.int 1)), (2, 1, .k (.int 1)), (3, 1, .k (.int 6))], none⟩,
   ⟨some 7, .build [.int 0, .int 0, .int 0, .int 0] [(0, 1, .k (.int 1)), (1, 1, .k (.int 2)), (2, 1, .k (.int 4)), (3, 1, .k (.int 6))], none⟩,
   ⟨some 8, .bslice 4 [.t 2, .t 3, .t 4, .t 5, .t 6, .t 7], none⟩,
   ⟨some 9, .build [.int 0, .sl 1 [] .sh, .int 0, .sl 4 [] .sh, .int 0] [(0, 1, .k (.int 6)), (1, 1, .t 1), (2, 1, .k (.int 2)), (3, 1, .t 8), (4, 1, .k (.int 10))], none⟩,
   ⟨none, .store 5 (.t 0) (.t 9) (some 0), none⟩] (some [0]))
 .ret))

theorem m23 : fmatch Try.prog Try.f23 0 [.cell 0 41] v23 = true := by kernel_rfl

/-- steening/steeningref01.SameInts -/
def v24 : VC :=
 (.seq
 (.ops false [
   ⟨some 4, .mov (.k (.bool false)), none⟩] (some [0, 1]))
 (.seq
 (.seq
 (.ops false [
   ⟨some 6, .mov (.t 0), none⟩,
   ⟨some 7, .len (.t 6), none⟩,
   ⟨some 8, .mov (.t 1), none⟩,
   ⟨some 9, .len (.t 8), none⟩,
   ⟨some 10, .bin .neq (.t 7) (.t 9), none⟩] (some [0, 1, 10]))
 (.cond (.t 10)
  (.seq
  (.ops false [
    ⟨some 4, .mov (.k (.bool false)), none⟩] (some [4]))
  .ret)
  .skip))
 (.seq
 (.seq
 (.ops false [
   ⟨some 5, .mov (.k (.int 0)), none⟩] (some [0, 1, 5]))
 (.block 0
  (.loop
   (.seq
   (.seq
   (.ops false [
     ⟨some 11, .mov (.t 5), none⟩,
     ⟨some 12, .mov (.t 0), none⟩,
     ⟨some 13, .len (.t 12), none⟩,
     ⟨some 14, .bin .lss (.t 11) (.t 13), none⟩] (some [0, 1, 5, 14]))
   (.cond (.t 14)
    .skip
    (.exit 0)))
   (.seq
   (.block 1
    (.seq
    (.ops true [
      ⟨some 17, .mov (.t 0), none⟩,
      ⟨some 18, .mov (.t 5), none⟩,
      ⟨some 19, .idx 1 (.t 17) (.t 18), none⟩,
      ⟨some 20, .load 1 false (.t 19) [], none⟩,
      ⟨some 21, .mov (.t 1), none⟩,
      ⟨some 22, .mov (.t 5), none⟩,
      ⟨some 23, .idx 1 (.t 21) (.t 22), none⟩,
      ⟨some 24, .load 1 false (.t 23) [], none⟩,
      ⟨some 25, .bin .neq (.t 20) (.t 24), none⟩] (some [0, 1, 5, 25]))
    (.cond (.t 25)
     (.seq
     (.ops false [
       ⟨some 4, .mov (.k (.bool false)), none⟩] (some [4]))
     .ret)
     .skip)))
   (.ops false [
     ⟨some 15, .mov (.t 5), none⟩,
     ⟨some 16, .bin .add (.t 15) (.k (.int 1)), none⟩,
     ⟨some 5, .mov (.t 16), none⟩] (some [0, 1, 5])))))))
 (.seq
 (.ops false [
   ⟨some 4, .mov (.k (.bool true)), none⟩] (some [4]))
 .ret))))

theorem m24 : fmatch Try.prog Try.f24 2 [.tmp 4] v24 = true := by kernel_rfl

/-- steening/levels.Level -/
def v26 : VC :=
 (.seq
 (.ops false [
   ⟨some 2, .box 2 3 (.t 0), none⟩,
   ⟨some 4, .alloc 4 [.int 0, .int 0], none⟩,
   ⟨some 5, .mov (.k (.int 0)), none⟩] (some [1, 2, 4]))
 (.seq
 (.ops true [
   ⟨some 9, .load 3 true (.t 2) [], none⟩,
   ⟨some 10, .load 3 true (.t 2) [], none⟩,
   ⟨some 11, .mov (.t 1), none⟩,
   ⟨some 12, .call 42 [.t 10, .t 11], none⟩,
   ⟨some 13, .call 41 [.t 9, .t 12], none⟩,
   ⟨some 8, .mov (.t 13), none⟩,
   ⟨some 14, .ext (.t 8) 0, none⟩,
   ⟨some 15, .ext (.t 8) 1, none⟩,
   ⟨some 6, .mov (.t 14), none⟩,
   ⟨some 7, .mov (.t 15), none⟩] (some [1, 4, 6, 7]))
 (.seq
 (.seq
 (.ops false [
   ⟨some 16, .mov (.t 7), none⟩,
   ⟨some 17, .bin .neq (.t 16) (.k (.int 0)), none⟩] (some [1, 4, 6, 7, 17]))
 (.cond (.t 17)
  (.seq
  (.ops false [
    ⟨some 18, .build [.int 0, .int 0] [], none⟩,
    ⟨some 19, .mov (.t 7), none⟩,
    ⟨none, .store 2 (.t 4) (.t 18) (some 4), none⟩,
    ⟨some 5, .mov (.t 19), none⟩] (some [4, 5]))
  .ret)
  .skip))
 (.seq
 (.ops false [
   ⟨some 20, .mov (.t 6), none⟩,
   ⟨some 21, .mov (.t 1), none⟩,
   ⟨some 22, .call 43 [.t 20, .k (.int 6), .t 21], none⟩,
   ⟨none, .store 2 (.t 4) (.t 22) (some 4), none⟩,
   ⟨some 5, .mov (.k (.int 0)), none⟩] (some [4, 5]))
 .ret))))

theorem m26 : fmatch Try.prog Try.f26 2 [.cell 4 67, .tmp 5] v26 = true := by kernel_rfl

/-- steening/steeningref04.within -/
def v27 : VC :=
 (.seq
 (.ops false [
   ⟨some 6, .mov (.k (.bool false)), none⟩] (some [0, 1, 2]))
 (.seq
 (.ops false [
   ⟨some 7, .mov (.t 0), none⟩,
   ⟨some 8, .mov (.t 1), none⟩,
   ⟨some 9, .mov (.t 2), none⟩,
   ⟨some 10, .call 19 [.t 7, .t 8, .t 9], none⟩,
   ⟨some 6, .mov (.t 10), none⟩] (some [6]))
 .ret))

theorem m27 : fmatch Try.prog Try.f27 3 [.tmp 6] v27 = true := by kernel_rfl

/-- steening/steeningref04.IsDowser -/
def v28 : VC :=
 (.seq
 (.ops false [
   ⟨some 2, .box 2 5 (.t 0), none⟩,
   ⟨some 4, .mov (.k (.bool false)), none⟩] (some [1, 2]))
 (.seq
 (.ops false [
   ⟨some 5, .mov (.t 1), none⟩,
   ⟨some 6, .fld 2 (.t 2), none⟩,
   ⟨some 7, .load 1 false (.t 6) [], none⟩,
   ⟨some 8, .bin .sub (.t 7) (.k (.int 1)), none⟩,
   ⟨some 9, .call 27 [.t 5, .k (.int 0), .t 8], none⟩,
   ⟨some 4, .mov (.t 9), none⟩] (some [4]))
 .ret))

theorem m28 : fmatch Try.prog Try.f28 2 [.tmp 4] v28 = true := by kernel_rfl

/-- steening/steeningref04.IsPlace -/
def v29 : VC :=
 (.seq
 (.ops false [
   ⟨some 2, .box 2 5 (.t 0), none⟩,
   ⟨some 4, .mov (.k (.bool false)), none⟩] (some [1, 2]))
 (.seq
 (.ops false [
   ⟨some 5, .mov (.t 1), none⟩,
   ⟨some 6, .fld 1 (.t 2), none⟩,
   ⟨some 7, .load 1 false (.t 6) [], none⟩,
   ⟨some 8, .len (.t 7), none⟩,
   ⟨some 9, .bin .sub (.t 8) (.k (.int 1)), none⟩,
   ⟨some 10, .call 27 [.t 5, .k (.int 0), .t 9], none⟩,
   ⟨some 4, .mov (.t 10), none⟩] (some [4]))
 .ret))

theorem m29 : fmatch Try.prog Try.f29 2 [.tmp 4] v29 = true := by kernel_rfl

/-- steening/steeningref04.Before -/
def v30 : VC :=
 (.seq
 (.ops false [
   ⟨some 2, .box 2 4 (.t 0), none⟩,
   ⟨some 3, .box 3 4 (.t 1), none⟩,
   ⟨some 4, .mov (.k (.bool false)), none⟩] (some [2, 3]))
 (.seq
 (.ops false [
   ⟨some 5, .fld 0 (.t 2), none⟩,
   ⟨some 6, .load 1 false (.t 5) [], none⟩,
   ⟨some 7, .fld 0 (.t 3), none⟩,
   ⟨some 8, .load 1 false (.t 7) [], none⟩,
   ⟨some 9, .bin .lss (.t 6) (.t 8), none⟩,
   ⟨some 10, .mov (.t 9), none⟩,
   ⟨some 11, .fld 0 (.t 2), some (10, false)⟩,
   ⟨some 12, .load 1 false (.t 11) [], some (10, false)⟩,
   ⟨some 13, .fld 0 (.t 3), some (10, false)⟩,
   ⟨some 14, .load 1 false (.t 13) [], some (10, false)⟩,
   ⟨some 15, .bin .eql (.t 12) (.t 14), some (10, false)⟩,
   ⟨some 16, .mov (.t 15), some (10, false)⟩,
   ⟨some 17, .fld 1 (.t 2), some (16, true)⟩,
   ⟨some 18, .load 1 false (.t 17) [], some (16, true)⟩,
   ⟨some 19, .fld 1 (.t 3), some (16, true)⟩,
   ⟨some 20, .load 1 false (.t 19) [], some (16, true)⟩,
   ⟨some 21, .bin .lss (.t 18) (.t 20), some (16, true)⟩,
   ⟨some 22, .pick (.t 16) (.t 21) (.k (.bool false)), some (10, false)⟩,
   ⟨some 23, .pick (.t 10) (.k (.bool true)) (.t 22), none⟩,
   ⟨some 4, .mov (.t 23), none⟩] (some [4]))
 .ret))

theorem m30 : fmatch Try.prog Try.f30 2 [.tmp 4] v30 = true := by kernel_rfl

/-- steening/dowsers.open -/
def v31 : VC :=
 (.seq
 (.ops false [
   ⟨some 2, .box 2 5 (.t 0), none⟩,
   ⟨some 4, .mov (.k .nilp), none⟩,
   ⟨some 5, .mov (.k (.int 0)), none⟩] (some [1, 2]))
 (.seq
 (.seq
 (.ops false [
   ⟨some 7, .load 5 true (.t 2) [], none⟩,
   ⟨some 8, .call 44 [.t 7], none⟩,
   ⟨some 6, .mov (.t 8), none⟩] (some [1, 2, 6]))
 (.seq
 (.ops false [
   ⟨some 9, .mov (.t 6), none⟩,
   ⟨some 10, .bin .neq (.t 9) (.k (.int 0)), none⟩] (some [1, 2, 6, 10]))
 (.cond (.t 10)
  (.seq
  (.ops false [
    ⟨some 11, .mov (.t 6), none⟩,
    ⟨some 4, .mov (.k .nilp), none⟩,
    ⟨some 5, .mov (.t 11), none⟩] (some [4, 5]))
  .ret)
  .skip)))
 (.seq
 (.seq
 (.ops false [
   ⟨some 12, .mov (.t 1), none⟩,
   ⟨some 13, .not (.t 12), none⟩] (some [2, 13]))
 (.cond (.t 13)
  (.seq
  (.ops false [
    ⟨some 4, .mov (.k .nilp), none⟩,
    ⟨some 5, .mov (.k (.int 1)), none⟩] (some [4, 5]))
  .ret)
  .skip))
 (.seq
 (.ops false [
   ⟨some 14, .load 5 true (.t 2) [], none⟩,
   ⟨some 15, .build [.int 0, .sl 1 [] .sh, .int 0, .sl 4 [] .sh, .int 0] [(0, 5, .t 14)], none⟩,
   ⟨some 16, .box 16 5 (.t 15), none⟩,
   ⟨some 4, .mov (.t 16), none⟩,
   ⟨some 5, .mov (.k (.int 0)), none⟩] (some [4, 5]))
 .ret))))

theorem m31 : fmatch Try.prog Try.f31 2 [.tmp 4, .tmp 5] v31 = true := by kernel_rfl

/-- steening/dowsers.within -/
def v32 : VC :=
 (.seq
 (.ops false [
   ⟨some 6, .mov (.k (.bool false)), none⟩] (some [0, 1, 2]))
 (.seq
 (.ops false [
   ⟨some 7, .mov (.t 0), none⟩,
   ⟨some 8, .mov (.t 1), none⟩,
   ⟨some 9, .bin .geq (.t 7) (.t 8), none⟩,
   ⟨some 10, .mov (.t 9), none⟩,
   ⟨some 11, .mov (.t 0), some (10, true)⟩,
   ⟨some 12, .mov (.t 2), some (10, true)⟩,
   ⟨some 13, .bin .leq (.t 11) (.t 12), some (10, true)⟩,
   ⟨some 14, .pick (.t 10) (.t 13) (.k (.bool false)), none⟩,
   ⟨some 6, .mov (.t 14), none⟩] (some [6]))
 .ret))

theorem m32 : fmatch Try.prog Try.f32 3 [.tmp 6] v32 = true := by kernel_rfl

/-- (*steening/dowsers.book).isOpen -/
def v33 : VC :=
 (.seq
 (.ops false [
   ⟨some 3, .box 3 4 (.t 1), none⟩,
   ⟨some 4, .mov (.k (.bool false)), none⟩] (some [0, 3]))
 (.seq
 (.ops true [
   ⟨some 5, .mov (.t 0), none⟩,
   ⟨some 6, .nilck (.t 5), none⟩,
   ⟨some 7, .fld 0 (.t 6), none⟩,
   ⟨some 8, .fld 1 (.t 7), none⟩,
   ⟨some 9, .load 1 false (.t 8) [], none⟩,
   ⟨some 10, .fld 1 (.t 3), none⟩,
   ⟨some 11, .load 1 false (.t 10) [], none⟩,
   ⟨some 12, .idx 1 (.t 9) (.t 11), none⟩,
   ⟨some 13, .load 1 false (.t 12) [], none⟩,
   ⟨some 14, .bin .eql (.t 13) (.k (.int 0)), none⟩,
   ⟨some 4, .mov (.t 14), none⟩] (some [4]))
 .ret))

theorem m33 : fmatch Try.prog Try.f33 2 [.tmp 4] v33 = true := by kernel_rfl

/-- steening/dowsers.isDowser -/
def v34 : VC :=
 (.seq
 (.ops false [
   ⟨some 2, .box 2 5 (.t 0), none⟩,
   ⟨some 4, .mov (.k (.bool false)), none⟩] (some [1, 2]))
 (.seq
 (.ops false [
   ⟨some 5, .mov (.t 1), none⟩,
   ⟨some 6, .fld 2 (.t 2), none⟩,
   ⟨some 7, .load 1 false (.t 6) [], none⟩,
   ⟨some 8, .bin .sub (.t 7) (.k (.int 1)), none⟩,
   ⟨some 9, .call 32 [.t 5, .k (.int 0), .t 8], none⟩,
   ⟨some 4, .mov (.t 9), none⟩] (some [4]))
 .ret))

theorem m34 : fmatch Try.prog Try.f34 2 [.tmp 4] v34 = true := by kernel_rfl

/-- (*steening/dowsers.book).now -/
def v35 : VC :=
 (.seq
 (.ops false [
   ⟨some 2, .alloc 2 [.int 0, .int 0, .int 0, .int 0], none⟩] (some [0, 2]))
 (.seq
 (.seq
 (.ops false [
   ⟨some 5, .mov (.t 0), none⟩,
   ⟨some 6, .nilck (.t 5), none⟩,
   ⟨some 7, .fld 0 (.t 6), none⟩,
   ⟨some 8, .fld 3 (.t 7), none⟩,
   ⟨some 9, .load 1 false (.t 8) [], none⟩,
   ⟨some 10, .len (.t 9), none⟩,
   ⟨some 11, .mov (.k (.int 0)), none⟩] (some [0, 2, 9, 10, 11]))
 (.block 0
  (.loop
   (.seq
   (.ops false [
     ⟨some 12, .bin .lss (.t 11) (.t 10), none⟩] (some [0, 2, 9, 10, 11, 12]))
   (.seq
   (.cond (.t 12)
    .skip
    (.exit 0))
   (.seq
   (.block 1
    (.seq
    (.ops false [
      ⟨some 13, .idx 4 (.t 9) (.t 11), none⟩,
      ⟨some 14, .load 4 true (.t 13) [], none⟩,
      ⟨some 4, .alloc 4 [.int 0, .int 0, .int 0, .int 0], none⟩,
      ⟨none, .store 4 (.t 4) (.t 14) (some 4), none⟩] (some [0, 2, 4, 9, 10, 11]))
    (.seq
    (.ops false [
      ⟨some 15, .mov (.t 0), none⟩,
      ⟨some 16, .load 4 true (.t 4) [], none⟩,
      ⟨some 17, .call 33 [.t 15, .t 16], none⟩,
      ⟨some 18, .not (.t 17), none⟩] (some [0, 2, 4, 9, 10, 11, 18]))
    (.cond (.t 18)
     (.ops true [
       ⟨some 19, .fld 0 (.t 4), none⟩,
       ⟨some 20, .load 1 false (.t 19) [], none⟩,
       ⟨some 21, .idxA 4 1 (.t 2) (.t 20), none⟩,
       ⟨some 22, .load 1 false (.t 21) [], none⟩,
       ⟨some 23, .mov (.t 0), none⟩,
       ⟨some 24, .load 4 true (.t 4) [], none⟩,
       ⟨some 25, .mov (.t 0), none⟩,
       ⟨some 26, .nilck (.t 25), none⟩,
       ⟨some 27, .fld 0 (.t 26), none⟩,
       ⟨some 28, .fld 1 (.t 27), none⟩,
       ⟨some 29, .load 1 false (.t 28) [], none⟩,
       ⟨some 30, .fld 1 (.t 4), none⟩,
       ⟨some 31, .load 1 false (.t 30) [], none⟩,
       ⟨some 32, .idx 1 (.t 29) (.t 31), none⟩,
       ⟨some 33, .load 1 false (.t 32) [], none⟩,
       ⟨some 34, .call 45 [.t 23, .t 24, .t 33], none⟩,
       ⟨some 35, .bin .add (.t 22) (.t 34), none⟩,
       ⟨some 36, .idxA 4 1 (.t 2) (.t 20), none⟩,
       ⟨none, .store 1 (.t 36) (.t 35) (some 2), none⟩] (some [0, 2, 9, 10, 11]))
     .skip))))
   (.ops false [
     ⟨some 37, .bin .add (.t 11) (.k (.int 1)), none⟩,
     ⟨some 11, .mov (.t 37), none⟩] (some [0, 2, 9, 10, 11]))))))))
 (.seq
 (.ops false [
   ⟨some 38, .load 4 true (.t 2) [], none⟩,
   ⟨none, .store 4 (.t 2) (.t 38) (some 2), none⟩] (some [2]))
 .ret)))

theorem m35 : fmatch Try.prog Try.f35 1 [.cell 2 77] v35 = true := by kernel_rfl

/-- (*steening/dowsers.book).guessed -/
def v36 : VC :=
 (.seq
 (.ops false [
   ⟨some 4, .alloc 4 [.sl 1 [] .full, .int 0], none⟩,
   ⟨some 5, .mov (.k (.int 0)), none⟩] (some [0, 1, 4, 5]))
 (.seq
 (.ops false [
   ⟨some 8, .bslice 1 [.k (.int 1)], none⟩,
   ⟨some 9, .build [.sl 1 [] .sh, .int 0] [(0, 1, .t 8), (1, 1, .k (.int 1))], none⟩,
   ⟨none, .store 2 (.t 4) (.t 9) (some 4), none⟩] (some [0, 1, 4, 5]))
 (.seq
 (.seq
 (.ops false [
   ⟨some 10, .mov (.t 0), none⟩,
   ⟨some 11, .nilck (.t 10), none⟩,
   ⟨some 12, .fld 0 (.t 11), none⟩,
   ⟨some 13, .fld 3 (.t 12), none⟩,
   ⟨some 14, .load 1 false (.t 13) [], none⟩,
   ⟨some 15, .len (.t 14), none⟩,
   ⟨some 16, .mov (.k (.int 0)), none⟩] (some [0, 1, 4, 5, 14, 15, 16]))
 (.block 0
  (.loop
   (.seq
   (.ops false [
     ⟨some 17, .bin .lss (.t 16) (.t 15), none⟩] (some [0, 1, 4, 5, 14, 15, 16, 17]))
   (.seq
   (.cond (.t 17)
    .skip
    (.exit 0))
   (.seq
   (.block 1
    (.seq
    (.ops false [
      ⟨some 18, .idx 4 (.t 14) (.t 16), none⟩,
      ⟨some 19, .load 4 true (.t 18) [], none⟩,
      ⟨some 7, .alloc 7 [.int 0, .int 0, .int 0, .int 0], none⟩,
      ⟨none, .store 4 (.t 7) (.t 19) (some 7), none⟩] (some [0, 1, 4, 5, 7, 14, 15, 16]))
    (.seq
    (.seq
    (.ops false [
      ⟨some 20, .fld 0 (.t 7), none⟩,
      ⟨some 21, .load 1 false (.t 20) [], none⟩,
      ⟨some 22, .mov (.t 1), none⟩,
      ⟨some 23, .bin .neq (.t 21) (.t 22), none⟩,
      ⟨some 24, .mov (.t 23), none⟩,
      ⟨some 25, .mov (.t 0), some (24, false)⟩,
      ⟨some 26, .load 4 true (.t 7) [], some (24, false)⟩,
      ⟨some 27, .call 33 [.t 25, .t 26], some (24, false)⟩,
      ⟨some 28, .pick (.t 24) (.k (.bool true)) (.t 27), none⟩] (some [0, 1, 4, 5, 7, 14, 15, 16, 28]))
    (.cond (.t 28)
     (.exit 1)
     .skip))
    (.seq
    (.ops true [
      ⟨some 29, .load 2 true (.t 4) [], none⟩,
      ⟨some 30, .load 4 true (.t 7) [4], none⟩,
      ⟨some 31, .call 47 [.t 30], none⟩,
      ⟨some 32, .mov (.t 0), none⟩,
      ⟨some 33, .nilck (.t 32), none⟩,
      ⟨some 34, .fld 0 (.t 33), none⟩,
      ⟨some 35, .fld 0 (.t 34), none⟩,
      ⟨some 36, .load 1 false (.t 35) [4], none⟩,
      ⟨some 37, .call 46 [.t 29, .t 31, .t 36], none⟩,
      ⟨none, .store 2 (.t 4) (.t 37) (some 4), none⟩] (some [0, 1, 4, 5, 7, 14, 15, 16]))
    (.seq
    (.ops true [
      ⟨some 38, .mov (.t 0), none⟩,
      ⟨some 39, .nilck (.t 38), none⟩,
      ⟨some 40, .fld 0 (.t 39), none⟩,
      ⟨some 41, .fld 1 (.t 40), none⟩,
      ⟨some 42, .load 1 false (.t 41) [], none⟩,
      ⟨some 43, .fld 1 (.t 7), none⟩,
      ⟨some 44, .load 1 false (.t 43) [], none⟩,
      ⟨some 45, .idx 1 (.t 42) (.t 44), none⟩,
      ⟨some 46, .load 1 false (.t 45) [], none⟩,
      ⟨some 47, .fld 2 (.t 7), none⟩,
      ⟨some 48, .load 1 false (.t 47) [], none⟩,
      ⟨some 49, .fld 3 (.t 7), none⟩,
      ⟨some 50, .load 1 false (.t 49) [], none⟩,
      ⟨some 51, .call 32 [.t 46, .t 48, .t 50], none⟩] (some [0, 1, 4, 5, 14, 15, 16, 51]))
    (.cond (.t 51)
     (.ops false [
       ⟨some 52, .mov (.t 5), none⟩,
       ⟨some 53, .bin .add (.t 52) (.k (.int 1)), none⟩,
       ⟨some 5, .mov (.t 53), none⟩] (some [0, 1, 4, 5, 14, 15, 16]))
     .skip))))))
   (.ops false [
     ⟨some 54, .bin .add (.t 16) (.k (.int 1)), none⟩,
     ⟨some 16, .mov (.t 54), none⟩] (some [0, 1, 4, 5, 14, 15, 16]))))))))
 (.seq
 (.ops false [
   ⟨some 55, .load 2 true (.t 4) [], none⟩,
   ⟨some 56, .mov (.t 5), none⟩,
   ⟨none, .store 2 (.t 4) (.t 55) (some 4), none⟩,
   ⟨some 5, .mov (.t 56), none⟩] (some [4, 5]))
 .ret))))

theorem m36 : fmatch Try.prog Try.f36 2 [.cell 4 80, .tmp 5] v36 = true := by kernel_rfl

/-- (steening/dowsers.guess).chance -/
def v37 : VC :=
 (.seq
 (.ops false [
   ⟨some 2, .box 2 2 (.t 0), none⟩,
   ⟨some 4, .alloc 4 [.int 0, .int 0], none⟩] (some [1, 2, 4]))
 (.seq
 (.ops false [
   ⟨some 5, .mov (.k (.int 0)), none⟩] (some [1, 2, 4, 5]))
 (.seq
 (.seq
 (.ops false [
   ⟨some 10, .fld 0 (.t 2), none⟩,
   ⟨some 11, .load 1 false (.t 10) [], none⟩,
   ⟨some 12, .mov (.t 1), none⟩,
   ⟨some 13, .slice 1 (.t 11) (some (.t 12)) none, none⟩,
   ⟨some 14, .len (.t 13), none⟩,
   ⟨some 15, .mov (.k (.int 0)), none⟩] (some [2, 4, 5, 13, 14, 15]))
 (.block 0
  (.loop
   (.seq
   (.ops false [
     ⟨some 16, .bin .lss (.t 15) (.t 14), none⟩] (some [2, 4, 5, 13, 14, 15, 16]))
   (.seq
   (.cond (.t 16)
    .skip
    (.exit 0))
   (.seq
   (.block 1
    (.seq
    (.ops false [
      ⟨some 17, .idx 1 (.t 13) (.t 15), none⟩,
      ⟨some 18, .load 1 false (.t 17) [], none⟩,
      ⟨some 7, .mov (.t 18), none⟩] (some [2, 4, 5, 7, 13, 14, 15]))
    (.ops false [
      ⟨some 19, .mov (.t 5), none⟩,
      ⟨some 20, .mov (.t 7), none⟩,
      ⟨some 21, .bin .add (.t 19) (.t 20), none⟩,
      ⟨some 5, .mov (.t 21), none⟩] (some [2, 4, 5, 13, 14, 15]))))
   (.ops false [
     ⟨some 22, .bin .add (.t 15) (.k (.int 1)), none⟩,
     ⟨some 15, .mov (.t 22), none⟩] (some [2, 4, 5, 13, 14, 15]))))))))
 (.seq
 (.ops true [
   ⟨some 23, .mov (.t 5), none⟩,
   ⟨some 24, .fld 1 (.t 2), none⟩,
   ⟨some 25, .load 1 false (.t 24) [], none⟩,
   ⟨some 8, .mov (.t 23), none⟩,
   ⟨some 9, .mov (.t 25), none⟩] (some [2, 4, 5, 8, 9]))
 (.seq
 (.block 2
  (.loop
   (.seq
   (.seq
   (.ops false [
     ⟨some 26, .mov (.t 9), none⟩,
     ⟨some 27, .bin .neq (.t 26) (.k (.int 0)), none⟩] (some [2, 4, 5, 8, 9, 27]))
   (.cond (.t 27)
    .skip
    (.exit 2)))
   (.block 3
    (.ops true [
      ⟨some 28, .mov (.t 9), none⟩,
      ⟨some 29, .mov (.t 8), none⟩,
      ⟨some 30, .mov (.t 9), none⟩,
      ⟨some 31, .bin .rem (.t 29) (.t 30), none⟩,
      ⟨some 8, .mov (.t 28), none⟩,
      ⟨some 9, .mov (.t 31), none⟩] (some [2, 4, 5, 8, 9]))))))
 (.seq
 (.ops true [
   ⟨some 32, .mov (.t 5), none⟩,
   ⟨some 33, .mov (.t 8), none⟩,
   ⟨some 34, .bin .quo (.t 32) (.t 33), none⟩,
   ⟨some 35, .fld 1 (.t 2), none⟩,
   ⟨some 36, .load 1 false (.t 35) [4], none⟩,
   ⟨some 37, .mov (.t 8), none⟩,
   ⟨some 38, .bin .quo (.t 36) (.t 37), none⟩,
   ⟨some 39, .build [.int 0, .int 0] [(0, 1, .t 34), (1, 1, .t 38)], none⟩,
   ⟨none, .store 2 (.t 4) (.t 39) (some 4), none⟩] (some [4]))
 .ret))))))

theorem m37 : fmatch Try.prog Try.f37 2 [.cell 4 49] v37 = true := by kernel_rfl

/-- (*steening/dowsers.book).leads -/
def v38 : VC :=
 (.seq
 (.ops false [
   ⟨some 4, .mov (.k (.int 0)), none⟩] (some [0, 1]))
 (.seq
 (.ops false [
   ⟨some 6, .mov (.t 0), none⟩,
   ⟨some 7, .mov (.t 1), none⟩,
   ⟨some 8, .call 48 [.t 6, .t 7], none⟩,
   ⟨some 5, .mov (.t 8), none⟩] (some [5]))
 (.seq
 (.block 0
  (.seq
  (.ops false [
    ⟨some 10, .mov (.t 5), none⟩,
    ⟨some 11, .call 49 [.t 10], none⟩,
    ⟨some 9, .mov (.t 11), none⟩] (some [5, 9]))
  (.cond (.t 9)
   (.seq
   (.ops false [
     ⟨some 4, .mov (.k (.int 1)), none⟩] (some [4]))
   .ret)
   (.seq
   (.ops false [
     ⟨some 13, .mov (.t 5), none⟩,
     ⟨some 14, .build [.int 0, .int 0, .int 0, .int 0, .int 0] [], none⟩,
     ⟨some 15, .mmake 100 5, none⟩,
     ⟨some 16, .calli 50 [.t 13, .t 14, .t 15], none⟩,
     ⟨some 12, .mov (.t 16), none⟩] (some [12]))
   (.cond (.t 12)
    (.seq
    (.ops false [
      ⟨some 4, .mov (.k (.int 3)), none⟩] (some [4]))
    .ret)
    .skip)))))
 (.seq
 (.ops false [
   ⟨some 4, .mov (.k (.int 2)), none⟩] (some [4]))
 .ret))))

theorem m38 : fmatch Try.prog Try.f38 2 [.tmp 4] v38 = true := by kernel_rfl

/-- steening/levels.ends -/
def v39 : VC :=
 (.seq
 (.ops false [
   ⟨some 2, .box 2 3 (.t 0), none⟩,
   ⟨some 3, .box 3 1 (.t 1), none⟩,
   ⟨some 4, .nils 4 1, none⟩,
   ⟨some 5, .mov (.k (.int 0)), none⟩] (some [2, 3]))
 (.seq
 (.ops false [
   ⟨some 12, .load 3 true (.t 2) [], none⟩,
   ⟨some 13, .call 41 [.t 12, .k (.bool true)], none⟩,
   ⟨some 11, .mov (.t 13), none⟩,
   ⟨some 14, .ext (.t 11) 0, none⟩,
   ⟨some 15, .ext (.t 11) 1, none⟩,
   ⟨some 6, .mov (.t 14), none⟩,
   ⟨some 7, .mov (.t 15), none⟩] (some [2, 3, 6, 7]))
 (.seq
 (.seq
 (.ops false [
   ⟨some 16, .mov (.t 7), none⟩,
   ⟨some 17, .bin .neq (.t 16) (.k (.int 0)), none⟩] (some [2, 3, 6, 7, 17]))
 (.cond (.t 17)
  (.seq
  (.ops false [
    ⟨some 18, .mov (.t 7), none⟩,
    ⟨some 4, .nils 501 1, none⟩,
    ⟨some 5, .mov (.t 18), none⟩] (some [4, 5]))
  .ret)
  .skip))
 (.seq
 (.ops false [
   ⟨some 8, .alloc 8 [.sl 1 [] .full], none⟩] (some [2, 3, 6, 8]))
 (.seq
 (.seq
 (.ops false [
   ⟨some 19, .mov (.t 6), none⟩,
   ⟨some 20, .fld 0 (.t 2), none⟩,
   ⟨some 21, .load 1 false (.t 20) [], none⟩,
   ⟨some 22, .call 51 [.t 19, .t 21], none⟩] (some [3, 8, 22]))
 (.block 0
  (.range (.t 22) [23, 24]
   (.ops false [
     ⟨some 10, .alloc 10 [.int 0, .int 0], none⟩,
     ⟨none, .store 2 (.t 10) (.t 24) (some 10), none⟩] (some [3, 8, 10]))
   (.block 1
    (.ops true [
      ⟨some 25, .load 1 false (.t 8) [], none⟩,
      ⟨some 26, .load 1 false (.t 3) [8], none⟩,
      ⟨some 27, .load 2 true (.t 10) [8], none⟩,
      ⟨some 28, .callv (.t 26) [.t 27], none⟩,
      ⟨some 29, .bslice 1 [.t 28], none⟩,
      ⟨some 30, .app 30 1 8 (.t 25) (.t 29), none⟩,
      ⟨none, .store 1 (.t 8) (.t 30) (some 8), none⟩] (some []))))))
 (.seq
 (.ops false [
   ⟨some 31, .load 1 false (.t 8) [], none⟩,
   ⟨some 4, .mov (.t 31), none⟩,
   ⟨some 5, .mov (.k (.int 0)), none⟩] (some [4, 5]))
 .ret))))))

theorem m39 : fmatch Try.prog Try.f39 2 [.tmp 4, .tmp 5] v39 = true := by kernel_rfl

/-- steening/levels.Highest$1 -/
def v40 : VC :=
 (.seq
 (.ops false [
   ⟨some 1, .box 1 2 (.t 0), none⟩,
   ⟨some 2, .mov (.k (.int 0)), none⟩] (some [1]))
 (.seq
 (.ops false [
   ⟨some 3, .fld 1 (.t 1), none⟩,
   ⟨some 4, .load 1 false (.t 3) [], none⟩,
   ⟨some 2, .mov (.t 4), none⟩] (some [2]))
 .ret))

theorem m40 : fmatch Try.prog Try.f40 1 [.tmp 2] v40 = true := by kernel_rfl

/-- steening/levels.open -/
def v41 : VC :=
 (.seq
 (.ops false [
   ⟨some 2, .box 2 3 (.t 0), none⟩,
   ⟨some 4, .mov (.k .nilp), none⟩,
   ⟨some 5, .mov (.k (.int 0)), none⟩] (some [1, 2]))
 (.seq
 (.seq
 (.ops false [
   ⟨some 9, .load 3 true (.t 2) [], none⟩,
   ⟨some 10, .call 52 [.t 9], none⟩,
   ⟨some 6, .mov (.t 10), none⟩] (some [1, 2, 6]))
 (.seq
 (.ops false [
   ⟨some 11, .mov (.t 6), none⟩,
   ⟨some 12, .bin .neq (.t 11) (.k (.int 0)), none⟩] (some [1, 2, 6, 12]))
 (.cond (.t 12)
  (.seq
  (.ops false [
    ⟨some 13, .mov (.t 6), none⟩,
    ⟨some 4, .mov (.k .nilp), none⟩,
    ⟨some 5, .mov (.t 13), none⟩] (some [4, 5]))
  .ret)
  .skip)))
 (.seq
 (.seq
 (.ops false [
   ⟨some 14, .mov (.t 1), none⟩,
   ⟨some 15, .not (.t 14), none⟩] (some [2, 15]))
 (.cond (.t 15)
  (.seq
  (.ops false [
    ⟨some 4, .mov (.k .nilp), none⟩,
    ⟨some 5, .mov (.k (.int 1)), none⟩] (some [4, 5]))
  .ret)
  .skip))
 (.seq
 (.ops false [
   ⟨some 17, .load 3 true (.t 2) [], none⟩,
   ⟨some 18, .call 53 [.t 17, .k (.clo 54 [] [])], none⟩,
   ⟨some 16, .mov (.t 18), none⟩,
   ⟨some 19, .ext (.t 16) 0, none⟩,
   ⟨some 20, .ext (.t 16) 1, none⟩,
   ⟨some 7, .mov (.t 19), none⟩,
   ⟨some 8, .mov (.t 20), none⟩] (some [7, 8]))
 (.seq
 (.seq
 (.ops false [
   ⟨some 21, .mov (.t 8), none⟩,
   ⟨some 22, .not (.t 21), none⟩] (some [7, 22]))
 (.cond (.t 22)
  (.seq
  (.ops false [
    ⟨some 4, .mov (.k .nilp), none⟩,
    ⟨some 5, .mov (.k (.int 3)), none⟩] (some [4, 5]))
  .ret)
  .skip))
 (.seq
 (.ops false [
   ⟨some 23, .mov (.t 7), none⟩,
   ⟨some 4, .mov (.t 23), none⟩,
   ⟨some 5, .mov (.k (.int 0)), none⟩] (some [4, 5]))
 .ret))))))

theorem m41 : fmatch Try.prog Try.f41 2 [.tmp 4, .tmp 5] v41 = true := by kernel_rfl

/-- steening/levels.isWell -/
def v42 : VC :=
 (.seq
 (.ops false [
   ⟨some 2, .box 2 3 (.t 0), none⟩,
   ⟨some 4, .mov (.k (.bool false)), none⟩] (some [1, 2]))
 (.seq
 (.ops false [
   ⟨some 5, .mov (.t 1), none⟩,
   ⟨some 6, .fld 0 (.t 2), none⟩,
   ⟨some 7, .load 1 false (.t 6) [], none⟩,
   ⟨some 8, .bin .sub (.t 7) (.k (.int 1)), none⟩,
   ⟨some 9, .call 55 [.t 5, .k (.int 0), .t 8], none⟩,
   ⟨some 4, .mov (.t 9), none⟩] (some [4]))
 .ret))

theorem m42 : fmatch Try.prog Try.f42 2 [.tmp 4] v42 = true := by kernel_rfl

/-- (*steening/levels.bounds).span -/
def v43 : VC :=
 (.seq
 (.ops false [
   ⟨some 6, .alloc 6 [.int 0, .int 0], none⟩] (some [0, 1, 2, 6]))
 (.seq
 (.ops true [
   ⟨some 7, .mov (.t 0), none⟩,
   ⟨some 8, .mov (.t 2), none⟩,
   ⟨some 9, .mov (.t 1), none⟩,
   ⟨some 10, .nilck (.t 7), none⟩,
   ⟨some 11, .idxA 7 7 (.t 10) (.t 8), none⟩,
   ⟨some 12, .idxA 7 1 (.t 11) (.t 9), none⟩,
   ⟨some 13, .load 1 false (.t 12) [6], none⟩,
   ⟨some 14, .neg (.t 13), none⟩,
   ⟨some 15, .mov (.t 0), none⟩,
   ⟨some 16, .mov (.t 1), none⟩,
   ⟨some 17, .mov (.t 2), none⟩,
   ⟨some 18, .nilck (.t 15), none⟩,
   ⟨some 19, .idxA 7 7 (.t 18) (.t 16), none⟩,
   ⟨some 20, .idxA 7 1 (.t 19) (.t 17), none⟩,
   ⟨some 21, .load 1 false (.t 20) [6], none⟩,
   ⟨some 22, .build [.int 0, .int 0] [(0, 1, .t 14), (1, 1, .t 21)], none⟩,
   ⟨none, .store 2 (.t 6) (.t 22) (some 6), none⟩] (some [6]))
 .ret))

theorem m43 : fmatch Try.prog Try.f43 3 [.cell 6 67] v43 = true := by kernel_rfl

/-- steening/dowsers.Check -/
def v44 : VC :=
 (.seq
 (.ops false [
   ⟨some 1, .box 1 5 (.t 0), none⟩,
   ⟨some 2, .mov (.k (.int 0)), none⟩] (some [1]))
 (.seq
 (.seq
 (.ops false [
   ⟨some 7, .fld 0 (.t 1), none⟩,
   ⟨some 8, .load 1 false (.t 7) [], none⟩,
   ⟨some 9, .call 32 [.t 8, .k (.int 1), .k (.int 12)], none⟩,
   ⟨some 10, .not (.t 9), none⟩,
   ⟨some 11, .mov (.t 10), none⟩,
   ⟨some 12, .fld 1 (.t 1), some (11, false)⟩,
   ⟨some 13, .load 1 false (.t 12) [], some (11, false)⟩,
   ⟨some 14, .len (.t 13), some (11, false)⟩,
   ⟨some 15, .bin .gtr (.t 14) (.k (.int 6)), some (11, false)⟩,
   ⟨some 16, .pick (.t 11) (.k (.bool true)) (.t 15), none⟩,
   ⟨some 17, .mov (.t 16), none⟩,
   ⟨some 18, .fld 2 (.t 1), some (17, false)⟩,
   ⟨some 19, .load 1 false (.t 18) [], some (17, false)⟩,
   ⟨some 20, .call 32 [.t 19, .k (.int 0), .k (.int 4)], some (17, false)⟩,
   ⟨some 21, .not (.t 20), some (17, false)⟩,
   ⟨some 22, .pick (.t 17) (.k (.bool true)) (.t 21), none⟩,
   ⟨some 23, .mov (.t 22), none⟩,
   ⟨some 24, .fld 4 (.t 1), some (23, false)⟩,
   ⟨some 25, .load 1 false (.t 24) [], some (23, false)⟩,
   ⟨some 26, .call 32 [.t 25, .k (.int 0), .k (.int 999)], some (23, false)⟩,
   ⟨some 27, .not (.t 26), some (23, false)⟩,
   ⟨some 28, .pick (.t 23) (.k (.bool true)) (.t 27), none⟩] (some [1, 28]))
 (.cond (.t 28)
  (.seq
  (.ops false [
    ⟨some 2, .mov (.k (.int 40)), none⟩] (some [2]))
  .ret)
  .skip))
 (.seq
 (.seq
 (.ops false [
   ⟨some 29, .fld 1 (.t 1), none⟩,
   ⟨some 30, .load 1 false (.t 29) [], none⟩,
   ⟨some 31, .len (.t 30), none⟩,
   ⟨some 32, .mov (.k (.int 0)), none⟩] (some [1, 30, 31, 32]))
 (.block 0
  (.loop
   (.seq
   (.ops false [
     ⟨some 33, .bin .lss (.t 32) (.t 31), none⟩] (some [1, 30, 31, 32, 33]))
   (.seq
   (.cond (.t 33)
    .skip
    (.exit 0))
   (.seq
   (.block 1
    (.seq
    (.ops false [
      ⟨some 34, .idx 1 (.t 30) (.t 32), none⟩,
      ⟨some 35, .load 1 false (.t 34) [], none⟩,
      ⟨some 4, .mov (.t 35), none⟩] (some [1, 4, 30, 31, 32]))
    (.seq
    (.ops false [
      ⟨some 36, .mov (.t 4), none⟩,
      ⟨some 37, .fld 0 (.t 1), none⟩,
      ⟨some 38, .load 1 false (.t 37) [], none⟩,
      ⟨some 39, .call 32 [.t 36, .k (.int 0), .t 38], none⟩,
      ⟨some 40, .not (.t 39), none⟩] (some [1, 30, 31, 32, 40]))
    (.cond (.t 40)
     (.seq
     (.ops false [
       ⟨some 2, .mov (.k (.int 40)), none⟩] (some [2]))
     .ret)
     .skip))))
   (.ops false [
     ⟨some 41, .bin .add (.t 32) (.k (.int 1)), none⟩,
     ⟨some 32, .mov (.t 41), none⟩] (some [1, 30, 31, 32]))))))))
 (.seq
 (.seq
 (.ops false [
   ⟨some 42, .fld 3 (.t 1), none⟩,
   ⟨some 43, .load 1 false (.t 42) [], none⟩,
   ⟨some 44, .len (.t 43), none⟩,
   ⟨some 45, .mov (.k (.int 0)), none⟩] (some [1, 43, 44, 45]))
 (.block 2
  (.loop
   (.seq
   (.ops false [
     ⟨some 46, .bin .lss (.t 45) (.t 44), none⟩] (some [1, 43, 44, 45, 46]))
   (.seq
   (.cond (.t 46)
    .skip
    (.exit 2))
   (.seq
   (.block 3
    (.seq
    (.ops false [
      ⟨some 47, .mov (.t 45), none⟩,
      ⟨some 48, .idx 4 (.t 43) (.t 45), none⟩,
      ⟨some 49, .load 4 true (.t 48) [], none⟩,
      ⟨some 6, .alloc 6 [.int 0, .int 0, .int 0, .int 0], none⟩,
      ⟨some 5, .mov (.t 47), none⟩,
      ⟨none, .store 4 (.t 6) (.t 49) (some 6), none⟩] (some [1, 5, 6, 43, 44, 45]))
    (.seq
    (.seq
    (.ops false [
      ⟨some 50, .fld 0 (.t 6), none⟩,
      ⟨some 51, .load 1 false (.t 50) [], none⟩,
      ⟨some 52, .fld 2 (.t 1), none⟩,
      ⟨some 53, .load 1 false (.t 52) [], none⟩,
      ⟨some 54, .bin .sub (.t 53) (.k (.int 1)), none⟩,
      ⟨some 55, .call 32 [.t 51, .k (.int 0), .t 54], none⟩,
      ⟨some 56, .not (.t 55), none⟩,
      ⟨some 57, .mov (.t 56), none⟩,
      ⟨some 58, .fld 1 (.t 6), some (57, false)⟩,
      ⟨some 59, .load 1 false (.t 58) [], some (57, false)⟩,
      ⟨some 60, .fld 1 (.t 1), some (57, false)⟩,
      ⟨some 61, .load 1 false (.t 60) [], some (57, false)⟩,
      ⟨some 62, .len (.t 61), some (57, false)⟩,
      ⟨some 63, .bin .sub (.t 62) (.k (.int 1)), some (57, false)⟩,
      ⟨some 64, .call 32 [.t 59, .k (.int 0), .t 63], some (57, false)⟩,
      ⟨some 65, .not (.t 64), some (57, false)⟩,
      ⟨some 66, .pick (.t 57) (.k (.bool true)) (.t 65), none⟩,
      ⟨some 67, .mov (.t 66), none⟩,
      ⟨some 68, .fld 3 (.t 6), some (67, false)⟩,
      ⟨some 69, .load 1 false (.t 68) [], some (67, false)⟩,
      ⟨some 70, .fld 0 (.t 1), some (67, false)⟩,
      ⟨some 71, .load 1 false (.t 70) [], some (67, false)⟩,
      ⟨some 72, .call 32 [.t 69, .k (.int 1), .t 71], some (67, false)⟩,
      ⟨some 73, .not (.t 72), some (67, false)⟩,
      ⟨some 74, .pick (.t 67) (.k (.bool true)) (.t 73), none⟩,
      ⟨some 75, .mov (.t 74), none⟩,
      ⟨some 76, .fld 2 (.t 6), some (75, false)⟩,
      ⟨some 77, .load 1 false (.t 76) [], some (75, false)⟩,
      ⟨some 78, .fld 3 (.t 6), some (75, false)⟩,
      ⟨some 79, .load 1 false (.t 78) [], some (75, false)⟩,
      ⟨some 80, .call 32 [.t 77, .k (.int 1), .t 79], some (75, false)⟩,
      ⟨some 81, .not (.t 80), some (75, false)⟩,
      ⟨some 82, .pick (.t 75) (.k (.bool true)) (.t 81), none⟩] (some [1, 5, 6, 43, 44, 45, 82]))
    (.cond (.t 82)
     (.seq
     (.ops false [
       ⟨some 2, .mov (.k (.int 40)), none⟩] (some [2]))
     .ret)
     .skip))
    (.seq
    (.ops true [
      ⟨some 83, .mov (.t 5), none⟩,
      ⟨some 84, .bin .gtr (.t 83) (.k (.int 0)), none⟩,
      ⟨some 85, .mov (.t 84), none⟩,
      ⟨some 86, .fld 3 (.t 1), some (85, true)⟩,
      ⟨some 87, .load 1 false (.t 86) [], some (85, true)⟩,
      ⟨some 88, .mov (.t 5), some (85, true)⟩,
      ⟨some 89, .bin .sub (.t 88) (.k (.int 1)), some (85, true)⟩,
      ⟨some 90, .idx 4 (.t 87) (.t 89), some (85, true)⟩,
      ⟨some 91, .load 4 true (.t 90) [], some (85, true)⟩,
      ⟨some 92, .load 4 true (.t 6) [], some (85, true)⟩,
      ⟨some 93, .call 56 [.t 91, .t 92], some (85, true)⟩,
      ⟨some 94, .bin .geq (.t 93) (.k (.int 0)), some (85, true)⟩,
      ⟨some 95, .pick (.t 85) (.t 94) (.k (.bool false)), none⟩] (some [1, 43, 44, 45, 95]))
    (.cond (.t 95)
     (.seq
     (.ops false [
       ⟨some 2, .mov (.k (.int 40)), none⟩] (some [2]))
     .ret)
     .skip)))))
   (.ops false [
     ⟨some 96, .bin .add (.t 45) (.k (.int 1)), none⟩,
     ⟨some 45, .mov (.t 96), none⟩] (some [1, 43, 44, 45]))))))))
 (.seq
 (.ops false [
   ⟨some 2, .mov (.k (.int 0)), none⟩] (some [2]))
 .ret)))))

theorem m44 : fmatch Try.prog Try.f44 1 [.tmp 2] v44 = true := by kernel_rfl

/-- (*steening/dowsers.book).points -/
def v45 : VC :=
 (.seq
 (.ops false [
   ⟨some 4, .box 4 4 (.t 1), none⟩,
   ⟨some 6, .mov (.k (.int 0)), none⟩] (some [0, 2, 4]))
 (.seq
 (.seq
 (.ops false [
   ⟨some 7, .mov (.t 2), none⟩,
   ⟨some 8, .fld 2 (.t 4), none⟩,
   ⟨some 9, .load 1 false (.t 8) [], none⟩,
   ⟨some 10, .fld 3 (.t 4), none⟩,
   ⟨some 11, .load 1 false (.t 10) [], none⟩,
   ⟨some 12, .call 32 [.t 7, .t 9, .t 11], none⟩] (some [0, 4, 12]))
 (.cond (.t 12)
  (.seq
  (.ops true [
    ⟨some 13, .mov (.t 0), none⟩,
    ⟨some 14, .nilck (.t 13), none⟩,
    ⟨some 15, .fld 0 (.t 14), none⟩,
    ⟨some 16, .fld 0 (.t 15), none⟩,
    ⟨some 17, .load 1 false (.t 16) [], none⟩,
    ⟨some 18, .load 4 true (.t 4) [], none⟩,
    ⟨some 19, .call 47 [.t 18], none⟩,
    ⟨some 20, .bin .sub (.t 17) (.t 19), none⟩,
    ⟨some 6, .mov (.t 20), none⟩] (some [6]))
  .ret)
  .skip))
 (.seq
 (.ops false [
   ⟨some 21, .load 4 true (.t 4) [], none⟩,
   ⟨some 22, .call 47 [.t 21], none⟩,
   ⟨some 23, .neg (.t 22), none⟩,
   ⟨some 6, .mov (.t 23), none⟩] (some [6]))
 .ret)))

theorem m45 : fmatch Try.prog Try.f45 3 [.tmp 6] v45 = true := by kernel_rfl

/-- steening/dowsers.width -/
def v47 : VC :=
 (.seq
 (.ops false [
   ⟨some 1, .box 1 4 (.t 0), none⟩,
   ⟨some 2, .mov (.k (.int 0)), none⟩] (some [1]))
 (.seq
 (.ops false [
   ⟨some 3, .fld 3 (.t 1), none⟩,
   ⟨some 4, .load 1 false (.t 3) [], none⟩,
   ⟨some 5, .fld 2 (.t 1), none⟩,
   ⟨some 6, .load 1 false (.t 5) [], none⟩,
   ⟨some 7, .bin .sub (.t 4) (.t 6), none⟩,
   ⟨some 8, .bin .add (.t 7) (.k (.int 1)), none⟩,
   ⟨some 2, .mov (.t 8), none⟩] (some [2]))
 .ret))

theorem m47 : fmatch Try.prog Try.f47 1 [.tmp 2] v47 = true := by kernel_rfl

/-- (*steening/dowsers.book).run -/
def v48 : VC :=
 (.seq
 (.ops false [
   ⟨some 4, .mov (.k .nilp), none⟩] (some [0, 1]))
 (.seq
 (.ops false [
   ⟨some 12, .mov (.t 0), none⟩,
   ⟨some 13, .mov (.t 1), none⟩,
   ⟨some 14, .build [.und, .int 0, .sl 1 [] .full, .sl 4 [] .full] [(0, 1, .t 12), (1, 1, .t 13)], none⟩,
   ⟨some 15, .box 15 4 (.t 14), none⟩,
   ⟨some 5, .mov (.t 15), none⟩] (some [0, 1, 5]))
 (.seq
 (.seq
 (.ops false [
   ⟨some 16, .mov (.t 0), none⟩,
   ⟨some 17, .nilck (.t 16), none⟩,
   ⟨some 18, .fld 0 (.t 17), none⟩,
   ⟨some 19, .fld 1 (.t 18), none⟩,
   ⟨some 20, .load 1 false (.t 19) [], none⟩,
   ⟨some 21, .len (.t 20), none⟩,
   ⟨some 22, .mov (.k (.int 0)), none⟩] (some [0, 1, 5, 21, 22]))
 (.block 0
  (.loop
   (.seq
   (.ops false [
     ⟨some 23, .bin .lss (.t 22) (.t 21), none⟩] (some [0, 1, 5, 21, 22, 23]))
   (.seq
   (.cond (.t 23)
    .skip
    (.exit 0))
   (.seq
   (.block 1
    (.seq
    (.ops false [
      ⟨some 24, .mov (.t 22), none⟩,
      ⟨some 6, .mov (.t 24), none⟩] (some [0, 1, 5, 6, 21, 22]))
    (.ops true [
      ⟨some 25, .mov (.t 5), none⟩,
      ⟨some 26, .mov (.t 5), none⟩,
      ⟨some 27, .nilck (.t 26), none⟩,
      ⟨some 28, .fld 2 (.t 27), none⟩,
      ⟨some 29, .load 1 false (.t 28) [], none⟩,
      ⟨some 30, .mov (.t 0), none⟩,
      ⟨some 31, .mov (.t 6), none⟩,
      ⟨some 32, .call 57 [.t 30, .t 31], none⟩,
      ⟨some 33, .bslice 1 [.t 32], none⟩,
      ⟨some 34, .app 34 1 24 (.t 29) (.t 33), none⟩,
      ⟨some 35, .nilck (.t 25), none⟩,
      ⟨some 36, .fld 2 (.t 35), none⟩,
      ⟨none, .store 1 (.t 36) (.t 34) none, none⟩] (some [0, 1, 5, 21, 22]))))
   (.ops false [
     ⟨some 37, .bin .add (.t 22) (.k (.int 1)), none⟩,
     ⟨some 22, .mov (.t 37), none⟩] (some [0, 1, 5, 21, 22]))))))))
 (.seq
 (.ops false [
   ⟨some 38, .mov (.t 5), none⟩,
   ⟨some 39, .mov (.t 0), none⟩,
   ⟨some 40, .nilck (.t 39), none⟩,
   ⟨some 41, .fld 0 (.t 40), none⟩,
   ⟨some 42, .fld 1 (.t 41), none⟩,
   ⟨some 43, .load 1 false (.t 42) [], none⟩,
   ⟨some 44, .len (.t 43), none⟩,
   ⟨some 45, .bin .add (.t 44) (.k (.int 1)), none⟩,
   ⟨some 46, .makes 46 4 32 true [.int 0, .int 0, .int 0, .int 0] (.t 45), none⟩,
   ⟨some 47, .nilck (.t 38), none⟩,
   ⟨some 48, .fld 3 (.t 47), none⟩,
   ⟨none, .store 1 (.t 48) (.t 46) none, none⟩] (some [0, 1, 5]))
 (.seq
 (.seq
 (.ops false [
   ⟨some 49, .mov (.t 0), none⟩,
   ⟨some 50, .nilck (.t 49), none⟩,
   ⟨some 51, .fld 0 (.t 50), none⟩,
   ⟨some 52, .fld 1 (.t 51), none⟩,
   ⟨some 53, .load 1 false (.t 52) [], none⟩,
   ⟨some 54, .len (.t 53), none⟩,
   ⟨some 55, .bin .sub (.t 54) (.k (.int 1)), none⟩,
   ⟨some 7, .mov (.t 55), none⟩] (some [0, 1, 5, 7]))
 (.block 2
  (.loop
   (.seq
   (.seq
   (.ops false [
     ⟨some 56, .mov (.t 7), none⟩,
     ⟨some 57, .bin .geq (.t 56) (.k (.int 0)), none⟩] (some [0, 1, 5, 7, 57]))
   (.cond (.t 57)
    .skip
    (.exit 2)))
   (.seq
   (.block 3
    (.seq
    (.ops false [
      ⟨some 60, .mov (.t 0), none⟩,
      ⟨some 61, .nilck (.t 60), none⟩,
      ⟨some 62, .fld 0 (.t 61), none⟩,
      ⟨some 63, .fld 2 (.t 62), none⟩,
      ⟨some 64, .load 1 false (.t 63) [], none⟩,
      ⟨some 65, .mov (.k (.int 0)), none⟩] (some [0, 1, 5, 7, 64, 65]))
    (.block 4
     (.loop
      (.seq
      (.ops false [
        ⟨some 66, .bin .lss (.t 65) (.t 64), none⟩] (some [0, 1, 5, 7, 64, 65, 66]))
      (.seq
      (.cond (.t 66)
       .skip
       (.exit 4))
      (.seq
      (.block 5
       (.seq
       (.ops false [
         ⟨some 67, .mov (.t 65), none⟩,
         ⟨some 8, .mov (.t 67), none⟩] (some [0, 1, 5, 7, 8, 64, 65]))
       (.seq
       (.ops true [
         ⟨some 68, .mov (.t 5), none⟩,
         ⟨some 69, .nilck (.t 68), none⟩,
         ⟨some 70, .fld 2 (.t 69), none⟩,
         ⟨some 71, .load 1 false (.t 70) [], none⟩,
         ⟨some 72, .mov (.t 7), none⟩,
         ⟨some 73, .idx 1 (.t 71) (.t 72), none⟩,
         ⟨some 74, .load 1 false (.t 73) [], none⟩,
         ⟨some 75, .mov (.t 1), none⟩,
         ⟨some 76, .idx 4 (.t 74) (.k (.int 0)), none⟩,
         ⟨some 77, .idxA 4 1 (.t 76) (.t 75), none⟩,
         ⟨some 78, .load 1 false (.t 77) [], none⟩,
         ⟨some 79, .mov (.t 5), none⟩,
         ⟨some 80, .nilck (.t 79), none⟩,
         ⟨some 81, .fld 2 (.t 80), none⟩,
         ⟨some 82, .load 1 false (.t 81) [], none⟩,
         ⟨some 83, .mov (.t 7), none⟩,
         ⟨some 84, .idx 1 (.t 82) (.t 83), none⟩,
         ⟨some 85, .load 1 false (.t 84) [], none⟩,
         ⟨some 86, .mov (.t 8), none⟩,
         ⟨some 87, .idx 4 (.t 85) (.k (.int 0)), none⟩,
         ⟨some 88, .idxA 4 1 (.t 87) (.t 86), none⟩,
         ⟨some 89, .load 1 false (.t 88) [], none⟩,
         ⟨some 90, .bin .sub (.t 78) (.t 89), none⟩,
         ⟨some 9, .mov (.t 90), none⟩] (some [0, 1, 5, 7, 8, 9, 64, 65]))
       (.seq
       (.seq
       (.ops false [
         ⟨some 91, .mov (.t 5), none⟩,
         ⟨some 92, .nilck (.t 91), none⟩,
         ⟨some 93, .fld 2 (.t 92), none⟩,
         ⟨some 94, .load 1 false (.t 93) [], none⟩,
         ⟨some 95, .mov (.t 7), none⟩,
         ⟨some 96, .idx 1 (.t 94) (.t 95), none⟩,
         ⟨some 97, .load 1 false (.t 96) [], none⟩,
         ⟨some 98, .len (.t 97), none⟩,
         ⟨some 99, .mov (.k (.int 0)), none⟩] (some [0, 1, 5, 7, 8, 9, 64, 65, 97, 98, 99]))
       (.block 6
        (.loop
         (.seq
         (.ops false [
           ⟨some 100, .bin .lss (.t 99) (.t 98), none⟩] (some [0, 1, 5, 7, 8, 9, 64, 65, 97, 98, 99, 100]))
         (.seq
         (.cond (.t 100)
          .skip
          (.exit 6))
         (.seq
         (.block 7
          (.seq
          (.ops false [
            ⟨some 101, .idx 4 (.t 97) (.t 99), none⟩,
            ⟨some 102, .load 4 true (.t 101) [], none⟩,
            ⟨some 11, .alloc 11 [.int 0, .int 0, .int 0, .int 0], none⟩,
            ⟨none, .store 4 (.t 11) (.t 102) (some 11), none⟩] (some [0, 1, 5, 7, 8, 9, 11, 64, 65, 97, 98, 99]))
          (.ops true [
            ⟨some 103, .mov (.t 9), none⟩,
            ⟨some 104, .mov (.t 1), none⟩,
            ⟨some 105, .idxA 4 1 (.t 11) (.t 104), none⟩,
            ⟨some 106, .load 1 false (.t 105) [], none⟩,
            ⟨some 107, .mov (.t 8), none⟩,
            ⟨some 108, .idxA 4 1 (.t 11) (.t 107), none⟩,
            ⟨some 109, .load 1 false (.t 108) [], none⟩,
            ⟨some 110, .bin .sub (.t 106) (.t 109), none⟩,
            ⟨some 111, .max (.t 103) (.t 110), none⟩,
            ⟨some 9, .mov (.t 111), none⟩] (some [0, 1, 5, 7, 8, 9, 64, 65, 97, 98, 99]))))
         (.ops false [
           ⟨some 112, .bin .add (.t 99) (.k (.int 1)), none⟩,
           ⟨some 99, .mov (.t 112), none⟩] (some [0, 1, 5, 7, 8, 9, 64, 65, 97, 98, 99]))))))))
       (.ops true [
         ⟨some 113, .mov (.t 5), none⟩,
         ⟨some 114, .nilck (.t 113), none⟩,
         ⟨some 115, .fld 3 (.t 114), none⟩,
         ⟨some 116, .load 1 false (.t 115) [], none⟩,
         ⟨some 117, .mov (.t 7), none⟩,
         ⟨some 118, .mov (.t 8), none⟩,
         ⟨some 119, .mov (.t 5), none⟩,
         ⟨some 120, .nilck (.t 119), none⟩,
         ⟨some 121, .fld 3 (.t 120), none⟩,
         ⟨some 122, .load 1 false (.t 121) [], none⟩,
         ⟨some 123, .mov (.t 7), none⟩,
         ⟨some 124, .bin .add (.t 123) (.k (.int 1)), none⟩,
         ⟨some 125, .mov (.t 8), none⟩,
         ⟨some 126, .idx 4 (.t 122) (.t 124), none⟩,
         ⟨some 127, .idxA 4 1 (.t 126) (.t 125), none⟩,
         ⟨some 128, .load 1 false (.t 127) [], none⟩,
         ⟨some 129, .mov (.t 9), none⟩,
         ⟨some 130, .bin .add (.t 128) (.t 129), none⟩,
         ⟨some 131, .idx 4 (.t 116) (.t 117), none⟩,
         ⟨some 132, .idxA 4 1 (.t 131) (.t 118), none⟩,
         ⟨none, .store 1 (.t 132) (.t 130) none, none⟩] (some [0, 1, 5, 7, 64, 65]))))))
      (.ops false [
        ⟨some 133, .bin .add (.t 65) (.k (.int 1)), none⟩,
        ⟨some 65, .mov (.t 133), none⟩] (some [0, 1, 5, 7, 64, 65])))))))))
   (.ops false [
     ⟨some 58, .mov (.t 7), none⟩,
     ⟨some 59, .bin .sub (.t 58) (.k (.int 1)), none⟩,
     ⟨some 7, .mov (.t 59), none⟩] (some [0, 1, 5, 7])))))))
 (.seq
 (.opsN false [
   ⟨some 134, .mov (.t 5), none⟩,
   ⟨some 4, .mov (.t 134), none⟩] (some [4]))
 .ret))))))

theorem m48 : fmatch Try.prog Try.f48 2 [.tmp 4] v48 = true := by kernel_rfl

/-- (*steening/dowsers.race).surely -/
def v49 : VC :=
 (.seq
 (.ops false [
   ⟨some 2, .mov (.k (.bool false)), none⟩] (some [0]))
 (.seq
 (.seq
 (.ops false [
   ⟨some 10, .mov (.t 0), none⟩,
   ⟨some 11, .nilck (.t 10), none⟩,
   ⟨some 12, .fld 0 (.t 11), none⟩,
   ⟨some 13, .load 1 false (.t 12) [], none⟩,
   ⟨some 14, .nilck (.t 13), none⟩,
   ⟨some 15, .fld 0 (.t 14), none⟩,
   ⟨some 16, .fld 2 (.t 15), none⟩,
   ⟨some 17, .load 1 false (.t 16) [], none⟩,
   ⟨some 18, .mov (.k (.int 0)), none⟩] (some [0, 17, 18]))
 (.block 0
  (.loop
   (.seq
   (.ops false [
     ⟨some 19, .bin .lss (.t 18) (.t 17), none⟩] (some [0, 17, 18, 19]))
   (.seq
   (.cond (.t 19)
    .skip
    (.exit 0))
   (.seq
   (.block 1
    (.seq
    (.ops false [
      ⟨some 20, .mov (.t 18), none⟩,
      ⟨some 3, .mov (.t 20), none⟩] (some [0, 3, 17, 18]))
    (.seq
    (.ops false [
      ⟨some 4, .mov (.k (.int 0)), none⟩] (some [0, 3, 4, 17, 18]))
    (.seq
    (.seq
    (.ops false [
      ⟨some 21, .mov (.t 0), none⟩,
      ⟨some 22, .nilck (.t 21), none⟩,
      ⟨some 23, .fld 2 (.t 22), none⟩,
      ⟨some 24, .load 1 false (.t 23) [], none⟩,
      ⟨some 25, .len (.t 24), none⟩,
      ⟨some 26, .mov (.k (.int 0)), none⟩] (some [0, 3, 4, 17, 18, 24, 25, 26]))
    (.block 2
     (.loop
      (.seq
      (.ops false [
        ⟨some 27, .bin .lss (.t 26) (.t 25), none⟩] (some [0, 3, 4, 17, 18, 24, 25, 26, 27]))
      (.seq
      (.cond (.t 27)
       .skip
       (.exit 2))
      (.seq
      (.block 3
       (.seq
       (.ops false [
         ⟨some 28, .idx 1 (.t 24) (.t 26), none⟩,
         ⟨some 29, .load 1 false (.t 28) [], none⟩,
         ⟨some 6, .mov (.t 29), none⟩] (some [0, 3, 4, 6, 17, 18, 24, 25, 26]))
       (.seq
       (.ops true [
         ⟨some 30, .mov (.t 6), none⟩,
         ⟨some 31, .mov (.t 3), none⟩,
         ⟨some 32, .idx 4 (.t 30) (.k (.int 0)), none⟩,
         ⟨some 33, .idxA 4 1 (.t 32) (.t 31), none⟩,
         ⟨some 34, .load 1 false (.t 33) [], none⟩,
         ⟨some 35, .mov (.t 6), none⟩,
         ⟨some 36, .mov (.t 0), none⟩,
         ⟨some 37, .nilck (.t 36), none⟩,
         ⟨some 38, .fld 1 (.t 37), none⟩,
         ⟨some 39, .load 1 false (.t 38) [], none⟩,
         ⟨some 40, .idx 4 (.t 35) (.k (.int 0)), none⟩,
         ⟨some 41, .idxA 4 1 (.t 40) (.t 39), none⟩,
         ⟨some 42, .load 1 false (.t 41) [], none⟩,
         ⟨some 43, .bin .sub (.t 34) (.t 42), none⟩,
         ⟨some 7, .mov (.t 43), none⟩] (some [0, 3, 4, 6, 7, 17, 18, 24, 25, 26]))
       (.seq
       (.seq
       (.ops false [
         ⟨some 44, .mov (.t 6), none⟩,
         ⟨some 45, .len (.t 44), none⟩,
         ⟨some 46, .mov (.k (.int 0)), none⟩] (some [0, 3, 4, 7, 17, 18, 24, 25, 26, 44, 45, 46]))
       (.block 4
        (.loop
         (.seq
         (.ops false [
           ⟨some 47, .bin .lss (.t 46) (.t 45), none⟩] (some [0, 3, 4, 7, 17, 18, 24, 25, 26, 44, 45, 46, 47]))
         (.seq
         (.cond (.t 47)
          .skip
          (.exit 4))
         (.seq
         (.block 5
          (.seq
          (.ops false [
            ⟨some 48, .idx 4 (.t 44) (.t 46), none⟩,
            ⟨some 49, .load 4 true (.t 48) [], none⟩,
            ⟨some 9, .alloc 9 [.int 0, .int 0, .int 0, .int 0], none⟩,
            ⟨none, .store 4 (.t 9) (.t 49) (some 9), none⟩] (some [0, 3, 4, 7, 9, 17, 18, 24, 25, 26, 44, 45, 46]))
          (.ops true [
            ⟨some 50, .mov (.t 7), none⟩,
            ⟨some 51, .mov (.t 3), none⟩,
            ⟨some 52, .idxA 4 1 (.t 9) (.t 51), none⟩,
            ⟨some 53, .load 1 false (.t 52) [], none⟩,
            ⟨some 54, .mov (.t 0), none⟩,
            ⟨some 55, .nilck (.t 54), none⟩,
            ⟨some 56, .fld 1 (.t 55), none⟩,
            ⟨some 57, .load 1 false (.t 56) [], none⟩,
            ⟨some 58, .idxA 4 1 (.t 9) (.t 57), none⟩,
            ⟨some 59, .load 1 false (.t 58) [], none⟩,
            ⟨some 60, .bin .sub (.t 53) (.t 59), none⟩,
            ⟨some 61, .max (.t 50) (.t 60), none⟩,
            ⟨some 7, .mov (.t 61), none⟩] (some [0, 3, 4, 7, 17, 18, 24, 25, 26, 44, 45, 46]))))
         (.ops false [
           ⟨some 62, .bin .add (.t 46) (.k (.int 1)), none⟩,
           ⟨some 46, .mov (.t 62), none⟩] (some [0, 3, 4, 7, 17, 18, 24, 25, 26, 44, 45, 46]))))))))
       (.ops false [
         ⟨some 63, .mov (.t 4), none⟩,
         ⟨some 64, .mov (.t 7), none⟩,
         ⟨some 65, .bin .add (.t 63) (.t 64), none⟩,
         ⟨some 4, .mov (.t 65), none⟩] (some [0, 3, 4, 17, 18, 24, 25, 26]))))))
      (.ops false [
        ⟨some 66, .bin .add (.t 26) (.k (.int 1)), none⟩,
        ⟨some 26, .mov (.t 66), none⟩] (some [0, 3, 4, 17, 18, 24, 25, 26]))))))))
    (.seq
    (.ops false [
      ⟨some 67, .mov (.t 4), none⟩,
      ⟨some 68, .bin .gtr (.t 67) (.k (.int 0)), none⟩] (some [0, 17, 18, 68]))
    (.cond (.t 68)
     (.seq
     (.ops false [
       ⟨some 2, .mov (.k (.bool false)), none⟩] (some [2]))
     .ret)
     .skip))))))
   (.ops false [
     ⟨some 69, .bin .add (.t 18) (.k (.int 1)), none⟩,
     ⟨some 18, .mov (.t 69), none⟩] (some [0, 17, 18]))))))))
 (.seq
 (.ops false [
   ⟨some 2, .mov (.k (.bool true)), none⟩] (some [2]))
 .ret)))

theorem m49 : fmatch Try.prog Try.f49 1 [.tmp 2] v49 = true := by kernel_rfl

/-- (*steening/dowsers.race).may -/
def v50 : VC :=
 (.seq
 (.ops false [
   ⟨some 4, .box 4 5 (.t 1), none⟩,
   ⟨some 6, .mov (.k (.bool false)), none⟩] (some [0, 2, 4]))
 (.seq
 (.seq
 (.opsN false [
   ⟨some 12, .mov (.t 0), none⟩,
   ⟨some 13, .nilck (.t 12), none⟩,
   ⟨some 14, .fld 0 (.t 13), none⟩,
   ⟨some 15, .load 1 false (.t 14) [], none⟩,
   ⟨some 16, .nilck (.t 15), none⟩,
   ⟨some 17, .fld 0 (.t 16), none⟩,
   ⟨some 18, .fld 2 (.t 17), none⟩,
   ⟨some 19, .load 1 false (.t 18) [], none⟩,
   ⟨some 20, .mov (.k (.int 0)), none⟩] (some [0, 2, 4, 19, 20]))
 (.block 0
  (.loop
   (.seq
   (.ops false [
     ⟨some 21, .bin .lss (.t 20) (.t 19), none⟩] (some [0, 2, 4, 19, 20, 21]))
   (.seq
   (.cond (.t 21)
    .skip
    (.exit 0))
   (.seq
   (.block 1
    (.seq
    (.ops false [
      ⟨some 22, .mov (.t 20), none⟩,
      ⟨some 7, .mov (.t 22), none⟩] (some [0, 2, 4, 7, 19, 20]))
    (.seq
    (.ops true [
      ⟨some 23, .mov (.t 7), none⟩,
      ⟨some 24, .fld 1 (.t 4), none⟩,
      ⟨some 25, .idxA 4 1 (.t 24) (.t 23), none⟩,
      ⟨some 26, .load 1 false (.t 25) [], none⟩,
      ⟨some 27, .mov (.t 0), none⟩,
      ⟨some 28, .nilck (.t 27), none⟩,
      ⟨some 29, .fld 3 (.t 28), none⟩,
      ⟨some 30, .load 1 false (.t 29) [], none⟩,
      ⟨some 31, .fld 0 (.t 4), none⟩,
      ⟨some 32, .load 1 false (.t 31) [], none⟩,
      ⟨some 33, .mov (.t 7), none⟩,
      ⟨some 34, .idx 4 (.t 30) (.t 32), none⟩,
      ⟨some 35, .idxA 4 1 (.t 34) (.t 33), none⟩,
      ⟨some 36, .load 1 false (.t 35) [], none⟩,
      ⟨some 37, .bin .gtr (.t 26) (.t 36), none⟩] (some [0, 2, 4, 19, 20, 37]))
    (.cond (.t 37)
     (.seq
     (.ops false [
       ⟨some 6, .mov (.k (.bool false)), none⟩] (some [6]))
     .ret)
     .skip))))
   (.ops false [
     ⟨some 38, .bin .add (.t 20) (.k (.int 1)), none⟩,
     ⟨some 20, .mov (.t 38), none⟩] (some [0, 2, 4, 19, 20]))))))))
 (.seq
 (.seq
 (.ops true [
   ⟨some 39, .fld 0 (.t 4), none⟩,
   ⟨some 40, .load 1 false (.t 39) [], none⟩,
   ⟨some 41, .mov (.t 0), none⟩,
   ⟨some 42, .nilck (.t 41), none⟩,
   ⟨some 43, .fld 2 (.t 42), none⟩,
   ⟨some 44, .load 1 false (.t 43) [], none⟩,
   ⟨some 45, .len (.t 44), none⟩,
   ⟨some 46, .bin .eql (.t 40) (.t 45), none⟩] (some [0, 2, 4, 46]))
 (.cond (.t 46)
  (.seq
  (.ops false [
    ⟨some 6, .mov (.k (.bool true)), none⟩] (some [6]))
  .ret)
  .skip))
 (.seq
 (.seq
 (.ops false [
   ⟨some 47, .mov (.t 2), none⟩,
   ⟨some 48, .load 5 true (.t 4) [], none⟩,
   ⟨some 49, .mlook 100 (.t 47) (.t 48), none⟩,
   ⟨some 50, .bin .gtr (.t 49) (.k (.int 0)), none⟩] (some [0, 2, 4, 50]))
 (.cond (.t 50)
  (.seq
  (.ops false [
    ⟨some 6, .mov (.k (.bool false)), none⟩] (some [6]))
  .ret)
  .skip))
 (.seq
 (.seq
 (.ops true [
   ⟨some 51, .mov (.t 0), none⟩,
   ⟨some 52, .nilck (.t 51), none⟩,
   ⟨some 53, .fld 2 (.t 52), none⟩,
   ⟨some 54, .load 1 false (.t 53) [], none⟩,
   ⟨some 55, .fld 0 (.t 4), none⟩,
   ⟨some 56, .load 1 false (.t 55) [], none⟩,
   ⟨some 57, .idx 1 (.t 54) (.t 56), none⟩,
   ⟨some 58, .load 1 false (.t 57) [], none⟩,
   ⟨some 59, .len (.t 58), none⟩,
   ⟨some 60, .mov (.k (.int 0)), none⟩] (some [0, 2, 4, 58, 59, 60]))
 (.block 2
  (.loop
   (.seq
   (.ops false [
     ⟨some 61, .bin .lss (.t 60) (.t 59), none⟩] (some [0, 2, 4, 58, 59, 60, 61]))
   (.seq
   (.cond (.t 61)
    .skip
    (.exit 2))
   (.seq
   (.block 3
    (.seq
    (.ops false [
      ⟨some 62, .idx 4 (.t 58) (.t 60), none⟩,
      ⟨some 63, .load 4 true (.t 62) [], none⟩,
      ⟨some 9, .alloc 9 [.int 0, .int 0, .int 0, .int 0], none⟩,
      ⟨none, .store 4 (.t 9) (.t 63) (some 9), none⟩] (some [0, 2, 4, 9, 58, 59, 60]))
    (.seq
    (.ops false [
      ⟨some 64, .fld 0 (.t 4), none⟩,
      ⟨some 65, .load 1 false (.t 64) [], none⟩,
      ⟨some 66, .bin .add (.t 65) (.k (.int 1)), none⟩,
      ⟨some 67, .fld 1 (.t 4), none⟩,
      ⟨some 68, .load 4 true (.t 67) [], none⟩,
      ⟨some 69, .build [.int 0, .int 0, .int 0, .int 0, .int 0] [(0, 1, .t 66), (1, 4, .t 68)], none⟩,
      ⟨some 10, .alloc 10 [.int 0, .int 0, .int 0, .int 0, .int 0], none⟩,
      ⟨none, .store 5 (.t 10) (.t 69) (some 10), none⟩] (some [0, 2, 4, 9, 10, 58, 59, 60]))
    (.seq
    (.seq
    (.ops false [
      ⟨some 70, .mov (.t 0), none⟩,
      ⟨some 71, .nilck (.t 70), none⟩,
      ⟨some 72, .fld 0 (.t 71), none⟩,
      ⟨some 73, .load 1 false (.t 72) [], none⟩,
      ⟨some 74, .nilck (.t 73), none⟩,
      ⟨some 75, .fld 0 (.t 74), none⟩,
      ⟨some 76, .fld 2 (.t 75), none⟩,
      ⟨some 77, .load 1 false (.t 76) [], none⟩,
      ⟨some 78, .mov (.k (.int 0)), none⟩] (some [0, 2, 4, 9, 10, 58, 59, 60, 77, 78]))
    (.block 4
     (.loop
      (.seq
      (.ops false [
        ⟨some 79, .bin .lss (.t 78) (.t 77), none⟩] (some [0, 2, 4, 9, 10, 58, 59, 60, 77, 78, 79]))
      (.seq
      (.cond (.t 79)
       .skip
       (.exit 4))
      (.seq
      (.block 5
       (.seq
       (.ops false [
         ⟨some 80, .mov (.t 78), none⟩,
         ⟨some 11, .mov (.t 80), none⟩] (some [0, 2, 4, 9, 10, 11, 58, 59, 60, 77, 78]))
       (.ops true [
         ⟨some 81, .mov (.t 11), none⟩,
         ⟨some 82, .fld 1 (.t 10), none⟩,
         ⟨some 83, .idxA 4 1 (.t 82) (.t 81), none⟩,
         ⟨some 84, .load 1 false (.t 83) [], none⟩,
         ⟨some 85, .mov (.t 11), none⟩,
         ⟨some 86, .idxA 4 1 (.t 9) (.t 85), none⟩,
         ⟨some 87, .load 1 false (.t 86) [], none⟩,
         ⟨some 88, .mov (.t 0), none⟩,
         ⟨some 89, .nilck (.t 88), none⟩,
         ⟨some 90, .fld 1 (.t 89), none⟩,
         ⟨some 91, .load 1 false (.t 90) [], none⟩,
         ⟨some 92, .idxA 4 1 (.t 9) (.t 91), none⟩,
         ⟨some 93, .load 1 false (.t 92) [], none⟩,
         ⟨some 94, .bin .sub (.t 87) (.t 93), none⟩,
         ⟨some 95, .bin .add (.t 84) (.t 94), none⟩,
         ⟨some 96, .fld 1 (.t 10), none⟩,
         ⟨some 97, .idxA 4 1 (.t 96) (.t 81), none⟩,
         ⟨none, .store 1 (.t 97) (.t 95) (some 10), none⟩] (some [0, 2, 4, 9, 10, 58, 59, 60, 77, 78]))))
      (.ops false [
        ⟨some 98, .bin .add (.t 78) (.k (.int 1)), none⟩,
        ⟨some 78, .mov (.t 98), none⟩] (some [0, 2, 4, 9, 10, 58, 59, 60, 77, 78]))))))))
    (.seq
    (.opsN false [
      ⟨some 99, .mov (.t 0), none⟩,
      ⟨some 100, .load 5 true (.t 10) [], none⟩,
      ⟨some 101, .mov (.t 2), none⟩,
      ⟨some 102, .calli 50 [.t 99, .t 100, .t 101], none⟩] (some [0, 2, 4, 58, 59, 60, 102]))
    (.cond (.t 102)
     (.seq
     (.ops false [
       ⟨some 6, .mov (.k (.bool true)), none⟩] (some [6]))
     .ret)
     .skip))))))
   (.ops false [
     ⟨some 103, .bin .add (.t 60) (.k (.int 1)), none⟩,
     ⟨some 60, .mov (.t 103), none⟩] (some [0, 2, 4, 58, 59, 60]))))))))
 (.seq
 (.mbump 100 (.t 2) (.load 5 true (.t 4) []) [104, 105, 106, 107, 108, 109] (some []))
 (.seq
 (.ops false [
   ⟨some 6, .mov (.k (.bool false)), none⟩] (some [6]))
 .ret)))))))

theorem m50 : fmatch Try.prog Try.f50 3 [.tmp 6] v50 = true := by kernel_rfl

/-- (*steening/levels.bounds).levels -/
def v51 : VC :=
 (.seq
 (.ops false [
   ⟨some 2, .box 2 1 (.t 0), none⟩,
   ⟨some 3, .box 3 1 (.t 1), none⟩,
   ⟨some 4, .mov (.k .und), none⟩] (some [2, 3]))
 (.seq
 (.ops false [
   ⟨some 5, .mkf 58 [.t 3, .t 2], none⟩,
   ⟨some 4, .mov (.t 5), none⟩] (some [4]))
 .ret))

theorem m51 : fmatch Try.prog Try.f51 2 [.tmp 4] v51 = true := by kernel_rfl

/-- steening/levels.Check -/
def v52 : VC :=
 (.seq
 (.ops false [
   ⟨some 1, .box 1 3 (.t 0), none⟩,
   ⟨some 2, .mov (.k (.int 0)), none⟩] (some [1]))
 (.seq
 (.seq
 (.ops false [
   ⟨some 7, .fld 0 (.t 1), none⟩,
   ⟨some 8, .load 1 false (.t 7) [], none⟩,
   ⟨some 9, .call 55 [.t 8, .k (.int 0), .k (.int 6)], none⟩,
   ⟨some 10, .not (.t 9), none⟩,
   ⟨some 11, .mov (.t 10), none⟩,
   ⟨some 12, .fld 1 (.t 1), some (11, false)⟩,
   ⟨some 13, .load 1 false (.t 12) [], some (11, false)⟩,
   ⟨some 14, .len (.t 13), some (11, false)⟩,
   ⟨some 15, .bin .gtr (.t 14) (.k (.int 8)), some (11, false)⟩,
   ⟨some 16, .pick (.t 11) (.k (.bool true)) (.t 15), none⟩,
   ⟨some 17, .mov (.t 16), none⟩,
   ⟨some 18, .fld 2 (.t 1), some (17, false)⟩,
   ⟨some 19, .load 1 false (.t 18) [], some (17, false)⟩,
   ⟨some 20, .len (.t 19), some (17, false)⟩,
   ⟨some 21, .bin .gtr (.t 20) (.k (.int 8)), some (17, false)⟩,
   ⟨some 22, .pick (.t 17) (.k (.bool true)) (.t 21), none⟩] (some [1, 22]))
 (.cond (.t 22)
  (.seq
  (.ops false [
    ⟨some 2, .mov (.k (.int 10)), none⟩] (some [2]))
  .ret)
  .skip))
 (.seq
 (.seq
 (.ops false [
   ⟨some 23, .fld 1 (.t 1), none⟩,
   ⟨some 24, .load 1 false (.t 23) [], none⟩,
   ⟨some 25, .len (.t 24), none⟩,
   ⟨some 26, .mov (.k (.int 0)), none⟩] (some [1, 24, 25, 26]))
 (.block 0
  (.loop
   (.seq
   (.ops false [
     ⟨some 27, .bin .lss (.t 26) (.t 25), none⟩] (some [1, 24, 25, 26, 27]))
   (.seq
   (.cond (.t 27)
    .skip
    (.exit 0))
   (.seq
   (.block 1
    (.seq
    (.ops false [
      ⟨some 28, .idx 3 (.t 24) (.t 26), none⟩,
      ⟨some 29, .load 3 true (.t 28) [], none⟩,
      ⟨some 4, .alloc 4 [.int 0, .int 0, .int 0], none⟩,
      ⟨none, .store 3 (.t 4) (.t 29) (some 4), none⟩] (some [1, 4, 24, 25, 26]))
    (.seq
    (.ops false [
      ⟨some 30, .load 3 true (.t 1) [], none⟩,
      ⟨some 31, .fld 0 (.t 4), none⟩,
      ⟨some 32, .load 1 false (.t 31) [], none⟩,
      ⟨some 33, .call 42 [.t 30, .t 32], none⟩,
      ⟨some 34, .not (.t 33), none⟩,
      ⟨some 35, .mov (.t 34), none⟩,
      ⟨some 36, .fld 1 (.t 4), some (35, false)⟩,
      ⟨some 37, .load 1 false (.t 36) [], some (35, false)⟩,
      ⟨some 38, .fld 2 (.t 4), some (35, false)⟩,
      ⟨some 39, .load 1 false (.t 38) [], some (35, false)⟩,
      ⟨some 40, .call 55 [.t 37, .k (.int 0), .t 39], some (35, false)⟩,
      ⟨some 41, .not (.t 40), some (35, false)⟩,
      ⟨some 42, .pick (.t 35) (.k (.bool true)) (.t 41), none⟩,
      ⟨some 43, .mov (.t 42), none⟩,
      ⟨some 44, .fld 2 (.t 4), some (43, false)⟩,
      ⟨some 45, .load 1 false (.t 44) [], some (43, false)⟩,
      ⟨some 46, .bin .gtr (.t 45) (.k (.int 99)), some (43, false)⟩,
      ⟨some 47, .pick (.t 43) (.k (.bool true)) (.t 46), none⟩] (some [1, 24, 25, 26, 47]))
    (.cond (.t 47)
     (.seq
     (.ops false [
       ⟨some 2, .mov (.k (.int 10)), none⟩] (some [2]))
     .ret)
     .skip))))
   (.ops false [
     ⟨some 48, .bin .add (.t 26) (.k (.int 1)), none⟩,
     ⟨some 26, .mov (.t 48), none⟩] (some [1, 24, 25, 26]))))))))
 (.seq
 (.seq
 (.ops false [
   ⟨some 49, .fld 2 (.t 1), none⟩,
   ⟨some 50, .load 1 false (.t 49) [], none⟩,
   ⟨some 51, .len (.t 50), none⟩,
   ⟨some 52, .mov (.k (.int 0)), none⟩] (some [1, 50, 51, 52]))
 (.block 2
  (.loop
   (.seq
   (.ops false [
     ⟨some 53, .bin .lss (.t 52) (.t 51), none⟩] (some [1, 50, 51, 52, 53]))
   (.seq
   (.cond (.t 53)
    .skip
    (.exit 2))
   (.seq
   (.block 3
    (.seq
    (.ops false [
      ⟨some 54, .idx 4 (.t 50) (.t 52), none⟩,
      ⟨some 55, .load 4 true (.t 54) [], none⟩,
      ⟨some 6, .alloc 6 [.int 0, .int 0, .int 0, .int 0], none⟩,
      ⟨none, .store 4 (.t 6) (.t 55) (some 6), none⟩] (some [1, 6, 50, 51, 52]))
    (.seq
    (.ops false [
      ⟨some 56, .load 3 true (.t 1) [], none⟩,
      ⟨some 57, .fld 0 (.t 6), none⟩,
      ⟨some 58, .load 1 false (.t 57) [], none⟩,
      ⟨some 59, .call 42 [.t 56, .t 58], none⟩,
      ⟨some 60, .not (.t 59), none⟩,
      ⟨some 61, .mov (.t 60), none⟩,
      ⟨some 62, .load 3 true (.t 1) [], some (61, false)⟩,
      ⟨some 63, .fld 1 (.t 6), some (61, false)⟩,
      ⟨some 64, .load 1 false (.t 63) [], some (61, false)⟩,
      ⟨some 65, .call 42 [.t 62, .t 64], some (61, false)⟩,
      ⟨some 66, .not (.t 65), some (61, false)⟩,
      ⟨some 67, .pick (.t 61) (.k (.bool true)) (.t 66), none⟩,
      ⟨some 68, .mov (.t 67), none⟩,
      ⟨some 69, .fld 0 (.t 6), some (68, false)⟩,
      ⟨some 70, .load 1 false (.t 69) [], some (68, false)⟩,
      ⟨some 71, .fld 1 (.t 6), some (68, false)⟩,
      ⟨some 72, .load 1 false (.t 71) [], some (68, false)⟩,
      ⟨some 73, .bin .eql (.t 70) (.t 72), some (68, false)⟩,
      ⟨some 74, .pick (.t 68) (.k (.bool true)) (.t 73), none⟩,
      ⟨some 75, .mov (.t 74), none⟩,
      ⟨some 76, .fld 2 (.t 6), some (75, false)⟩,
      ⟨some 77, .load 1 false (.t 76) [], some (75, false)⟩,
      ⟨some 78, .fld 3 (.t 6), some (75, false)⟩,
      ⟨some 79, .load 1 false (.t 78) [], some (75, false)⟩,
      ⟨some 80, .call 55 [.t 77, .k (.int (-99)), .t 79], some (75, false)⟩,
      ⟨some 81, .not (.t 80), some (75, false)⟩,
      ⟨some 82, .pick (.t 75) (.k (.bool true)) (.t 81), none⟩,
      ⟨some 83, .mov (.t 82), none⟩,
      ⟨some 84, .fld 3 (.t 6), some (83, false)⟩,
      ⟨some 85, .load 1 false (.t 84) [], some (83, false)⟩,
      ⟨some 86, .bin .gtr (.t 85) (.k (.int 99)), some (83, false)⟩,
      ⟨some 87, .pick (.t 83) (.k (.bool true)) (.t 86), none⟩] (some [1, 50, 51, 52, 87]))
    (.cond (.t 87)
     (.seq
     (.ops false [
       ⟨some 2, .mov (.k (.int 10)), none⟩] (some [2]))
     .ret)
     .skip))))
   (.ops false [
     ⟨some 88, .bin .add (.t 52) (.k (.int 1)), none⟩,
     ⟨some 52, .mov (.t 88), none⟩] (some [1, 50, 51, 52]))))))))
 (.seq
 (.ops false [
   ⟨some 2, .mov (.k (.int 0)), none⟩] (some [2]))
 .ret)))))

theorem m52 : fmatch Try.prog Try.f52 1 [.tmp 2] v52 = true := by kernel_rfl

/-- steening/levels.said -/
def v53 : VC :=
 (.seq
 (.ops false [
   ⟨some 2, .box 2 3 (.t 0), none⟩,
   ⟨some 4, .mov (.k .nilp), none⟩,
   ⟨some 5, .mov (.k (.bool false)), none⟩] (some [1, 2]))
 (.seq
 (.ops false [
   ⟨some 11, .fld 0 (.t 2), none⟩,
   ⟨some 12, .load 1 false (.t 11) [], none⟩,
   ⟨some 13, .calli 59 [.t 12], none⟩,
   ⟨some 6, .mov (.t 13), none⟩] (some [1, 2, 6]))
 (.seq
 (.seq
 (.ops false [
   ⟨some 14, .fld 1 (.t 2), none⟩,
   ⟨some 15, .load 1 false (.t 14) [], none⟩,
   ⟨some 16, .len (.t 15), none⟩,
   ⟨some 17, .mov (.k (.int 0)), none⟩] (some [1, 2, 6, 15, 16, 17]))
 (.block 0
  (.loop
   (.seq
   (.ops false [
     ⟨some 18, .bin .lss (.t 17) (.t 16), none⟩] (some [1, 2, 6, 15, 16, 17, 18]))
   (.seq
   (.cond (.t 18)
    .skip
    (.exit 0))
   (.seq
   (.block 1
    (.seq
    (.ops false [
      ⟨some 19, .mov (.t 17), none⟩,
      ⟨some 20, .idx 3 (.t 15) (.t 17), none⟩,
      ⟨some 21, .load 3 true (.t 20) [], none⟩,
      ⟨some 8, .alloc 8 [.int 0, .int 0, .int 0], none⟩,
      ⟨some 7, .mov (.t 19), none⟩,
      ⟨none, .store 3 (.t 8) (.t 21) (some 8), none⟩] (some [1, 2, 6, 7, 8, 15, 16, 17]))
    (.seq
    (.ops false [
      ⟨some 22, .mov (.t 1), none⟩,
      ⟨some 23, .mov (.t 7), none⟩,
      ⟨some 24, .callv (.t 22) [.t 23], none⟩] (some [1, 2, 6, 8, 15, 16, 17, 24]))
    (.cond (.t 24)
     (.ops false [
       ⟨some 25, .mov (.t 6), none⟩,
       ⟨some 26, .load 3 true (.t 8) [], none⟩,
       ⟨some 27, .calli 60 [.t 25, .t 26], none⟩] (some [1, 2, 6, 15, 16, 17]))
     .skip))))
   (.ops false [
     ⟨some 28, .bin .add (.t 17) (.k (.int 1)), none⟩,
     ⟨some 17, .mov (.t 28), none⟩] (some [1, 2, 6, 15, 16, 17]))))))))
 (.seq
 (.seq
 (.ops false [
   ⟨some 29, .fld 2 (.t 2), none⟩,
   ⟨some 30, .load 1 false (.t 29) [], none⟩,
   ⟨some 31, .len (.t 30), none⟩,
   ⟨some 32, .mov (.k (.int 0)), none⟩] (some [1, 2, 6, 30, 31, 32]))
 (.block 2
  (.loop
   (.seq
   (.ops false [
     ⟨some 33, .bin .lss (.t 32) (.t 31), none⟩] (some [1, 2, 6, 30, 31, 32, 33]))
   (.seq
   (.cond (.t 33)
    .skip
    (.exit 2))
   (.seq
   (.block 3
    (.seq
    (.ops false [
      ⟨some 34, .mov (.t 32), none⟩,
      ⟨some 35, .idx 4 (.t 30) (.t 32), none⟩,
      ⟨some 36, .load 4 true (.t 35) [], none⟩,
      ⟨some 10, .alloc 10 [.int 0, .int 0, .int 0, .int 0], none⟩,
      ⟨some 9, .mov (.t 34), none⟩,
      ⟨none, .store 4 (.t 10) (.t 36) (some 10), none⟩] (some [1, 2, 6, 9, 10, 30, 31, 32]))
    (.seq
    (.ops false [
      ⟨some 37, .mov (.t 1), none⟩,
      ⟨some 38, .fld 1 (.t 2), none⟩,
      ⟨some 39, .load 1 false (.t 38) [], none⟩,
      ⟨some 40, .len (.t 39), none⟩,
      ⟨some 41, .mov (.t 9), none⟩,
      ⟨some 42, .bin .add (.t 40) (.t 41), none⟩,
      ⟨some 43, .callv (.t 37) [.t 42], none⟩] (some [1, 2, 6, 10, 30, 31, 32, 43]))
    (.cond (.t 43)
     (.ops false [
       ⟨some 44, .mov (.t 6), none⟩,
       ⟨some 45, .load 4 true (.t 10) [], none⟩,
       ⟨some 46, .calli 61 [.t 44, .t 45], none⟩] (some [1, 2, 6, 30, 31, 32]))
     .skip))))
   (.ops false [
     ⟨some 47, .bin .add (.t 32) (.k (.int 1)), none⟩,
     ⟨some 32, .mov (.t 47), none⟩] (some [1, 2, 6, 30, 31, 32]))))))))
 (.seq
 (.ops false [
   ⟨some 48, .mov (.t 6), none⟩,
   ⟨some 49, .mov (.t 6), none⟩,
   ⟨some 50, .calli 62 [.t 49], none⟩,
   ⟨some 4, .mov (.t 48), none⟩,
   ⟨some 5, .mov (.t 50), none⟩] (some [4, 5]))
 .ret)))))

theorem m53 : fmatch Try.prog Try.f53 2 [.tmp 4, .tmp 5] v53 = true := by kernel_rfl

/-- steening/levels.all -/
def v54 : VC :=
 (.seq
 (.ops false [
   ⟨some 2, .mov (.k (.bool false)), none⟩] (some []))
 (.seq
 (.ops false [
   ⟨some 2, .mov (.k (.bool true)), none⟩] (some [2]))
 .ret))

theorem m54 : fmatch Try.prog Try.f54 1 [.tmp 2] v54 = true := by kernel_rfl

/-- steening/levels.within -/
def v55 : VC :=
 (.seq
 (.ops false [
   ⟨some 6, .mov (.k (.bool false)), none⟩] (some [0, 1, 2]))
 (.seq
 (.ops false [
   ⟨some 7, .mov (.t 1), none⟩,
   ⟨some 8, .mov (.t 0), none⟩,
   ⟨some 9, .bin .leq (.t 7) (.t 8), none⟩,
   ⟨some 10, .mov (.t 9), none⟩,
   ⟨some 11, .mov (.t 0), some (10, true)⟩,
   ⟨some 12, .mov (.t 2), some (10, true)⟩,
   ⟨some 13, .bin .leq (.t 11) (.t 12), some (10, true)⟩,
   ⟨some 14, .pick (.t 10) (.t 13) (.k (.bool false)), none⟩,
   ⟨some 6, .mov (.t 14), none⟩] (some [6]))
 .ret))

theorem m55 : fmatch Try.prog Try.f55 3 [.tmp 6] v55 = true := by kernel_rfl

/-- steening/dowsers.compare -/
def v56 : VC :=
 (.seq
 (.ops false [
   ⟨some 2, .box 2 4 (.t 0), none⟩,
   ⟨some 3, .box 3 4 (.t 1), none⟩,
   ⟨some 4, .mov (.k (.int 0)), none⟩] (some [2, 3]))
 (.seq
 (.ops true [
   ⟨some 5, .fld 0 (.t 2), none⟩,
   ⟨some 6, .load 1 false (.t 5) [], none⟩,
   ⟨some 7, .fld 0 (.t 3), none⟩,
   ⟨some 8, .load 1 false (.t 7) [], none⟩,
   ⟨some 9, .call 64 [.t 6, .t 8], none⟩,
   ⟨some 10, .fld 1 (.t 2), none⟩,
   ⟨some 11, .load 1 false (.t 10) [], none⟩,
   ⟨some 12, .fld 1 (.t 3), none⟩,
   ⟨some 13, .load 1 false (.t 12) [], none⟩,
   ⟨some 14, .call 64 [.t 11, .t 13], none⟩,
   ⟨some 15, .bslice 1 [.t 9, .t 14], none⟩,
   ⟨some 16, .call 63 [.t 15], none⟩,
   ⟨some 4, .mov (.t 16), none⟩] (some [4]))
 .ret))

theorem m56 : fmatch Try.prog Try.f56 2 [.tmp 4] v56 = true := by kernel_rfl

/-- (*steening/dowsers.book).choices -/
def v57 : VC :=
 (.seq
 (.ops false [
   ⟨some 4, .nils 4 4, none⟩] (some [0, 1]))
 (.seq
 (.ops false [
   ⟨some 12, .mmake 119 4, none⟩,
   ⟨some 5, .mov (.t 12), none⟩] (some [0, 1, 5]))
 (.seq
 (.ops false [
   ⟨some 6, .nils 6 4, none⟩] (some [0, 1, 5, 6]))
 (.seq
 (.seq
 (.ops false [
   ⟨some 7, .mov (.k (.int 1)), none⟩] (some [0, 1, 5, 6, 7]))
 (.block 0
  (.loop
   (.seq
   (.seq
   (.ops false [
     ⟨some 13, .mov (.t 7), none⟩,
     ⟨some 14, .mov (.t 0), none⟩,
     ⟨some 15, .nilck (.t 14), none⟩,
     ⟨some 16, .fld 0 (.t 15), none⟩,
     ⟨some 17, .fld 0 (.t 16), none⟩,
     ⟨some 18, .load 1 false (.t 17) [], none⟩,
     ⟨some 19, .bin .leq (.t 13) (.t 18), none⟩] (some [0, 1, 5, 6, 7, 19]))
   (.cond (.t 19)
    .skip
    (.exit 0)))
   (.seq
   (.block 1
    (.seq
    (.seq
    (.ops false [
      ⟨some 22, .mov (.t 0), none⟩,
      ⟨some 23, .nilck (.t 22), none⟩,
      ⟨some 24, .fld 0 (.t 23), none⟩,
      ⟨some 25, .fld 1 (.t 24), none⟩,
      ⟨some 26, .load 1 false (.t 25) [], none⟩,
      ⟨some 27, .mov (.t 1), none⟩,
      ⟨some 28, .idx 1 (.t 26) (.t 27), none⟩,
      ⟨some 29, .load 1 false (.t 28) [], none⟩,
      ⟨some 8, .mov (.t 29), none⟩] (some [0, 1, 5, 6, 7, 8]))
    (.seq
    (.ops false [
      ⟨some 30, .mov (.t 8), none⟩,
      ⟨some 31, .bin .neq (.t 30) (.k (.int 0)), none⟩,
      ⟨some 32, .mov (.t 31), none⟩,
      ⟨some 33, .mov (.t 8), some (32, true)⟩,
      ⟨some 34, .mov (.t 7), some (32, true)⟩,
      ⟨some 35, .bin .neq (.t 33) (.t 34), some (32, true)⟩,
      ⟨some 36, .pick (.t 32) (.t 35) (.k (.bool false)), none⟩] (some [0, 1, 5, 6, 7, 36]))
    (.cond (.t 36)
     (.exit 1)
     .skip)))
    (.seq
    (.ops false [
      ⟨some 9, .alloc 9 [.int 0, .int 0, .int 0, .int 0], none⟩] (some [0, 1, 5, 6, 7, 9]))
    (.seq
    (.seq
    (.ops false [
      ⟨some 37, .mov (.t 0), none⟩,
      ⟨some 38, .nilck (.t 37), none⟩,
      ⟨some 39, .fld 0 (.t 38), none⟩,
      ⟨some 40, .fld 3 (.t 39), none⟩,
      ⟨some 41, .load 1 false (.t 40) [], none⟩,
      ⟨some 42, .len (.t 41), none⟩,
      ⟨some 43, .mov (.k (.int 0)), none⟩] (some [0, 1, 5, 6, 7, 9, 41, 42, 43]))
    (.block 2
     (.loop
      (.seq
      (.ops false [
        ⟨some 44, .bin .lss (.t 43) (.t 42), none⟩] (some [0, 1, 5, 6, 7, 9, 41, 42, 43, 44]))
      (.seq
      (.cond (.t 44)
       .skip
       (.exit 2))
      (.seq
      (.block 3
       (.seq
       (.ops false [
         ⟨some 45, .idx 4 (.t 41) (.t 43), none⟩,
         ⟨some 46, .load 4 true (.t 45) [], none⟩,
         ⟨some 11, .alloc 11 [.int 0, .int 0, .int 0, .int 0], none⟩,
         ⟨none, .store 4 (.t 11) (.t 46) (some 11), none⟩] (some [0, 1, 5, 6, 7, 9, 11, 41, 42, 43]))
       (.seq
       (.ops false [
         ⟨some 47, .fld 1 (.t 11), none⟩,
         ⟨some 48, .load 1 false (.t 47) [], none⟩,
         ⟨some 49, .mov (.t 1), none⟩,
         ⟨some 50, .bin .eql (.t 48) (.t 49), none⟩] (some [0, 1, 5, 6, 7, 9, 11, 41, 42, 43, 50]))
       (.cond (.t 50)
        (.ops true [
          ⟨some 51, .fld 0 (.t 11), none⟩,
          ⟨some 52, .load 1 false (.t 51) [], none⟩,
          ⟨some 53, .idxA 4 1 (.t 9) (.t 52), none⟩,
          ⟨some 54, .load 1 false (.t 53) [], none⟩,
          ⟨some 55, .mov (.t 0), none⟩,
          ⟨some 56, .load 4 true (.t 11) [], none⟩,
          ⟨some 57, .mov (.t 7), none⟩,
          ⟨some 58, .call 45 [.t 55, .t 56, .t 57], none⟩,
          ⟨some 59, .bin .add (.t 54) (.t 58), none⟩,
          ⟨some 60, .idxA 4 1 (.t 9) (.t 52), none⟩,
          ⟨none, .store 1 (.t 60) (.t 59) (some 9), none⟩] (some [0, 1, 5, 6, 7, 9, 41, 42, 43]))
        .skip))))
      (.ops false [
        ⟨some 61, .bin .add (.t 43) (.k (.int 1)), none⟩,
        ⟨some 43, .mov (.t 61), none⟩] (some [0, 1, 5, 6, 7, 9, 41, 42, 43]))))))))
    (.seq
    (.mbump 119 (.t 5) (.load 4 true (.t 9) []) [62, 63, 64, 65, 66, 67] (some [0, 1, 5, 6, 7, 9]))
    (.seq
    (.ops false [
      ⟨some 68, .mov (.t 5), none⟩,
      ⟨some 69, .load 4 true (.t 9) [], none⟩,
      ⟨some 70, .mlook 119 (.t 68) (.t 69), none⟩,
      ⟨some 71, .bin .eql (.t 70) (.k (.int 1)), none⟩] (some [0, 1, 5, 6, 7, 9, 71]))
    (.cond (.t 71)
     (.ops false [
       ⟨some 72, .mov (.t 6), none⟩,
       ⟨some 73, .load 4 true (.t 9) [], none⟩,
       ⟨some 74, .bslice 4 [.t 73], none⟩,
       ⟨some 75, .app 75 4 32 (.t 72) (.t 74), none⟩,
       ⟨some 6, .mov (.t 75), none⟩] (some [0, 1, 5, 6, 7]))
     .skip)))))))
   (.ops false [
     ⟨some 20, .mov (.t 7), none⟩,
     ⟨some 21, .bin .add (.t 20) (.k (.int 1)), none⟩,
     ⟨some 7, .mov (.t 21), none⟩] (some [0, 1, 5, 6, 7])))))))
 (.seq
 (.ops false [
   ⟨some 76, .mov (.t 6), none⟩,
   ⟨some 4, .mov (.t 76), none⟩] (some [4]))
 .ret)))))

theorem m57 : fmatch Try.prog Try.f57 2 [.tmp 4] v57 = true := by kernel_rfl

/-- (*steening/levels.bounds).levels$1 -/
def v58 : VC :=
 (.seq
 (.ops false [
   ⟨some 5, .load 1 false (.t 1) [], none⟩,
   ⟨some 6, .mov (.k (.int 0)), none⟩] (some [0, 2, 5, 6]))
 (.block 0
  (.loop
   (.seq
   (.ops false [
     ⟨some 7, .bin .lss (.t 6) (.t 5), none⟩] (some [0, 2, 5, 6, 7]))
   (.seq
   (.cond (.t 7)
    .skip
    (.exit 0))
   (.seq
   (.block 1
    (.seq
    (.ops false [
      ⟨some 8, .mov (.t 6), none⟩,
      ⟨some 4, .mov (.t 8), none⟩] (some [0, 2, 4, 5, 6]))
    (.seq
    (.ops false [
      ⟨some 9, .mov (.t 0), none⟩,
      ⟨some 10, .mov (.t 4), none⟩,
      ⟨some 11, .load 1 false (.t 2) [], none⟩,
      ⟨some 12, .mov (.t 4), none⟩,
      ⟨some 13, .call 43 [.t 11, .k (.int 6), .t 12], none⟩,
      ⟨some 14, .yield (.t 9) [.t 10, .t 13], none⟩,
      ⟨some 15, .not (.t 14), none⟩] (some [0, 2, 5, 6, 15]))
    (.cond (.t 15)
     .ret
     .skip))))
   (.ops false [
     ⟨some 16, .bin .add (.t 6) (.k (.int 1)), none⟩,
     ⟨some 6, .mov (.t 16), none⟩] (some [0, 2, 5, 6]))))))))

theorem m58 : fmatch Try.prog Try.f58 3 [] v58 = true := by kernel_rfl

/-- steening/levels.rock -/
def v59 : VC :=
 (.seq
 (.ops false [
   ⟨some 2, .mov (.k .nilp), none⟩] (some [0]))
 (.seq
 (.ops false [
   ⟨some 7, .build [.int 0, .int 0, .int 0, .int 0, .int 0, .int 0, .int 0, .int 0, .int 0, .int 0, .int 0, .int 0, .int 0, .int 0, .int 0, .int 0, .int 0, .int 0, .int 0, .int 0, .int 0, .int 0, .int 0, .int 0, .int 0, .int 0, .int 0, .int 0, .int 0, .int 0, .int 0, .int 0, .int 0, .int 0, .int 0, .int 0, .int 0, .int 0, .int 0, .int 0, .int 0, .int 0, .int 0, .int 0, .int 0, .int 0, .int 0, .int 0, .int 0] [], none⟩,
   ⟨some 8, .box 1008 49 (.t 7), none⟩,
   ⟨some 3, .mov (.t 8), none⟩] (some [0, 3]))
 (.seq
 (.seq
 (.ops false [
   ⟨some 9, .mov (.k (.int 0)), none⟩] (some [0, 3, 9]))
 (.block 0
  (.loop
   (.seq
   (.ops false [
     ⟨some 10, .bin .lss (.t 9) (.k (.int 7)), none⟩] (some [0, 3, 9, 10]))
   (.seq
   (.cond (.t 10)
    .skip
    (.exit 0))
   (.seq
   (.block 1
    (.seq
    (.ops false [
      ⟨some 11, .mov (.t 9), none⟩,
      ⟨some 4, .mov (.t 11), none⟩] (some [0, 3, 4, 9]))
    (.seq
    (.ops false [
      ⟨some 12, .mov (.k (.int 0)), none⟩] (some [0, 3, 4, 9, 12]))
    (.block 2
     (.loop
      (.seq
      (.ops false [
        ⟨some 13, .bin .lss (.t 12) (.k (.int 7)), none⟩] (some [0, 3, 4, 9, 12, 13]))
      (.seq
      (.cond (.t 13)
       .skip
       (.exit 2))
      (.seq
      (.block 3
       (.seq
       (.ops false [
         ⟨some 14, .mov (.t 12), none⟩,
         ⟨some 5, .mov (.t 14), none⟩] (some [0, 3, 4, 5, 9, 12]))
       (.seq
       (.ops false [
         ⟨some 15, .mov (.t 4), none⟩,
         ⟨some 16, .mov (.t 5), none⟩,
         ⟨some 17, .bin .neq (.t 15) (.t 16), none⟩] (some [0, 3, 4, 5, 9, 12, 17]))
       (.cond (.t 17)
        (.ops false [
          ⟨some 18, .mov (.t 3), none⟩,
          ⟨some 19, .mov (.t 4), none⟩,
          ⟨some 20, .mov (.t 5), none⟩,
          ⟨some 21, .nilck (.t 18), none⟩,
          ⟨some 22, .idxA 7 7 (.t 21) (.t 19), none⟩,
          ⟨some 23, .idxA 7 1 (.t 22) (.t 20), none⟩,
          ⟨none, .store 1 (.t 23) (.k (.int 1048576)) none, none⟩] (some [0, 3, 4, 9, 12]))
        .skip))))
      (.ops false [
        ⟨some 24, .bin .add (.t 12) (.k (.int 1)), none⟩,
        ⟨some 12, .mov (.t 24), none⟩] (some [0, 3, 4, 9, 12]))))))))))
   (.ops false [
     ⟨some 25, .bin .add (.t 9) (.k (.int 1)), none⟩,
     ⟨some 9, .mov (.t 25), none⟩] (some [0, 3, 9]))))))))
 (.seq
 (.seq
 (.ops false [
   ⟨some 26, .mov (.t 0), none⟩,
   ⟨some 27, .mov (.k (.int 0)), none⟩] (some [3, 26, 27]))
 (.block 4
  (.loop
   (.seq
   (.ops false [
     ⟨some 28, .bin .lss (.t 27) (.t 26), none⟩] (some [3, 26, 27, 28]))
   (.seq
   (.cond (.t 28)
    .skip
    (.exit 4))
   (.seq
   (.block 5
    (.seq
    (.ops false [
      ⟨some 29, .mov (.t 27), none⟩,
      ⟨some 6, .mov (.t 29), none⟩] (some [3, 6, 26, 27]))
    (.seq
    (.ops false [
      ⟨some 30, .mov (.t 3), none⟩,
      ⟨some 31, .mov (.t 6), none⟩,
      ⟨some 32, .calli 65 [.t 30, .k (.int 6), .t 31, .k (.int 99)], none⟩] (some [3, 6, 26, 27]))
    (.ops false [
      ⟨some 33, .mov (.t 3), none⟩,
      ⟨some 34, .mov (.t 6), none⟩,
      ⟨some 35, .calli 65 [.t 33, .t 34, .k (.int 6), .k (.int 0)], none⟩] (some [3, 26, 27])))))
   (.ops false [
     ⟨some 36, .bin .add (.t 27) (.k (.int 1)), none⟩,
     ⟨some 27, .mov (.t 36), none⟩] (some [3, 26, 27]))))))))
 (.seq
 (.ops false [
   ⟨some 37, .mov (.t 3), none⟩,
   ⟨some 2, .mov (.t 37), none⟩] (some [2]))
 .ret)))))

theorem m59 : fmatch Try.prog Try.f59 1 [.tmp 2] v59 = true := by kernel_rfl

/-- (*steening/levels.bounds).sound -/
def v60 : VC :=
 (.seq
 (.ops false [
   ⟨some 3, .box 2003 3 (.t 1), none⟩] (some [0, 3]))
 (.seq
 (.ops false [
   ⟨some 4, .mov (.t 0), none⟩,
   ⟨some 5, .fld 0 (.t 3), none⟩,
   ⟨some 6, .load 1 false (.t 5) [], none⟩,
   ⟨some 7, .fld 2 (.t 3), none⟩,
   ⟨some 8, .load 1 false (.t 7) [], none⟩,
   ⟨some 9, .calli 65 [.t 4, .k (.int 6), .t 6, .t 8], none⟩] (some [0, 3]))
 (.ops false [
   ⟨some 10, .mov (.t 0), none⟩,
   ⟨some 11, .fld 0 (.t 3), none⟩,
   ⟨some 12, .load 1 false (.t 11) [], none⟩,
   ⟨some 13, .fld 1 (.t 3), none⟩,
   ⟨some 14, .load 1 false (.t 13) [], none⟩,
   ⟨some 15, .neg (.t 14), none⟩,
   ⟨some 16, .calli 65 [.t 10, .t 12, .k (.int 6), .t 15], none⟩] (some []))))

theorem m60 : fmatch Try.prog Try.f60 2 [] v60 = true := by kernel_rfl

/-- (*steening/levels.bounds).slope -/
def v61 : VC :=
 (.seq
 (.ops false [
   ⟨some 3, .box 3003 4 (.t 1), none⟩] (some [0, 3]))
 (.seq
 (.ops false [
   ⟨some 4, .mov (.t 0), none⟩,
   ⟨some 5, .fld 0 (.t 3), none⟩,
   ⟨some 6, .load 1 false (.t 5) [], none⟩,
   ⟨some 7, .fld 1 (.t 3), none⟩,
   ⟨some 8, .load 1 false (.t 7) [], none⟩,
   ⟨some 9, .fld 3 (.t 3), none⟩,
   ⟨some 10, .load 1 false (.t 9) [], none⟩,
   ⟨some 11, .calli 65 [.t 4, .t 6, .t 8, .t 10], none⟩] (some [0, 3]))
 (.ops false [
   ⟨some 12, .mov (.t 0), none⟩,
   ⟨some 13, .fld 1 (.t 3), none⟩,
   ⟨some 14, .load 1 false (.t 13) [], none⟩,
   ⟨some 15, .fld 0 (.t 3), none⟩,
   ⟨some 16, .load 1 false (.t 15) [], none⟩,
   ⟨some 17, .fld 2 (.t 3), none⟩,
   ⟨some 18, .load 1 false (.t 17) [], none⟩,
   ⟨some 19, .neg (.t 18), none⟩,
   ⟨some 20, .calli 65 [.t 12, .t 14, .t 16, .t 19], none⟩] (some []))))

theorem m61 : fmatch Try.prog Try.f61 2 [] v61 = true := by kernel_rfl

/-- (*steening/levels.bounds).close -/
def v62 : VC :=
 (.seq
 (.ops false [
   ⟨some 2, .mov (.k (.bool false)), none⟩] (some [0]))
 (.seq
 (.seq
 (.ops false [
   ⟨some 7, .mov (.k (.int 0)), none⟩] (some [0, 7]))
 (.block 0
  (.loop
   (.seq
   (.ops false [
     ⟨some 8, .bin .lss (.t 7) (.k (.int 7)), none⟩] (some [0, 7, 8]))
   (.seq
   (.cond (.t 8)
    .skip
    (.exit 0))
   (.seq
   (.block 1
    (.seq
    (.ops false [
      ⟨some 9, .mov (.t 7), none⟩,
      ⟨some 3, .mov (.t 9), none⟩] (some [0, 3, 7]))
    (.seq
    (.ops false [
      ⟨some 10, .mov (.k (.int 0)), none⟩] (some [0, 3, 7, 10]))
    (.block 2
     (.loop
      (.seq
      (.ops false [
        ⟨some 11, .bin .lss (.t 10) (.k (.int 7)), none⟩] (some [0, 3, 7, 10, 11]))
      (.seq
      (.cond (.t 11)
       .skip
       (.exit 2))
      (.seq
      (.block 3
       (.seq
       (.ops false [
         ⟨some 12, .mov (.t 10), none⟩,
         ⟨some 4, .mov (.t 12), none⟩] (some [0, 3, 4, 7, 10]))
       (.seq
       (.ops false [
         ⟨some 13, .mov (.k (.int 0)), none⟩] (some [0, 3, 4, 7, 10, 13]))
       (.block 4
        (.loop
         (.seq
         (.ops false [
           ⟨some 14, .bin .lss (.t 13) (.k (.int 7)), none⟩] (some [0, 3, 4, 7, 10, 13, 14]))
         (.seq
         (.cond (.t 14)
          .skip
          (.exit 4))
         (.seq
         (.block 5
          (.seq
          (.ops false [
            ⟨some 15, .mov (.t 13), none⟩,
            ⟨some 5, .mov (.t 15), none⟩] (some [0, 3, 4, 5, 7, 10, 13]))
          (.seq
          (.ops false [
            ⟨some 16, .mov (.t 0), none⟩,
            ⟨some 17, .mov (.t 4), none⟩,
            ⟨some 18, .mov (.t 3), none⟩,
            ⟨some 19, .nilck (.t 16), none⟩,
            ⟨some 20, .idxA 7 7 (.t 19) (.t 17), none⟩,
            ⟨some 21, .idxA 7 1 (.t 20) (.t 18), none⟩,
            ⟨some 22, .load 1 false (.t 21) [], none⟩,
            ⟨some 23, .bin .lss (.t 22) (.k (.int 1048576)), none⟩,
            ⟨some 24, .mov (.t 23), none⟩,
            ⟨some 25, .mov (.t 0), some (24, true)⟩,
            ⟨some 26, .mov (.t 3), some (24, true)⟩,
            ⟨some 27, .mov (.t 5), some (24, true)⟩,
            ⟨some 28, .nilck (.t 25), some (24, true)⟩,
            ⟨some 29, .idxA 7 7 (.t 28) (.t 26), some (24, true)⟩,
            ⟨some 30, .idxA 7 1 (.t 29) (.t 27), some (24, true)⟩,
            ⟨some 31, .load 1 false (.t 30) [], some (24, true)⟩,
            ⟨some 32, .bin .lss (.t 31) (.k (.int 1048576)), some (24, true)⟩,
            ⟨some 33, .pick (.t 24) (.t 32) (.k (.bool false)), none⟩] (some [0, 3, 4, 5, 7, 10, 13, 33]))
          (.cond (.t 33)
           (.opsB [
             ⟨some 34, .mov (.t 0), none⟩,
             ⟨some 35, .mov (.t 4), none⟩,
             ⟨some 36, .mov (.t 5), none⟩,
             ⟨some 37, .mov (.t 0), none⟩,
             ⟨some 38, .mov (.t 4), none⟩,
             ⟨some 39, .mov (.t 3), none⟩,
             ⟨some 40, .nilck (.t 37), none⟩,
             ⟨some 41, .idxA 7 7 (.t 40) (.t 38), none⟩,
             ⟨some 42, .idxA 7 1 (.t 41) (.t 39), none⟩,
             ⟨some 43, .load 1 false (.t 42) [], none⟩,
             ⟨some 44, .mov (.t 0), none⟩,
             ⟨some 45, .mov (.t 3), none⟩,
             ⟨some 46, .mov (.t 5), none⟩,
             ⟨some 47, .nilck (.t 44), none⟩,
             ⟨some 48, .idxA 7 7 (.t 47) (.t 45), none⟩,
             ⟨some 49, .idxA 7 1 (.t 48) (.t 46), none⟩,
             ⟨some 50, .load 1 false (.t 49) [], none⟩,
             ⟨some 51, .bin .add (.t 43) (.t 50), none⟩]
             ⟨some 52, .calli 65 [.t 34, .t 35, .t 36, .t 51], none⟩
             [] (some [0, 3, 4, 7, 10, 13]))
           .skip))))
         (.ops false [
           ⟨some 53, .bin .add (.t 13) (.k (.int 1)), none⟩,
           ⟨some 13, .mov (.t 53), none⟩] (some [0, 3, 4, 7, 10, 13]))))))))))
      (.ops false [
        ⟨some 54, .bin .add (.t 10) (.k (.int 1)), none⟩,
        ⟨some 10, .mov (.t 54), none⟩] (some [0, 3, 7, 10]))))))))))
   (.ops false [
     ⟨some 55, .bin .add (.t 7) (.k (.int 1)), none⟩,
     ⟨some 7, .mov (.t 55), none⟩] (some [0, 7]))))))))
 (.seq
 (.seq
 (.ops false [
   ⟨some 56, .mov (.k (.int 0)), none⟩] (some [0, 56]))
 (.block 6
  (.loop
   (.seq
   (.ops false [
     ⟨some 57, .bin .lss (.t 56) (.k (.int 7)), none⟩] (some [0, 56, 57]))
   (.seq
   (.cond (.t 57)
    .skip
    (.exit 6))
   (.seq
   (.block 7
    (.seq
    (.ops false [
      ⟨some 58, .mov (.t 56), none⟩,
      ⟨some 6, .mov (.t 58), none⟩] (some [0, 6, 56]))
    (.seq
    (.ops false [
      ⟨some 59, .mov (.t 0), none⟩,
      ⟨some 60, .mov (.t 6), none⟩,
      ⟨some 61, .mov (.t 6), none⟩,
      ⟨some 62, .nilck (.t 59), none⟩,
      ⟨some 63, .idxA 7 7 (.t 62) (.t 60), none⟩,
      ⟨some 64, .idxA 7 1 (.t 63) (.t 61), none⟩,
      ⟨some 65, .load 1 false (.t 64) [], none⟩,
      ⟨some 66, .bin .lss (.t 65) (.k (.int 0)), none⟩] (some [0, 56, 66]))
    (.cond (.t 66)
     (.seq
     (.ops false [
       ⟨some 2, .mov (.k (.bool false)), none⟩] (some [2]))
     .ret)
     .skip))))
   (.ops false [
     ⟨some 67, .bin .add (.t 56) (.k (.int 1)), none⟩,
     ⟨some 56, .mov (.t 67), none⟩] (some [0, 56]))))))))
 (.seq
 (.ops false [
   ⟨some 2, .mov (.k (.bool true)), none⟩] (some [2]))
 .ret))))

theorem m62 : fmatch Try.prog Try.f62 1 [.tmp 2] v62 = true := by kernel_rfl

/-- cmp.Or[int] -/
def v63 : VC :=
 (.seq
 (.ops false [
   ⟨some 2, .mov (.k (.int 0)), none⟩] (some [0]))
 (.seq
 (.ops false [
   ⟨some 3, .mov (.k (.int 0)), none⟩] (some [0, 3]))
 (.seq
 (.seq
 (.ops false [
   ⟨some 6, .mov (.t 0), none⟩,
   ⟨some 7, .len (.t 6), none⟩,
   ⟨some 8, .mov (.k (.int 0)), none⟩] (some [3, 6, 7, 8]))
 (.block 0
  (.loop
   (.seq
   (.ops false [
     ⟨some 9, .bin .lss (.t 8) (.t 7), none⟩] (some [3, 6, 7, 8, 9]))
   (.seq
   (.cond (.t 9)
    .skip
    (.exit 0))
   (.seq
   (.block 1
    (.seq
    (.ops false [
      ⟨some 10, .idx 1 (.t 6) (.t 8), none⟩,
      ⟨some 11, .load 1 false (.t 10) [], none⟩,
      ⟨some 5, .mov (.t 11), none⟩] (some [3, 5, 6, 7, 8]))
    (.seq
    (.ops false [
      ⟨some 12, .mov (.t 5), none⟩,
      ⟨some 13, .mov (.t 3), none⟩,
      ⟨some 14, .bin .neq (.t 12) (.t 13), none⟩] (some [3, 5, 6, 7, 8, 14]))
    (.cond (.t 14)
     (.seq
     (.ops false [
       ⟨some 15, .mov (.t 5), none⟩,
       ⟨some 2, .mov (.t 15), none⟩] (some [2]))
     .ret)
     .skip))))
   (.ops false [
     ⟨some 16, .bin .add (.t 8) (.k (.int 1)), none⟩,
     ⟨some 8, .mov (.t 16), none⟩] (some [3, 6, 7, 8]))))))))
 (.seq
 (.ops false [
   ⟨some 17, .mov (.t 3), none⟩,
   ⟨some 2, .mov (.t 17), none⟩] (some [2]))
 .ret))))

theorem m63 : fmatch Try.prog Try.f63 1 [.tmp 2] v63 = true := by kernel_rfl

/-- cmp.Compare[int] -/
def v64 : VC :=
 (.seq
 (.ops false [
   ⟨some 4, .mov (.k (.int 0)), none⟩] (some [0, 1]))
 (.seq
 (.ops false [
   ⟨some 7, .mov (.t 0), none⟩,
   ⟨some 8, .call 66 [.t 7], none⟩,
   ⟨some 5, .mov (.t 8), none⟩] (some [0, 1, 5]))
 (.seq
 (.ops false [
   ⟨some 9, .mov (.t 1), none⟩,
   ⟨some 10, .call 66 [.t 9], none⟩,
   ⟨some 6, .mov (.t 10), none⟩] (some [0, 1, 5, 6]))
 (.seq
 (.seq
 (.ops false [
   ⟨some 11, .mov (.t 5), none⟩] (some [0, 1, 6, 11]))
 (.cond (.t 11)
  (.seq
  (.seq
  (.ops false [
    ⟨some 12, .mov (.t 6), none⟩] (some [12]))
  (.cond (.t 12)
   (.seq
   (.ops false [
     ⟨some 4, .mov (.k (.int 0)), none⟩] (some [4]))
   .ret)
   .skip))
  (.seq
  (.ops false [
    ⟨some 4, .mov (.k (.int (-1))), none⟩] (some [4]))
  .ret))
  .skip))
 (.seq
 (.seq
 (.ops false [
   ⟨some 13, .mov (.t 6), none⟩] (some [0, 1, 13]))
 (.cond (.t 13)
  (.seq
  (.ops false [
    ⟨some 4, .mov (.k (.int 1)), none⟩] (some [4]))
  .ret)
  .skip))
 (.seq
 (.seq
 (.ops false [
   ⟨some 14, .mov (.t 0), none⟩,
   ⟨some 15, .mov (.t 1), none⟩,
   ⟨some 16, .bin .lss (.t 14) (.t 15), none⟩] (some [0, 1, 16]))
 (.cond (.t 16)
  (.seq
  (.ops false [
    ⟨some 4, .mov (.k (.int (-1))), none⟩] (some [4]))
  .ret)
  .skip))
 (.seq
 (.seq
 (.ops false [
   ⟨some 17, .mov (.t 0), none⟩,
   ⟨some 18, .mov (.t 1), none⟩,
   ⟨some 19, .bin .gtr (.t 17) (.t 18), none⟩] (some [19]))
 (.cond (.t 19)
  (.seq
  (.ops false [
    ⟨some 4, .mov (.k (.int 1)), none⟩] (some [4]))
  .ret)
  .skip))
 (.seq
 (.ops false [
   ⟨some 4, .mov (.k (.int 0)), none⟩] (some [4]))
 .ret))))))))

theorem m64 : fmatch Try.prog Try.f64 2 [.tmp 4] v64 = true := by kernel_rfl

/-- (*steening/levels.bounds).leave -/
def v65 : VC :=
 (.ops true [
   ⟨some 8, .mov (.t 0), none⟩,
   ⟨some 9, .mov (.t 1), none⟩,
   ⟨some 10, .mov (.t 2), none⟩,
   ⟨some 11, .mov (.t 0), none⟩,
   ⟨some 12, .mov (.t 1), none⟩,
   ⟨some 13, .mov (.t 2), none⟩,
   ⟨some 14, .nilck (.t 11), none⟩,
   ⟨some 15, .idxA 7 7 (.t 14) (.t 12), none⟩,
   ⟨some 16, .idxA 7 1 (.t 15) (.t 13), none⟩,
   ⟨some 17, .load 1 false (.t 16) [], none⟩,
   ⟨some 18, .mov (.t 3), none⟩,
   ⟨some 19, .min (.t 17) (.t 18), none⟩,
   ⟨some 20, .nilck (.t 8), none⟩,
   ⟨some 21, .idxA 7 7 (.t 20) (.t 9), none⟩,
   ⟨some 22, .idxA 7 1 (.t 21) (.t 10), none⟩,
   ⟨none, .store 1 (.t 22) (.t 19) none, none⟩] (some []))

theorem m65 : fmatch Try.prog Try.f65 4 [] v65 = true := by kernel_rfl

/-- cmp.isNaN[int] -/
def v66 : VC :=
 (.seq
 (.ops false [
   ⟨some 2, .mov (.k (.bool false)), none⟩] (some [0]))
 (.seq
 (.ops false [
   ⟨some 3, .mov (.t 0), none⟩,
   ⟨some 4, .mov (.t 0), none⟩,
   ⟨some 5, .bin .neq (.t 3) (.t 4), none⟩,
   ⟨some 2, .mov (.t 5), none⟩] (some [2]))
 .ret))

theorem m66 : fmatch Try.prog Try.f66 1 [.tmp 2] v66 = true := by kernel_rfl

end Go.Proofs.Ytpangdaijhiohaa


/- The compact code of the functions, and that it is theirs. -/
namespace Go.Proofs.Ytpangdaijhiohaa
open Go Go.V
set_option maxRecDepth 100000

/-- (steening/dowsers.guess).with -/
def v46g : VC :=
 (.seq
 (.ops false [
   ⟨some 3, .box 3 2 (.t 0), none⟩,
   ⟨some 6, .alloc 6 [.sl 1 [] .full, .int 0], none⟩] (some [1, 2, 3, 6]))
 (.seq
 (.ops true [
   ⟨some 10, .fld 0 (.t 3), none⟩,
   ⟨some 11, .load 1 false (.t 10) [7, 14], none⟩,
   ⟨some 12, .len (.t 11), none⟩,
   ⟨some 13, .bin .add (.t 12) (.k (.int 1)), none⟩,
   ⟨some 14, .makes 14 1 8 false [.int 0] (.t 13), none⟩,
   ⟨some 15, .fld 1 (.t 3), none⟩,
   ⟨some 16, .load 1 false (.t 15) [7, 14], none⟩,
   ⟨some 17, .mov (.t 2), none⟩,
   ⟨some 18, .bin .mul (.t 16) (.t 17), none⟩,
   ⟨some 19, .buildW [.sl 1 [] .sh, .int 0] [(0, 1, .t 14), (1, 1, .t 18)], none⟩,
   ⟨some 7, .alloc 7 [.sl 1 [] .full, .int 0], none⟩,
   ⟨none, .store 2 (.t 7) (.t 19) (some 7), none⟩] (some [1, 2, 3, 6, 7]))
 (.seq
 (.seq
 (.ops false [
   ⟨some 20, .fld 0 (.t 3), none⟩,
   ⟨some 21, .load 1 false (.t 20) [], none⟩,
   ⟨some 22, .len (.t 21), none⟩,
   ⟨some 23, .mov (.k (.int 0)), none⟩] (some [1, 2, 6, 7, 21, 22, 23]))
 (.block 0
  (.loop
   (.seq
   (.ops false [
     ⟨some 24, .bin .lss (.t 23) (.t 22), none⟩] (some [1, 2, 6, 7, 21, 22, 23, 24]))
   (.seq
   (.cond (.t 24)
    .skip
    (.exit 0))
   (.seq
   (.block 1
    (.seq
    (.ops false [
      ⟨some 25, .mov (.t 23), none⟩,
      ⟨some 26, .idx 1 (.t 21) (.t 23), none⟩,
      ⟨some 27, .load 1 false (.t 26) [], none⟩,
      ⟨some 8, .mov (.t 25), none⟩,
      ⟨some 9, .mov (.t 27), none⟩] (some [1, 2, 6, 7, 8, 9, 21, 22, 23]))
    (.seq
    (.ops false [
      ⟨some 28, .fld 0 (.t 7), none⟩,
      ⟨some 29, .load 1 false (.t 28) [], none⟩,
      ⟨some 30, .mov (.t 8), none⟩,
      ⟨some 31, .idx 1 (.t 29) (.t 30), none⟩,
      ⟨some 32, .load 1 false (.t 31) [], none⟩,
      ⟨some 33, .mov (.t 9), none⟩,
      ⟨some 34, .mov (.t 2), none⟩,
      ⟨some 35, .mov (.t 1), none⟩,
      ⟨some 36, .bin .sub (.t 34) (.t 35), none⟩,
      ⟨some 37, .bin .mul (.t 33) (.t 36), none⟩,
      ⟨some 38, .bin .add (.t 32) (.t 37), none⟩,
      ⟨some 39, .idx 1 (.t 29) (.t 30), none⟩,
      ⟨none, .store 1 (.t 39) (.t 38) none, none⟩] (some [1, 2, 6, 7, 8, 9, 21, 22, 23]))
    (.ops false [
      ⟨some 40, .fld 0 (.t 7), none⟩,
      ⟨some 41, .load 1 false (.t 40) [], none⟩,
      ⟨some 42, .mov (.t 8), none⟩,
      ⟨some 43, .bin .add (.t 42) (.k (.int 1)), none⟩,
      ⟨some 44, .idx 1 (.t 41) (.t 43), none⟩,
      ⟨some 45, .load 1 false (.t 44) [], none⟩,
      ⟨some 46, .mov (.t 9), none⟩,
      ⟨some 47, .mov (.t 1), none⟩,
      ⟨some 48, .bin .mul (.t 46) (.t 47), none⟩,
      ⟨some 49, .bin .add (.t 45) (.t 48), none⟩,
      ⟨some 50, .idx 1 (.t 41) (.t 43), none⟩,
      ⟨none, .store 1 (.t 50) (.t 49) none, none⟩] (some [1, 2, 6, 7, 21, 22, 23])))))
   (.ops false [
     ⟨some 51, .bin .add (.t 23) (.k (.int 1)), none⟩,
     ⟨some 23, .mov (.t 51), none⟩] (some [1, 2, 6, 7, 21, 22, 23]))))))))
 (.seq
 (.ops false [
   ⟨some 52, .load 2 true (.t 7) [], none⟩,
   ⟨none, .store 2 (.t 6) (.t 52) (some 6), none⟩] (some [6]))
 .ret))))

theorem m46g : fmatch Try.prog Try.f46 3 [.cell 6 80] v46g = true := by kernel_rfl

/-- steening/steeningref01.Copy -/
def v25f : VC :=
 (.seq
 (.ops false [
   ⟨some 1, .box 5001 3 (.t 0), none⟩,
   ⟨some 2, .alloc 5002 [.int 0, .sl 3 [] .full, .sl 4 [] .full], none⟩] (some [1, 2]))
 (.seq
 (.ops true [
   ⟨some 3, .fld 0 (.t 1), none⟩,
   ⟨some 4, .load 1 false (.t 3) [5002, 1048576], none⟩,
   ⟨some 5, .bslice 3 [], none⟩,
   ⟨some 6, .fld 1 (.t 1), none⟩,
   ⟨some 7, .load 1 false (.t 6) [5002, 1048576], none⟩,
   ⟨some 8, .appG 1 none 3 24 true (.t 5) (.t 7), none⟩,
   ⟨some 9, .bslice 4 [], none⟩,
   ⟨some 10, .fld 2 (.t 1), none⟩,
   ⟨some 11, .load 1 false (.t 10) [5002, 1048576], none⟩,
   ⟨some 12, .app 5012 4 32 (.t 9) (.t 11), none⟩,
   ⟨some 13, .buildW [.int 0, .sl 3 [] .full, .sl 4 [] .full] [(0, 1, .t 4), (1, 1, .t 8), (2, 1, .t 12)], none⟩,
   ⟨none, .store 3 (.t 2) (.t 13) (some 5002), none⟩] (some [2]))
 .ret))

theorem m25f : fmatch Try.prog Try.f25 1 [.cell 2 25] v25f = true := by kernel_rfl

/-- steening/steeningref01.Sounded -/
def v8g : VC :=
 (.seq
 (.ops false [
   ⟨some 2, .box 2 3 (.t 0), none⟩,
   ⟨some 3, .box 3 3 (.t 1), none⟩,
   ⟨some 4, .alloc 4 [.int 0, .sl 3 [] .full, .sl 4 [] .full], none⟩] (some [2, 3, 4]))
 (.seq
 (.ops false [
   ⟨some 6, .load 3 true (.t 2) [], none⟩,
   ⟨some 7, .calli 25 [.t 6], none⟩,
   ⟨some 5, .alloc 5 [.int 0, .sl 3 [] .full, .sl 4 [] .full], none⟩,
   ⟨none, .store 3 (.t 5) (.t 7) (some 5), none⟩] (some [3, 4, 5]))
 (.seq
 (.ops false [
   ⟨some 8, .fld 1 (.t 5), none⟩,
   ⟨some 9, .load 1 false (.t 8) [], none⟩,
   ⟨some 10, .load 3 true (.t 3) [], none⟩,
   ⟨some 11, .bslice 3 [.t 10], none⟩,
   ⟨some 12, .appG 1 none 3 24 true (.t 9) (.t 11), none⟩,
   ⟨some 13, .fld 1 (.t 5), none⟩,
   ⟨none, .store 1 (.t 13) (.t 12) (some 5), none⟩] (some [4, 5]))
 (.seq
 (.opsN false [
   ⟨some 14, .load 3 true (.t 5) [], none⟩,
   ⟨none, .store 3 (.t 4) (.t 14) (some 4), none⟩] (some [4]))
 .ret))))

theorem m8g : fmatch Try.prog Try.f8 2 [.cell 4 25] v8g = true := by kernel_rfl

/-- steening/steeningtop.sayings -/
def v9i : VC :=
 (.seq
 (.ops false [
   ⟨some 2, .box 6002 3 (.t 0), none⟩,
   ⟨some 4, .nils 6004 4, none⟩,
   ⟨some 5, .mov (.k (.bool false)), none⟩] (some [1, 2]))
 (.seq
 (.ops false [
   ⟨some 6, .nils 6006 4, none⟩] (some [1, 2, 6]))
 (.seq
 (.seq
 (.ops false [
   ⟨some 7, .mov (.k (.int 0)), none⟩] (some [1, 2, 6, 7]))
 (.block 0
  (.loop
   (.seq
   (.seq
   (.ops false [
     ⟨some 10, .mov (.t 7), none⟩,
     ⟨some 11, .fld 0 (.t 2), none⟩,
     ⟨some 12, .load 1 false (.t 11) [], none⟩,
     ⟨some 13, .bin .lss (.t 10) (.t 12), none⟩] (some [1, 2, 6, 7, 13]))
   (.cond (.t 13)
    .skip
    (.exit 0)))
   (.seq
   (.block 1
    (.seq
    (.ops false [
      ⟨some 17, .load 3 true (.t 2) [], none⟩,
      ⟨some 18, .mov (.t 7), none⟩,
      ⟨some 19, .call 26 [.t 17, .t 18], none⟩,
      ⟨some 16, .mov (.t 19), none⟩,
      ⟨some 20, .ext (.t 16) 0, none⟩,
      ⟨some 21, .ext (.t 16) 1, none⟩,
      ⟨some 8, .alloc 6008 [.int 0, .int 0], none⟩,
      ⟨none, .store 2 (.t 8) (.t 20) (some 6008), none⟩,
      ⟨some 9, .mov (.t 21), none⟩] (some [1, 2, 6, 7, 8, 9]))
    (.seq
    (.seq
    (.ops false [
      ⟨some 22, .mov (.t 9), none⟩,
      ⟨some 23, .bin .neq (.t 22) (.k (.int 0)), none⟩,
      ⟨some 24, .mov (.t 23), none⟩,
      ⟨some 25, .fld 0 (.t 8), some (24, false)⟩,
      ⟨some 26, .load 1 false (.t 25) [], some (24, false)⟩,
      ⟨some 27, .bin .lss (.t 26) (.k (.int 0)), some (24, false)⟩,
      ⟨some 28, .pick (.t 24) (.k (.bool true)) (.t 27), none⟩,
      ⟨some 29, .mov (.t 28), none⟩,
      ⟨some 30, .fld 0 (.t 8), some (29, false)⟩,
      ⟨some 31, .load 1 false (.t 30) [], some (29, false)⟩,
      ⟨some 32, .fld 1 (.t 8), some (29, false)⟩,
      ⟨some 33, .load 1 false (.t 32) [], some (29, false)⟩,
      ⟨some 34, .bin .gtr (.t 31) (.t 33), some (29, false)⟩,
      ⟨some 35, .pick (.t 29) (.k (.bool true)) (.t 34), none⟩,
      ⟨some 36, .mov (.t 35), none⟩,
      ⟨some 37, .fld 1 (.t 8), some (36, false)⟩,
      ⟨some 38, .load 1 false (.t 37) [], some (36, false)⟩,
      ⟨some 39, .bin .gtr (.t 38) (.k (.int 99)), some (36, false)⟩,
      ⟨some 40, .pick (.t 36) (.k (.bool true)) (.t 39), none⟩] (some [1, 2, 6, 7, 8, 40]))
    (.cond (.t 40)
     (.seq
     (.ops false [
       ⟨some 4, .nils 6502 4, none⟩,
       ⟨some 5, .mov (.k (.bool false)), none⟩] (some [4, 5]))
     .ret)
     .skip))
    (.ops false [
      ⟨some 41, .mov (.t 6), none⟩,
      ⟨some 42, .mov (.t 1), none⟩,
      ⟨some 43, .mov (.t 7), none⟩,
      ⟨some 44, .fld 0 (.t 8), none⟩,
      ⟨some 45, .load 1 false (.t 44) [], none⟩,
      ⟨some 46, .fld 1 (.t 8), none⟩,
      ⟨some 47, .load 1 false (.t 46) [], none⟩,
      ⟨some 48, .build [.int 0, .int 0, .int 0, .int 0] [(0, 1, .t 42), (1, 1, .t 43), (2, 1, .t 45), (3, 1, .t 47)], none⟩,
      ⟨some 49, .bslice 4 [.t 48], none⟩,
      ⟨some 50, .app 6006 4 32 (.t 41) (.t 49), none⟩,
      ⟨some 6, .mov (.t 50), none⟩] (some [1, 2, 6, 7])))))
   (.ops false [
     ⟨some 14, .mov (.t 7), none⟩,
     ⟨some 15, .bin .add (.t 14) (.k (.int 1)), none⟩,
     ⟨some 7, .mov (.t 15), none⟩] (some [1, 2, 6, 7])))))))
 (.seq
 (.ops false [
   ⟨some 51, .mov (.t 6), none⟩,
   ⟨some 4, .mov (.t 51), none⟩,
   ⟨some 5, .mov (.k (.bool true)), none⟩] (some [4, 5]))
 .ret))))

theorem m9i : fmatch Try.prog Try.f9 2 [.tmp 4, .tmp 5] v9i = true := by kernel_rfl

/-- steening/steeningtop.TopJudged -/
def v3i : VC :=
 (.seq
 (.ops false [
   ⟨some 2, .box 2 3 (.t 0), none⟩,
   ⟨some 3, .box 3 4 (.t 1), none⟩,
   ⟨some 4, .mov (.k (.bool false)), none⟩] (some [2, 3]))
 (.seq
 (.seq
 (.ops false [
   ⟨some 30, .load 3 true (.t 2) [], none⟩,
   ⟨some 31, .call 4 [.t 30], none⟩,
   ⟨some 32, .mov (.t 31), none⟩,
   ⟨some 33, .load 3 true (.t 2) [], some (32, false)⟩,
   ⟨some 34, .call 5 [.t 33], some (32, false)⟩,
   ⟨some 35, .bin .neq (.t 34) (.k (.int 0)), some (32, false)⟩,
   ⟨some 36, .pick (.t 32) (.k (.bool true)) (.t 35), none⟩,
   ⟨some 37, .mov (.t 36), none⟩,
   ⟨some 38, .fld 0 (.t 3), some (37, false)⟩,
   ⟨some 39, .load 1 false (.t 38) [], some (37, false)⟩,
   ⟨some 40, .len (.t 39), some (37, false)⟩,
   ⟨some 41, .bin .gtr (.t 40) (.k (.int 40)), some (37, false)⟩,
   ⟨some 42, .pick (.t 37) (.k (.bool true)) (.t 41), none⟩,
   ⟨some 43, .mov (.t 42), none⟩,
   ⟨some 44, .load 3 true (.t 2) [], some (43, false)⟩,
   ⟨some 45, .fld 0 (.t 3), some (43, false)⟩,
   ⟨some 46, .load 1 false (.t 45) [], some (43, false)⟩,
   ⟨some 47, .call 6 [.t 44, .t 46], some (43, false)⟩,
   ⟨some 48, .not (.t 47), some (43, false)⟩,
   ⟨some 49, .pick (.t 43) (.k (.bool true)) (.t 48), none⟩] (some [2, 3, 49]))
 (.cond (.t 49)
  (.seq
  (.ops false [
    ⟨some 50, .call 7 [], none⟩,
    ⟨some 4, .mov (.t 50), none⟩] (some [4]))
  .ret)
  .skip))
 (.seq
 (.ops false [
   ⟨some 51, .load 3 true (.t 2) [], none⟩,
   ⟨some 52, .fld 1 (.t 3), none⟩,
   ⟨some 53, .load 3 true (.t 52) [], none⟩,
   ⟨some 54, .call 8 [.t 51, .t 53], none⟩,
   ⟨some 5, .alloc 5 [.int 0, .sl 3 [] .full, .sl 4 [] .full], none⟩,
   ⟨none, .store 3 (.t 5) (.t 54) (some 5), none⟩] (some [2, 3, 5]))
 (.seq
 (.seq
 (.ops false [
   ⟨some 55, .load 3 true (.t 5) [], none⟩,
   ⟨some 56, .call 4 [.t 55], none⟩,
   ⟨some 57, .mov (.t 56), none⟩,
   ⟨some 58, .load 3 true (.t 5) [], some (57, false)⟩,
   ⟨some 59, .call 5 [.t 58], some (57, false)⟩,
   ⟨some 60, .bin .neq (.t 59) (.k (.int 0)), some (57, false)⟩,
   ⟨some 61, .pick (.t 57) (.k (.bool true)) (.t 60), none⟩,
   ⟨some 62, .mov (.t 61), none⟩,
   ⟨some 63, .load 3 true (.t 5) [], some (62, false)⟩,
   ⟨some 64, .fld 0 (.t 3), some (62, false)⟩,
   ⟨some 65, .load 1 false (.t 64) [], some (62, false)⟩,
   ⟨some 66, .call 6 [.t 63, .t 65], some (62, false)⟩,
   ⟨some 67, .not (.t 66), some (62, false)⟩,
   ⟨some 68, .pick (.t 62) (.k (.bool true)) (.t 67), none⟩] (some [2, 3, 5, 68]))
 (.cond (.t 68)
  (.seq
  (.ops false [
    ⟨some 69, .call 7 [], none⟩,
    ⟨some 4, .mov (.t 69), none⟩] (some [4]))
  .ret)
  .skip))
 (.seq
 (.ops false [
   ⟨some 71, .load 3 true (.t 2) [], none⟩,
   ⟨some 72, .calli 9 [.t 71, .k (.int 0)], none⟩,
   ⟨some 70, .mov (.t 72), none⟩,
   ⟨some 73, .ext (.t 70) 0, none⟩,
   ⟨some 74, .ext (.t 70) 1, none⟩,
   ⟨some 6, .mov (.t 73), none⟩,
   ⟨some 7, .mov (.t 74), none⟩] (some [2, 3, 5, 6, 7]))
 (.seq
 (.ops false [
   ⟨some 76, .load 3 true (.t 5) [], none⟩,
   ⟨some 77, .call 9 [.t 76, .k (.int 1)], none⟩,
   ⟨some 75, .mov (.t 77), none⟩,
   ⟨some 78, .ext (.t 75) 0, none⟩,
   ⟨some 79, .ext (.t 75) 1, none⟩,
   ⟨some 8, .mov (.t 78), none⟩,
   ⟨some 9, .mov (.t 79), none⟩] (some [2, 3, 6, 7, 8, 9]))
 (.seq
 (.seq
 (.ops false [
   ⟨some 80, .mov (.t 7), none⟩,
   ⟨some 81, .not (.t 80), none⟩,
   ⟨some 82, .mov (.t 81), none⟩,
   ⟨some 83, .mov (.t 9), some (82, false)⟩,
   ⟨some 84, .not (.t 83), some (82, false)⟩,
   ⟨some 85, .pick (.t 82) (.k (.bool true)) (.t 84), none⟩] (some [2, 3, 6, 8, 85]))
 (.cond (.t 85)
  (.seq
  (.ops false [
    ⟨some 4, .mov (.k (.bool false)), none⟩] (some [4]))
  .ret)
  .skip))
 (.seq
 (.ops false [
   ⟨some 86, .bslice 1 [], none⟩,
   ⟨some 87, .fld 0 (.t 3), none⟩,
   ⟨some 88, .load 1 false (.t 87) [], none⟩,
   ⟨some 89, .app 89 1 8 (.t 86) (.t 88), none⟩,
   ⟨some 90, .mov (.t 6), none⟩,
   ⟨some 91, .mov (.t 8), none⟩,
   ⟨some 92, .app 6006 4 32 (.t 90) (.t 91), none⟩,
   ⟨some 93, .build [.int 0, .sl 1 [] .sh, .int 0, .sl 4 [] .sh, .int 0] [(0, 1, .k (.int 12)), (1, 1, .t 89), (2, 1, .k (.int 2)), (3, 1, .t 92)], none⟩,
   ⟨some 10, .alloc 10 [.int 0, .sl 1 [] .full, .int 0, .sl 4 [] .full, .int 0], none⟩,
   ⟨none, .store 5 (.t 10) (.t 93) (some 10), none⟩] (some [2, 6, 10]))
 (.seq
 (.seq
 (.ops false [
   ⟨some 94, .load 5 true (.t 10) [], none⟩,
   ⟨some 95, .call 10 [.t 94], none⟩,
   ⟨some 96, .bin .neq (.t 95) (.k (.int 0)), none⟩] (some [2, 6, 10, 96]))
 (.cond (.t 96)
  (.seq
  (.ops false [
    ⟨some 97, .call 7 [], none⟩,
    ⟨some 4, .mov (.t 97), none⟩] (some [4]))
  .ret)
  .skip))
 (.seq
 (.ops false [
   ⟨some 11, .mov (.k (.int 0)), none⟩,
   ⟨some 12, .mov (.k (.int 1)), none⟩,
   ⟨some 13, .mov (.k (.int 1)), none⟩] (some [2, 6, 10, 11, 12, 13]))
 (.seq
 (.seq
 (.ops false [
   ⟨some 14, .mov (.k (.int 0)), none⟩] (some [2, 6, 10, 11, 12, 13, 14]))
 (.block 0
  (.loop
   (.seq
   (.seq
   (.ops false [
     ⟨some 98, .mov (.t 14), none⟩,
     ⟨some 99, .fld 0 (.t 2), none⟩,
     ⟨some 100, .load 1 false (.t 99) [], none⟩,
     ⟨some 101, .bin .lss (.t 98) (.t 100), none⟩] (some [2, 6, 10, 11, 12, 13, 14, 101]))
   (.cond (.t 101)
    .skip
    (.exit 0)))
   (.seq
   (.block 1
    (.seq
    (.ops false [
      ⟨some 105, .load 5 true (.t 10) [], none⟩,
      ⟨some 106, .mov (.t 14), none⟩,
      ⟨some 107, .call 11 [.t 105, .t 106], none⟩,
      ⟨some 104, .mov (.t 107), none⟩,
      ⟨some 108, .ext (.t 104) 0, none⟩,
      ⟨some 109, .ext (.t 104) 1, none⟩,
      ⟨some 15, .mov (.t 108), none⟩,
      ⟨some 16, .mov (.t 109), none⟩] (some [2, 6, 10, 11, 12, 13, 14, 15, 16]))
    (.seq
    (.ops false [
      ⟨some 111, .load 5 true (.t 10) [], none⟩,
      ⟨some 112, .fld 0 (.t 2), none⟩,
      ⟨some 113, .load 1 false (.t 112) [], none⟩,
      ⟨some 114, .mov (.t 14), none⟩,
      ⟨some 115, .bin .add (.t 113) (.t 114), none⟩,
      ⟨some 116, .call 11 [.t 111, .t 115], none⟩,
      ⟨some 110, .mov (.t 116), none⟩,
      ⟨some 117, .ext (.t 110) 0, none⟩,
      ⟨some 118, .ext (.t 110) 1, none⟩,
      ⟨some 17, .mov (.t 117), none⟩,
      ⟨some 18, .mov (.t 118), none⟩] (some [2, 6, 10, 11, 12, 13, 14, 15, 16, 17, 18]))
    (.seq
    (.seq
    (.ops false [
      ⟨some 119, .mov (.t 16), none⟩,
      ⟨some 120, .bin .neq (.t 119) (.k (.int 0)), none⟩,
      ⟨some 121, .mov (.t 120), none⟩,
      ⟨some 122, .mov (.t 18), some (121, false)⟩,
      ⟨some 123, .bin .neq (.t 122) (.k (.int 0)), some (121, false)⟩,
      ⟨some 124, .pick (.t 121) (.k (.bool true)) (.t 123), none⟩,
      ⟨some 125, .mov (.t 124), none⟩,
      ⟨some 126, .mov (.t 15), some (125, false)⟩,
      ⟨some 127, .bin .neq (.t 126) (.k (.int 1)), some (125, false)⟩,
      ⟨some 128, .pick (.t 125) (.k (.bool true)) (.t 127), none⟩,
      ⟨some 129, .mov (.t 128), none⟩,
      ⟨some 130, .mov (.t 17), some (129, false)⟩,
      ⟨some 131, .bin .neq (.t 130) (.k (.int 1)), some (129, false)⟩,
      ⟨some 132, .pick (.t 129) (.k (.bool true)) (.t 131), none⟩] (some [2, 6, 10, 11, 12, 13, 14, 132]))
    (.cond (.t 132)
     (.seq
     (.ops false [
       ⟨some 4, .mov (.k (.bool false)), none⟩] (some [4]))
     .ret)
     .skip))
    (.seq
    (.ops false [
      ⟨some 133, .mov (.t 6), none⟩,
      ⟨some 134, .mov (.t 14), none⟩,
      ⟨some 135, .idx 4 (.t 133) (.t 134), none⟩,
      ⟨some 136, .load 4 true (.t 135) [], none⟩,
      ⟨some 137, .call 12 [.t 136], none⟩,
      ⟨some 19, .mov (.t 137), none⟩] (some [2, 6, 10, 11, 12, 13, 14, 19]))
    (.ops true [
      ⟨some 138, .mov (.t 11), none⟩,
      ⟨some 139, .fld 0 (.t 10), none⟩,
      ⟨some 140, .load 1 false (.t 139) [], none⟩,
      ⟨some 141, .bin .add (.t 138) (.t 140), none⟩,
      ⟨some 142, .mov (.t 19), none⟩,
      ⟨some 143, .bin .sub (.t 141) (.t 142), none⟩,
      ⟨some 144, .mov (.t 12), none⟩,
      ⟨some 145, .mov (.t 19), none⟩,
      ⟨some 146, .bin .mul (.t 144) (.t 145), none⟩,
      ⟨some 147, .mov (.t 13), none⟩,
      ⟨some 148, .fld 0 (.t 10), none⟩,
      ⟨some 149, .load 1 false (.t 148) [], none⟩,
      ⟨some 150, .bin .mul (.t 147) (.t 149), none⟩,
      ⟨some 11, .mov (.t 143), none⟩,
      ⟨some 12, .mov (.t 146), none⟩,
      ⟨some 13, .mov (.t 150), none⟩] (some [2, 6, 10, 11, 12, 13, 14])))))))
   (.ops false [
     ⟨some 102, .mov (.t 14), none⟩,
     ⟨some 103, .bin .add (.t 102) (.k (.int 1)), none⟩,
     ⟨some 14, .mov (.t 103), none⟩] (some [2, 6, 10, 11, 12, 13, 14])))))))
 (.seq
 (.ops false [
   ⟨some 152, .load 5 true (.t 10) [], none⟩,
   ⟨some 153, .call 13 [.t 152, .k (.int 0)], none⟩,
   ⟨some 151, .mov (.t 153), none⟩,
   ⟨some 154, .ext (.t 151) 0, none⟩,
   ⟨some 155, .ext (.t 151) 1, none⟩,
   ⟨some 20, .mov (.t 154), none⟩,
   ⟨some 21, .mov (.t 155), none⟩] (some [10, 11, 12, 13, 20, 21]))
 (.seq
 (.ops false [
   ⟨some 157, .load 5 true (.t 10) [], none⟩,
   ⟨some 158, .call 13 [.t 157, .k (.int 1)], none⟩,
   ⟨some 156, .mov (.t 158), none⟩,
   ⟨some 159, .ext (.t 156) 0, none⟩,
   ⟨some 160, .ext (.t 156) 1, none⟩,
   ⟨some 22, .mov (.t 159), none⟩,
   ⟨some 23, .mov (.t 160), none⟩] (some [10, 11, 12, 13, 20, 21, 22, 23]))
 (.seq
 (.ops false [
   ⟨some 162, .load 5 true (.t 10) [], none⟩,
   ⟨some 163, .call 14 [.t 162, .k (.int 0)], none⟩,
   ⟨some 161, .mov (.t 163), none⟩,
   ⟨some 164, .ext (.t 161) 0, none⟩,
   ⟨some 165, .ext (.t 161) 1, none⟩,
   ⟨some 24, .alloc 24 [.int 0, .int 0], none⟩,
   ⟨none, .store 2 (.t 24) (.t 164) (some 24), none⟩,
   ⟨some 25, .mov (.t 165), none⟩] (some [10, 11, 12, 13, 20, 21, 22, 23, 24, 25]))
 (.seq
 (.ops false [
   ⟨some 167, .load 5 true (.t 10) [], none⟩,
   ⟨some 168, .call 14 [.t 167, .k (.int 1)], none⟩,
   ⟨some 166, .mov (.t 168), none⟩,
   ⟨some 169, .ext (.t 166) 0, none⟩,
   ⟨some 170, .ext (.t 166) 1, none⟩,
   ⟨some 26, .alloc 26 [.int 0, .int 0], none⟩,
   ⟨none, .store 2 (.t 26) (.t 169) (some 26), none⟩,
   ⟨some 27, .mov (.t 170), none⟩] (some [10, 11, 12, 13, 20, 21, 22, 23, 24, 25, 26, 27]))
 (.seq
 (.ops false [
   ⟨some 172, .load 5 true (.t 10) [], none⟩,
   ⟨some 173, .call 15 [.t 172, .k (.int 1)], none⟩,
   ⟨some 171, .mov (.t 173), none⟩,
   ⟨some 174, .ext (.t 171) 0, none⟩,
   ⟨some 175, .ext (.t 171) 1, none⟩,
   ⟨some 28, .mov (.t 174), none⟩,
   ⟨some 29, .mov (.t 175), none⟩] (some [11, 12, 13, 20, 21, 22, 23, 24, 25, 26, 27, 28, 29]))
 (.seq
 (.seq
 (.ops true [
   ⟨some 176, .mov (.t 21), none⟩,
   ⟨some 177, .bin .neq (.t 176) (.k (.int 0)), none⟩,
   ⟨some 178, .mov (.t 177), none⟩,
   ⟨some 179, .mov (.t 23), some (178, false)⟩,
   ⟨some 180, .bin .neq (.t 179) (.k (.int 0)), some (178, false)⟩,
   ⟨some 181, .pick (.t 178) (.k (.bool true)) (.t 180), none⟩,
   ⟨some 182, .mov (.t 181), none⟩,
   ⟨some 183, .mov (.t 25), some (182, false)⟩,
   ⟨some 184, .bin .neq (.t 183) (.k (.int 0)), some (182, false)⟩,
   ⟨some 185, .pick (.t 182) (.k (.bool true)) (.t 184), none⟩,
   ⟨some 186, .mov (.t 185), none⟩,
   ⟨some 187, .mov (.t 27), some (186, false)⟩,
   ⟨some 188, .bin .neq (.t 187) (.k (.int 0)), some (186, false)⟩,
   ⟨some 189, .pick (.t 186) (.k (.bool true)) (.t 188), none⟩,
   ⟨some 190, .mov (.t 189), none⟩,
   ⟨some 191, .mov (.t 29), some (190, false)⟩,
   ⟨some 192, .bin .neq (.t 191) (.k (.int 0)), some (190, false)⟩,
   ⟨some 193, .pick (.t 190) (.k (.bool true)) (.t 192), none⟩,
   ⟨some 194, .mov (.t 193), none⟩,
   ⟨some 195, .mov (.t 20), some (194, false)⟩,
   ⟨some 196, .mov (.t 11), some (194, false)⟩,
   ⟨some 197, .bin .neq (.t 195) (.t 196), some (194, false)⟩,
   ⟨some 198, .pick (.t 194) (.k (.bool true)) (.t 197), none⟩,
   ⟨some 199, .mov (.t 198), none⟩,
   ⟨some 200, .mov (.t 22), some (199, false)⟩,
   ⟨some 201, .mov (.t 20), some (199, false)⟩,
   ⟨some 202, .bin .lss (.t 200) (.t 201), some (199, false)⟩,
   ⟨some 203, .pick (.t 199) (.k (.bool true)) (.t 202), none⟩,
   ⟨some 204, .mov (.t 203), none⟩,
   ⟨some 205, .load 2 true (.t 24) [], some (204, false)⟩,
   ⟨some 206, .mov (.t 12), some (204, false)⟩,
   ⟨some 207, .mov (.t 13), some (204, false)⟩,
   ⟨some 208, .call 16 [.t 206, .t 207], some (204, false)⟩,
   ⟨some 209, .bin (.sne 2) (.t 205) (.t 208), some (204, false)⟩,
   ⟨some 210, .pick (.t 204) (.k (.bool true)) (.t 209), none⟩,
   ⟨some 211, .mov (.t 210), none⟩,
   ⟨some 212, .mov (.t 28), some (211, false)⟩,
   ⟨some 213, .bin .neq (.t 212) (.k (.int 1)), some (211, false)⟩,
   ⟨some 214, .pick (.t 211) (.k (.bool true)) (.t 213), none⟩] (some [24, 26, 214]))
 (.cond (.t 214)
  (.seq
  (.ops false [
    ⟨some 4, .mov (.k (.bool false)), none⟩] (some [4]))
  .ret)
  .skip))
 (.seq
 (.ops false [
   ⟨some 215, .fld 0 (.t 26), none⟩,
   ⟨some 216, .load 1 false (.t 215) [], none⟩,
   ⟨some 217, .bin .geq (.t 216) (.k (.int 1)), none⟩,
   ⟨some 218, .mov (.t 217), none⟩,
   ⟨some 219, .fld 0 (.t 26), some (218, true)⟩,
   ⟨some 220, .load 1 false (.t 219) [], some (218, true)⟩,
   ⟨some 221, .fld 1 (.t 26), some (218, true)⟩,
   ⟨some 222, .load 1 false (.t 221) [], some (218, true)⟩,
   ⟨some 223, .bin .leq (.t 220) (.t 222), some (218, true)⟩,
   ⟨some 224, .pick (.t 218) (.t 223) (.k (.bool false)), none⟩,
   ⟨some 225, .mov (.t 224), none⟩,
   ⟨some 226, .fld 1 (.t 26), some (225, true)⟩,
   ⟨some 227, .load 1 false (.t 226) [], some (225, true)⟩,
   ⟨some 228, .bin .leq (.t 227) (.k (.int 33554432)), some (225, true)⟩,
   ⟨some 229, .pick (.t 225) (.t 228) (.k (.bool false)), none⟩,
   ⟨some 230, .mov (.t 229), none⟩,
   ⟨some 231, .fld 0 (.t 26), some (230, true)⟩,
   ⟨some 232, .load 1 false (.t 231) [], some (230, true)⟩,
   ⟨some 233, .fld 1 (.t 24), some (230, true)⟩,
   ⟨some 234, .load 1 false (.t 233) [], some (230, true)⟩,
   ⟨some 235, .bin .mul (.t 232) (.t 234), some (230, true)⟩,
   ⟨some 236, .fld 0 (.t 24), some (230, true)⟩,
   ⟨some 237, .load 1 false (.t 236) [], some (230, true)⟩,
   ⟨some 238, .fld 1 (.t 26), some (230, true)⟩,
   ⟨some 239, .load 1 false (.t 238) [], some (230, true)⟩,
   ⟨some 240, .bin .mul (.t 237) (.t 239), some (230, true)⟩,
   ⟨some 241, .bin .leq (.t 235) (.t 240), some (230, true)⟩,
   ⟨some 242, .pick (.t 230) (.t 241) (.k (.bool false)), none⟩,
   ⟨some 243, .mov (.t 242), none⟩,
   ⟨some 244, .call 7 [], some (243, true)⟩,
   ⟨some 245, .pick (.t 243) (.t 244) (.k (.bool false)), none⟩,
   ⟨some 4, .mov (.t 245), none⟩] (some [4]))
 .ret))))))))))))))))))

theorem m3i : fmatch Try.prog Try.f3 2 [.tmp 4] v3i = true := by kernel_rfl

end Go.Proofs.Ytpangdaijhiohaa


/- The two types of maps. -/
set_option linter.unusedSimpArgs false
set_option linter.unusedVariables false
set_option linter.unnecessarySimpa false
namespace Go.Proofs.Ytpangdaijhiohaa.Do
open Go Go.V Go.WideShapes

theorem hmix : Try.prog.follows .mixedOrders = true := by kernel_rfl

theorem bid_nilp : AV.bid .nilp = [] := rfl

theorem strip_nilp {hp : HpL} : strip hp .nilp = .nilp := rfl

theorem isUnd_nilp : AV.isUnd .nilp = false := rfl

theorem bid_mpr {l : Nat} : AV.bid (.mpr l) = [] := rfl

theorem strip_mpr {hp : HpL} {l : Nat} : strip hp (.mpr l) = .mpr l := rfl

theorem isUnd_mpr {l : Nat} : AV.isUnd (.mpr l) = false := rfl

attribute [go_sem] bid_nilp strip_nilp isUnd_nilp bid_mpr strip_mpr isUnd_mpr

/-- A type whose cells are all integers. -/
def intT (P : Program) : Nat → TypeId → Bool
  | 0, _ => false
  | d + 1, t => match P.underlying t with
    | some (.int q) => q == .i64 && P.cellsOf t == 1
    | some (.array n e) => P.cellsOf t == n * P.cellsOf e && intT P d e
    | some (.struct fs) => fs.toList.all fun f => f.name != "_" && decide (f.offset + P.cellsOf f.type ≤ P.cellsOf t) && intT P d f.type
    | _ => false

theorem mapM_some {α β : Type} {f : α → Option β} : ∀ {l : List α}, (∀ x ∈ l, ∃ y, f x = some y) → ∃ ys, l.mapM f = some ys
  | [], _ => ⟨[], by simp⟩
  | x :: r, h => by
    obtain ⟨y, hy⟩ := h x (by simp)
    obtain ⟨ys, hys⟩ := mapM_some (l := r) fun z hz => h z (by simp [hz])
    exact ⟨y :: ys, by simp [List.mapM_cons, hy, hys]⟩

theorem keyLits_ints {P : Program} : ∀ (d : Nat) (t : TypeId) (cs : List Value), intT P d t = true → cs.length = P.cellsOf t → (∀ v ∈ cs, ∃ n, v = .int .i64 n ∧ inR n) → ∃ ls, P.keyLits d t cs = some ls
  | 0, _, _, h, _, _ => by simp [intT] at h
  | d + 1, t, cs, h, hl, hv => by
    unfold intT at h
    unfold Program.keyLits
    cases hu : P.underlying t with
    | none => simp [hu] at h
    | some k =>
      cases k <;> simp only [hu, Bool.false_eq_true] at h
      case int q =>
        simp only [Bool.and_eq_true, beq_iff_eq] at h
        obtain ⟨rfl, hc⟩ := h
        rw [hc] at hl
        match cs, hl with
        | [v], _ =>
          obtain ⟨n, rfl, hn⟩ := hv v (by simp)
          refine ⟨[.int .i64 n], ?_⟩
          have : (Lit.int .i64 n).wf = true := by
            unfold inR at hn
            simp only [Lit.wf, Bool.and_eq_true, decide_eq_true_eq]
            exact hn
          simp [this]
      case array n e =>
        simp only [Bool.and_eq_true, beq_iff_eq] at h
        obtain ⟨hc, he⟩ := h
        obtain ⟨ys, hys⟩ := mapM_some (f := fun i => P.keyLits d e ((cs.drop (i * P.cellsOf e)).take (P.cellsOf e))) (l := List.range n) fun i hi => by
          have hi := List.mem_range.1 hi
          refine keyLits_ints d e _ he ?_ fun v hv' => hv v (List.mem_of_mem_drop (List.mem_of_mem_take hv'))
          have h1 : i * P.cellsOf e + P.cellsOf e ≤ n * P.cellsOf e := by
            rw [← Nat.succ_mul]
            exact Nat.mul_le_mul_right _ hi
          rw [List.length_take, List.length_drop, hl, hc]
          omega
        refine ⟨ys.flatten, ?_⟩
        simp [hl, hys]
      case struct fs =>
        obtain ⟨ys, hys⟩ := mapM_some (f := fun f : Field => P.keyLits d f.type ((cs.drop f.offset).take (P.cellsOf f.type))) (l := fs.toList) fun f hf => by
          have h1 := List.all_eq_true.1 h f hf
          simp only [Bool.and_eq_true, decide_eq_true_eq] at h1
          obtain ⟨⟨_, h2⟩, h3⟩ := h1
          refine keyLits_ints d f.type _ h3 ?_ fun v hv' => hv v (List.mem_of_mem_drop (List.mem_of_mem_take hv'))
          rw [List.length_take, List.length_drop, hl]
          omega
        have hn : ∀ x ∈ fs, ¬ x.name = "_" := by
          intro x hx
          have h1 := List.all_eq_true.1 h x (by simpa using hx)
          simp only [Bool.and_eq_true, bne_iff_ne] at h1
          exact h1.1.1
        refine ⟨ys.flatten, ?_⟩
        simp [hl, hys]
        exact fun i hi => hn _ (Array.getElem_mem hi)

theorem mkey {P : Program} {t k : TypeId} {n : Nat} (h1 : P.underlying t = some (.map k 3)) (h2 : laidOutB P = true) (h3 : k < P.types.size) (h4 : P.keyTypeAt 5 k = true)
    (h5 : (match P.underlying k with | some (.array _ _) | some (.struct _) => true | _ => false) = true) (h6 : intT P (P.types.size + 1) k = true) (h7 : P.keyType k = true) (h8 : P.cellsOf k = n)
    (h9 : ∀ w, (zeroValue 3).run P w = .ok (.int .i64 0) w) : MKey P t n := by
  refine ⟨k, 3, h1, Maps.Keyed.of_law (deep_law_laid h2 (m := 5) (by omega) h3 h4 h5), fun xs hx hr => ?_, h9⟩
  have hf : (kval xs).formed P k = true := by
    unfold kval Value.formed
    split at h5
    · next h => simp only [h]; simp [hx, h8]
    · next h => simp only [h]; simp [hx, h8]
    · cases h5
  obtain ⟨ls, hls⟩ := keyLits_ints (P := P) (P.types.size + 1) k (kval xs).cells.toList h6 (by simp [kval, Value.cells, hx, h8]) (fun v hv => by
    simp only [kval, Value.cells, List.toList_toArray, List.mem_map] at hv
    obtain ⟨x, hx, rfl⟩ := hv
    exact ⟨x, rfl, hr x hx⟩)
  have h10 : (P.keyType k && (kval xs).formed P k) = true := by rw [h7, hf]; rfl
  unfold keyOf
  split at h5
  · next h => rw [h]; simp only; rw [if_pos h10, hls]; exact ⟨_, rfl⟩
  · next h => rw [h]; simp only; rw [if_pos h10, hls]; exact ⟨_, rfl⟩
  · cases h5

theorem zero_of {P : Program} {t : TypeId} {z : Value} (h : ((P.info? t).bind fun i => i.zero) = some z) (w : World) : (zeroValue t).run P w = .ok z w := by
  cases hi : P.info? t with
  | none => rw [hi] at h; cases h
  | some i =>
    rw [hi] at h
    have hz : i.zero = some z := h
    have h1 : (typeInfo t).run P w = .ok i w := run_typeInfo (w := w) hi
    simp [zeroValue, h1, hz]

theorem zero3 (w : World) : (zeroValue 3).run Try.prog w = .ok (.int .i64 0) w := zero_of (by kernel_rfl) w

theorem mk119 : MKey Try.prog 119 4 := mkey Try.underlying119 (by kernel_rfl) (of_decide_eq_true (by kernel_rfl)) (by kernel_rfl) (by kernel_rfl) (by kernel_rfl) (by kernel_rfl) (by kernel_rfl) zero3

theorem mk100 : MKey Try.prog 100 5 := mkey Try.underlying100 (by kernel_rfl) (of_decide_eq_true (by kernel_rfl)) (by kernel_rfl) (by kernel_rfl) (by kernel_rfl) (by kernel_rfl) (by kernel_rfl) zero3

end Go.Proofs.Ytpangdaijhiohaa.Do


/- Books; contracts of small functions. -/
set_option linter.unusedSimpArgs false
set_option linter.unusedVariables false
set_option linter.unnecessarySimpa false
namespace Go.Proofs.Ytpangdaijhiohaa.Do
open Go Go.V

structure Sy where
  d : Int
  p : Int
  lo : Int
  hi : Int
  deriving Inhabited, DecidableEq

structure Bk where
  depth : Int
  found : List Int
  dow : Int
  say : List Sy
  pence : Int

abbrev IS (l : List Int) : AV := .sl 1 (l.map .int) .sh

abbrev SY (s : Sy) : AV := .agg [.int s.d, .int s.p, .int s.lo, .int s.hi]

abbrev SL (l : List Sy) : AV := .sl 4 (l.map SY) .sh

abbrev DB (b : Bk) : AV := .agg [.int b.depth, IS b.found, .int b.dow, SL b.say, .int b.pence]

/-- A book at work. -/
abbrev OB (b : Bk) : AV := .ref 5 [DB b] 0 0

def within (n lo hi : Int) : Bool := decide (lo ≤ n ∧ n ≤ hi)

theorem within_iff {n lo hi : Int} : within n lo hi = true ↔ lo ≤ n ∧ n ≤ hi := by simp [within]

theorem c32 (n lo hi : Int) : Ctr Try.prog 32 [.int n, .int lo, .int hi] (.bool (within n lo hi)) := by
  refine ctr_of_wp hmix Try.func32 m32 rfl ?_
  unfold v32
  simp -failIfUnchanged (disch := first | omega | (simp <;> omega) | fail) only [go_sem, simprocAttr]
  refine WGd_bool (fun h => ?_) (fun h => ?_)
  · simp -failIfUnchanged (disch := first | omega | (simp <;> omega) | fail) only [go_sem, simprocAttr, h]
    simp only [decide_eq_true_eq] at h
    simp [within, h]
  · simp -failIfUnchanged (disch := first | omega | (simp <;> omega) | fail) only [go_sem, simprocAttr, h]
    simp only [Bool.not_true, decide_eq_false_iff_not] at h
    simp [within, h]

theorem c19 (n lo hi : Int) : Ctr Try.prog 19 [.int n, .int lo, .int hi] (.bool (within n lo hi)) := by
  refine ctr_of_wp hmix Try.func19 m19 rfl ?_
  unfold v19
  simp -failIfUnchanged (disch := first | omega | (simp <;> omega) | fail) only [go_sem, simprocAttr]
  refine WGd_bool (fun h => ?_) (fun h => ?_)
  · simp -failIfUnchanged (disch := first | omega | (simp <;> omega) | fail) only [go_sem, simprocAttr, h]
    simp only [decide_eq_true_eq] at h
    simp [within, h]
  · simp -failIfUnchanged (disch := first | omega | (simp <;> omega) | fail) only [go_sem, simprocAttr, h]
    simp only [Bool.not_true, decide_eq_false_iff_not] at h
    simp [within, h]

theorem c27 (n lo hi : Int) : Ctr Try.prog 27 [.int n, .int lo, .int hi] (.bool (within n lo hi)) := by
  refine ctr_of_wp hmix Try.func27 m27 rfl ?_
  unfold v27
  simp -failIfUnchanged (disch := first | omega | (simp <;> omega) | fail) only [go_sem, simprocAttr]
  refine wcall (c19 _ _ _) ?_
  simp -failIfUnchanged (disch := first | omega | (simp <;> omega) | fail) only [go_sem, simprocAttr]

theorem c34 (b : Bk) (n : Int) : Ctr Try.prog 34 [DB b, .int n] (.bool (within n 0 (w64 (b.dow - 1)))) := by
  refine ctr_of_wp hmix Try.func34 m34 rfl ?_
  unfold v34
  simp -failIfUnchanged (disch := first | omega | (simp <;> omega) | fail) only [go_sem, simprocAttr]
  refine wcall (c32 _ _ _) ?_
  simp -failIfUnchanged (disch := first | omega | (simp <;> omega) | fail) only [go_sem, simprocAttr]

theorem c28 (b : Bk) (n : Int) : Ctr Try.prog 28 [DB b, .int n] (.bool (within n 0 (w64 (b.dow - 1)))) := by
  refine ctr_of_wp hmix Try.func28 m28 rfl ?_
  unfold v28
  simp -failIfUnchanged (disch := first | omega | (simp <;> omega) | fail) only [go_sem, simprocAttr]
  refine wcall (c27 _ _ _) ?_
  simp -failIfUnchanged (disch := first | omega | (simp <;> omega) | fail) only [go_sem, simprocAttr]

theorem c29 (b : Bk) (n : Int) : Ctr Try.prog 29 [DB b, .int n] (.bool (within n 0 (w64 ((b.found.length : Int) - 1)))) := by
  refine ctr_of_wp hmix Try.func29 m29 rfl ?_
  unfold v29
  simp -failIfUnchanged (disch := first | omega | (simp <;> omega) | fail) only [go_sem, simprocAttr]
  refine wcall (c27 _ _ _) ?_
  simp -failIfUnchanged (disch := first | omega | (simp <;> omega) | fail) only [go_sem, simprocAttr]

/-- The width of a saying, as the machine has it. -/
def wid (s : Sy) : Int := w64 (w64 (s.hi - s.lo) + 1)

theorem c47 (s : Sy) : Ctr Try.prog 47 [SY s] (.int (wid s)) := by
  refine ctr_of_wp hmix Try.func47 m47 rfl ?_
  unfold v47
  simp -failIfUnchanged (disch := first | omega | (simp <;> omega) | fail) only [go_sem, simprocAttr]
  rfl

theorem c12 (s : Sy) : Ctr Try.prog 12 [SY s] (.int (wid s)) := by
  refine ctr_of_wp hmix Try.func12 m12 rfl ?_
  unfold v12
  simp -failIfUnchanged (disch := first | omega | (simp <;> omega) | fail) only [go_sem, simprocAttr]
  rfl

theorem c33 (b : Bk) (s : Sy) (h0 : 0 ≤ s.p) (h1 : s.p < b.found.length) : Ctr Try.prog 33 [OB b, SY s] (.bool (decide (b.found[s.p.toNat]?.getD default = 0))) := by
  refine ctr_of_wp hmix Try.func33 m33 rfl ?_
  unfold v33
  obtain ⟨k, hk⟩ : ∃ k : Nat, s.p = k := ⟨s.p.toNat, by omega⟩
  rw [hk] at h1 ⊢
  simp -failIfUnchanged (disch := first | omega | (simp <;> omega) | fail) only [go_sem, simprocAttr, hk]

end Go.Proofs.Ytpangdaijhiohaa.Do


/- Comparing sayings. -/
set_option linter.unusedSimpArgs false
set_option linter.unusedVariables false
set_option linter.unnecessarySimpa false
namespace Go.Proofs.Ytpangdaijhiohaa.Do
open Go Go.V

def cmpI (a b : Int) : Int := if a < b then -1 else if b < a then 1 else 0

/-- A saying comes before another one. -/
def bef (a b : Sy) : Bool := decide (a.d < b.d ∨ (a.d = b.d ∧ a.p < b.p))

theorem c66 (n : Int) : Ctr Try.prog 66 [.int n] (.bool false) := by
  refine ctr_of_wp hmix Try.func66 m66 rfl ?_
  unfold v66
  simp -failIfUnchanged (disch := first | omega | (simp <;> omega) | fail) only [go_sem, simprocAttr]
  try simp

theorem c64 (a b : Int) : Ctr Try.prog 64 [.int a, .int b] (.int (cmpI a b)) := by
  refine ctr_of_wp hmix Try.func64 m64 rfl ?_
  unfold v64 cmpI
  simp -failIfUnchanged (disch := first | omega | (simp <;> omega) | fail) only [go_sem, simprocAttr]
  refine wcall (c66 a) ?_
  simp -failIfUnchanged (disch := first | omega | (simp <;> omega) | fail) only [go_sem, simprocAttr]
  refine wcall (c66 b) ?_
  simp -failIfUnchanged (disch := first | omega | (simp <;> omega) | fail) only [go_sem, simprocAttr]
  refine wcond_dec (fun h => ?_) (fun h => ?_)
  · simp -failIfUnchanged (disch := first | omega | (simp <;> omega) | fail) only [go_sem, simprocAttr, h]
  · simp -failIfUnchanged (disch := first | omega | (simp <;> omega) | fail) only [go_sem, simprocAttr, h]
    refine wcond_dec (fun h2 => ?_) (fun h2 => ?_)
    · simp -failIfUnchanged (disch := first | omega | (simp <;> omega) | fail) only [go_sem, simprocAttr, h, h2]
    · simp -failIfUnchanged (disch := first | omega | (simp <;> omega) | fail) only [go_sem, simprocAttr, h, h2]

/-- The first one that is not 0. -/
def orF (l : List Int) : Int := (l.find? fun x => x != 0).getD 0

theorem orF_hit {l : List Int} {i : Nat} (hi : i < l.length) (h : ∀ j, j < i → l[j]?.getD default = 0) (hx : l[i]?.getD default ≠ 0) : orF l = l[i]?.getD default := by
  have e : l[i]?.getD default = l[i] := by simp [hi]
  rw [e] at hx ⊢
  have : l.find? (fun x => x != 0) = some l[i] := by
    rw [List.find?_eq_some_iff_getElem]
    refine ⟨by simpa using hx, i, hi, rfl, fun j hj => ?_⟩
    have := h j hj
    simpa [Nat.lt_trans hj hi] using this
  unfold orF
  rw [this]
  rfl

theorem orF_none {l : List Int} (h : ∀ j, j < l.length → l[j]?.getD default = 0) : orF l = 0 := by
  have : l.find? (fun x => x != 0) = none := by
    rw [List.find?_eq_none]
    intro x hx
    obtain ⟨j, hj, rfl⟩ := List.getElem_of_mem hx
    have := h j hj
    simpa [hj] using this
  unfold orF
  rw [this]
  rfl

theorem c63 (l : List Int) (hl : l.length < 1000000) : Ctr Try.prog 63 [IS l] (.int (orF l)) := by
  refine ctr_of_wp hmix Try.func63 m63 rfl ?_
  unfold v63
  simp -failIfUnchanged (disch := first | omega | (simp <;> omega) | fail) only [go_sem, simprocAttr]
  refine wp_loop' Nat (fun i => ⟨[(3, .int 0), (6, IS l), (7, .int l.length), (8, .int i)], [], [], none⟩) (fun i => i ≤ l.length ∧ ∀ j, j < i → l[j]?.getD default = 0) (fun i => l.length - i) 0 (by simp) (by simp -failIfUnchanged (disch := first | omega | (simp <;> omega) | fail) only [go_sem, simprocAttr]; try simp) ?_
  rintro i ⟨h1, h2⟩
  simp -failIfUnchanged (disch := first | omega | (simp <;> omega) | fail) only [go_sem, simprocAttr]
  refine wcond_dec (fun h => ?_) (fun h => ?_)
  · have hlt : i < l.length := by omega
    simp -failIfUnchanged (disch := first | omega | (simp <;> omega) | fail) only [go_sem, simprocAttr]
    refine wcond_dec (fun hx => ?_) (fun hx => ?_)
    · rw [orF_hit hlt h2 hx]
      simp -failIfUnchanged (disch := first | omega | (simp <;> omega) | fail) only [go_sem, simprocAttr]
    · have hx' : l[i]?.getD default = 0 := by simpa using hx
      simp -failIfUnchanged (disch := first | omega | (simp <;> omega) | fail) only [go_sem, simprocAttr]
      refine ⟨i + 1, ⟨by omega, fun j hj => ?_⟩, by dsimp only; omega, ?_⟩
      · rcases Nat.lt_or_ge j i with h3 | h3
        · exact h2 j h3
        · obtain rfl : j = i := by omega
          exact hx'
      · simp -failIfUnchanged (disch := first | omega | (simp <;> omega) | fail) only [go_sem, simprocAttr]
        try simp
  · have e : i = l.length := by omega
    subst e
    rw [orF_none h2]
    simp -failIfUnchanged (disch := first | omega | (simp <;> omega) | fail) only [go_sem, simprocAttr]

theorem c56 (a b : Sy) : Ctr Try.prog 56 [SY a, SY b] (.int (orF [cmpI a.d b.d, cmpI a.p b.p])) := by
  refine ctr_of_wp hmix Try.func56 m56 rfl ?_
  unfold v56
  simp -failIfUnchanged (disch := first | omega | (simp <;> omega) | fail) only [go_sem, simprocAttr]
  refine wcall (c64 _ _) ?_
  simp -failIfUnchanged (disch := first | omega | (simp <;> omega) | fail) only [go_sem, simprocAttr]
  refine wcall (c64 _ _) ?_
  simp -failIfUnchanged (disch := first | omega | (simp <;> omega) | fail) only [go_sem, simprocAttr]
  refine wcall (c63 [cmpI a.d b.d, cmpI a.p b.p] (by simp)) ?_
  simp -failIfUnchanged (disch := first | omega | (simp <;> omega) | fail) only [go_sem, simprocAttr]

theorem cmp_bef (a b : Sy) : decide (0 ≤ orF [cmpI a.d b.d, cmpI a.p b.p]) = !bef a b := by
  have e : orF [cmpI a.d b.d, cmpI a.p b.p] = if cmpI a.d b.d = 0 then cmpI a.p b.p else cmpI a.d b.d := by
    unfold orF
    by_cases h1 : cmpI a.d b.d = 0
    · by_cases h2 : cmpI a.p b.p = 0
      · simp [h1, h2]
      · simp [h1, h2]
    · simp [h1]
  rw [e]
  unfold cmpI bef
  by_cases h : a.d < b.d ∨ (a.d = b.d ∧ a.p < b.p)
  · rw [decide_eq_true h]
    apply decide_eq_false
    repeat' split
    all_goals omega
  · rw [decide_eq_false h]
    apply decide_eq_true
    repeat' split
    all_goals omega

theorem c30 (a b : Sy) : Ctr Try.prog 30 [SY a, SY b] (.bool (bef a b)) := by
  refine ctr_of_wp hmix Try.func30 m30 rfl ?_
  unfold v30 bef
  simp -failIfUnchanged (disch := first | omega | (simp <;> omega) | fail) only [go_sem, simprocAttr]
  refine WGd_bool (fun h => ?_) (fun h => ?_)
  · have h' : ¬ a.d < b.d := by simpa using h
    simp -failIfUnchanged (disch := first | omega | (simp <;> omega) | fail) only [go_sem, simprocAttr, h]
    refine WGd_bool (fun h2 => ?_) (fun h2 => ?_)
    · have h2' : a.d = b.d := by simpa using h2
      simp -failIfUnchanged (disch := first | omega | (simp <;> omega) | fail) only [go_sem, simprocAttr, h2]
      simp [h2']
    · have h2' : ¬ a.d = b.d := by simpa using h2
      simp -failIfUnchanged (disch := first | omega | (simp <;> omega) | fail) only [go_sem, simprocAttr, h2]
      simp [h', h2']
  · have h' : a.d < b.d := by simpa using h
    simp -failIfUnchanged (disch := first | omega | (simp <;> omega) | fail) only [go_sem, simprocAttr, h]
    simp [h']

end Go.Proofs.Ytpangdaijhiohaa.Do


/- Check. -/
set_option linter.unusedSimpArgs false
set_option linter.unusedVariables false
set_option linter.unnecessarySimpa false
namespace Go.Proofs.Ytpangdaijhiohaa.Do
open Go Go.V

def headB (b : Bk) : Bool := within b.depth 1 12 && (decide ((b.found.length : Int) ≤ 6) && (within b.dow 0 4 && within b.pence 0 999))

def sayB (b : Bk) (i : Nat) : Bool := within (b.say[i]?.getD default).d 0 (w64 (b.dow - 1)) && (within (b.say[i]?.getD default).p 0 (w64 ((b.found.length : Int) - 1)) &&
  (within (b.say[i]?.getD default).hi 1 b.depth && (within (b.say[i]?.getD default).lo 1 (b.say[i]?.getD default).hi && (decide (i = 0) || bef (b.say[i - 1]?.getD default) (b.say[i]?.getD default)))))

def checkB (b : Bk) : Bool := headB b && ((b.found.all fun n => within n 0 b.depth) && (List.range b.say.length).all (sayB b))

def errB (b : Bk) : Int := if checkB b then 0 else 40

theorem err_head {b : Bk} (h : headB b = false) : errB b = 40 := by simp [errB, checkB, h]

theorem err_found {b : Bk} {i : Nat} (hi : i < b.found.length) (h : within (b.found[i]?.getD default) 0 b.depth = false) : errB b = 40 := by
  have : (b.found.all fun n => within n 0 b.depth) = false := List.all_eq_false.2 ⟨b.found[i], List.getElem_mem hi, by
    rw [List.getElem?_eq_getElem hi] at h
    simpa using h⟩
  simp [errB, checkB, this]

theorem err_say {b : Bk} {i : Nat} (hi : i < b.say.length) (h : sayB b i = false) : errB b = 40 := by
  have : (List.range b.say.length).all (sayB b) = false := List.all_eq_false.2 ⟨i, List.mem_range.2 hi, by rw [h]; simp⟩
  simp [errB, checkB, this]

theorem c44 (b : Bk) (hn : b.say.length < 4294967296) : Ctr Try.prog 44 [DB b] (.int (errB b)) := by
  refine ctr_of_wp hmix Try.func44 m44 rfl ?_
  unfold v44
  simp -failIfUnchanged (disch := first | omega | (simp <;> omega) | fail) only [go_sem, simprocAttr]
  refine wcall (c32 _ _ _) ?_
  cases h1 : within b.depth 1 12 with
  | false =>
    rw [err_head (by simp [headB, h1])]
    simp -failIfUnchanged (disch := first | omega | (simp <;> omega) | fail) only [go_sem, simprocAttr]
  | true =>
    simp -failIfUnchanged (disch := first | omega | (simp <;> omega) | fail) only [go_sem, simprocAttr]
    by_cases h2 : (b.found.length : Int) ≤ 6
    · have h2' : decide ((6 : Int) < b.found.length) = false := decide_eq_false (by omega)
      simp -failIfUnchanged (disch := first | omega | (simp <;> omega) | fail) only [go_sem, simprocAttr, h2']
      refine wcall (c32 _ _ _) ?_
      cases h3 : within b.dow 0 4 with
      | false =>
        rw [err_head (by simp [headB, h3])]
        simp -failIfUnchanged (disch := first | omega | (simp <;> omega) | fail) only [go_sem, simprocAttr]
      | true =>
        simp -failIfUnchanged (disch := first | omega | (simp <;> omega) | fail) only [go_sem, simprocAttr]
        refine wcall (c32 _ _ _) ?_
        cases h4 : within b.pence 0 999 with
        | false =>
          rw [err_head (by simp [headB, h4])]
          simp -failIfUnchanged (disch := first | omega | (simp <;> omega) | fail) only [go_sem, simprocAttr]
        | true =>
          have hh : headB b = true := by simp [headB, h1, h2, h3, h4]
          have hfl : b.found.length ≤ 6 := by omega
          simp -failIfUnchanged (disch := first | omega | (simp <;> omega) | fail) only [go_sem, simprocAttr]
          refine wp_loop' Nat (fun i => ⟨[(1, .ptr 1 0), (30, IS b.found), (31, .int b.found.length), (32, .int i)], [(1, ⟨[.int b.depth, IS b.found, .int b.dow, SL b.say, .int b.pence], false⟩)], [], none⟩) (fun i => i ≤ b.found.length ∧ ∀ j, j < i → within (b.found[j]?.getD default) 0 b.depth = true) (fun i => b.found.length - i) 0 (by simp) (by simp -failIfUnchanged (disch := first | omega | (simp <;> omega) | fail) only [go_sem, simprocAttr]; try simp) ?_
          rintro i ⟨hi, hpre⟩
          simp -failIfUnchanged (disch := first | omega | (simp <;> omega) | fail) only [go_sem, simprocAttr]
          refine wcond_dec (fun hc => ?_) (fun hc => ?_)
          · have hlt : i < b.found.length := by omega
            simp -failIfUnchanged (disch := first | omega | (simp <;> omega) | fail) only [go_sem, simprocAttr]
            refine wcall (c32 _ _ _) ?_
            cases h5 : within (b.found[i]?.getD default) 0 b.depth with
            | false =>
              rw [err_found hlt h5]
              simp -failIfUnchanged (disch := first | omega | (simp <;> omega) | fail) only [go_sem, simprocAttr]
            | true =>
              simp -failIfUnchanged (disch := first | omega | (simp <;> omega) | fail) only [go_sem, simprocAttr]
              refine ⟨i + 1, ⟨by omega, fun j hj => ?_⟩, by dsimp only; omega, ?_⟩
              · rcases Nat.lt_or_ge j i with h6 | h6
                · exact hpre j h6
                · obtain rfl : j = i := by omega
                  exact h5
              · simp -failIfUnchanged (disch := first | omega | (simp <;> omega) | fail) only [go_sem, simprocAttr]
                try simp
          · have e : i = b.found.length := by omega
            subst e
            have hf : (b.found.all fun n => within n 0 b.depth) = true := List.all_eq_true.2 fun x hx => by
              obtain ⟨j, hj, rfl⟩ := List.getElem_of_mem hx
              have := hpre j hj
              rw [List.getElem?_eq_getElem hj] at this
              exact this
            simp -failIfUnchanged (disch := first | omega | (simp <;> omega) | fail) only [go_sem, simprocAttr]
            refine wp_loop' Nat (fun i => ⟨[(1, .ptr 1 0), (43, SL b.say), (44, .int b.say.length), (45, .int i)], [(1, ⟨[.int b.depth, IS b.found, .int b.dow, SL b.say, .int b.pence], false⟩)], [], none⟩) (fun i => i ≤ b.say.length ∧ ∀ j, j < i → sayB b j = true) (fun i => b.say.length - i) 0 (by simp) (by simp -failIfUnchanged (disch := first | omega | (simp <;> omega) | fail) only [go_sem, simprocAttr]; try simp) ?_
            rintro i ⟨hi, hpre⟩
            simp -failIfUnchanged (disch := first | omega | (simp <;> omega) | fail) only [go_sem, simprocAttr]
            refine wcond_dec (fun hc => ?_) (fun hc => ?_)
            · have hlt : i < b.say.length := by omega
              obtain ⟨x, hx⟩ : ∃ x, b.say[i]? = some x := ⟨b.say[i], by simp [hlt]⟩
              have nope : ∀ q, sayB b i = q → q = false → errB b = 40 := fun q h1 h2 => err_say hlt (by rw [h1, h2])
              have hsb : sayB b i = (within x.d 0 (w64 (b.dow - 1)) && (within x.p 0 (w64 ((b.found.length : Int) - 1)) && (within x.hi 1 b.depth && (within x.lo 1 x.hi && (decide (i = 0) || bef (b.say[i - 1]?.getD default) x))))) := by
                unfold sayB
                rw [hx]
                rfl
              rw [show w64 ((b.found.length : Int) - 1) = (b.found.length : Int) - 1 from w64_id (by omega)] at hsb
              simp -failIfUnchanged (disch := first | omega | (simp <;> omega) | fail) only [go_sem, simprocAttr, hx]
              refine wcall (c32 _ _ _) ?_
              cases k1 : within x.d 0 (w64 (b.dow - 1)) with
              | false =>
                rw [nope _ hsb (by rw [k1]; rfl)]
                simp -failIfUnchanged (disch := first | omega | (simp <;> omega) | fail) only [go_sem, simprocAttr]
              | true =>
                simp -failIfUnchanged (disch := first | omega | (simp <;> omega) | fail) only [go_sem, simprocAttr]
                refine wcall (c32 _ _ _) ?_
                cases k2 : within x.p 0 ((b.found.length : Int) - 1) with
                | false =>
                  rw [nope _ hsb (by rw [k1, k2]; rfl)]
                  simp -failIfUnchanged (disch := first | omega | (simp <;> omega) | fail) only [go_sem, simprocAttr]
                | true =>
                  simp -failIfUnchanged (disch := first | omega | (simp <;> omega) | fail) only [go_sem, simprocAttr]
                  refine wcall (c32 _ _ _) ?_
                  cases k3 : within x.hi 1 b.depth with
                  | false =>
                    rw [nope _ hsb (by rw [k1, k2, k3]; rfl)]
                    simp -failIfUnchanged (disch := first | omega | (simp <;> omega) | fail) only [go_sem, simprocAttr]
                  | true =>
                    simp -failIfUnchanged (disch := first | omega | (simp <;> omega) | fail) only [go_sem, simprocAttr]
                    refine wcall (c32 _ _ _) ?_
                    cases k4 : within x.lo 1 x.hi with
                    | false =>
                      rw [nope _ hsb (by rw [k1, k2, k3, k4]; rfl)]
                      simp -failIfUnchanged (disch := first | omega | (simp <;> omega) | fail) only [go_sem, simprocAttr]
                    | true =>
                      rw [k1, k2, k3, k4, Bool.true_and, Bool.true_and, Bool.true_and, Bool.true_and] at hsb
                      simp -failIfUnchanged (disch := first | omega | (simp <;> omega) | fail) only [go_sem, simprocAttr]
                      refine WGd_bool (fun h3 => ?_) (fun h3 => ?_)
                      · have hpos : 0 < i := by simpa using h3
                        obtain ⟨k, rfl⟩ : ∃ k, i = k + 1 := ⟨i - 1, by omega⟩
                        have e1 : (((k + 1 : Nat) : Int) - 1) = (k : Nat) := by omega
                        obtain ⟨y, hy⟩ : ∃ y, b.say[k]? = some y := ⟨b.say[k], by simp⟩
                        rw [show decide (k + 1 = 0) = false from decide_eq_false (by omega), Bool.false_or, Nat.add_sub_cancel, hy, Option.getD_some] at hsb
                        have hcb := cmp_bef y x
                        simp -failIfUnchanged (disch := first | omega | (simp <;> omega) | fail) only [go_sem, simprocAttr, h3, e1, hy, Int.toNat_natCast]
                        refine wcall (c56 _ _) ?_
                        cases hbe : bef y x with
                        | false =>
                          rw [nope _ hsb hbe]
                          rw [hbe] at hcb
                          simp -failIfUnchanged (disch := first | omega | (simp <;> omega) | fail) only [go_sem, simprocAttr, hcb, h3]
                        | true =>
                          rw [hbe] at hcb hsb
                          simp -failIfUnchanged (disch := first | omega | (simp <;> omega) | fail) only [go_sem, simprocAttr, hcb, h3]
                          refine ⟨k + 2, ⟨by omega, fun j hj => ?_⟩, by dsimp only; omega, ?_⟩
                          · rcases Nat.lt_or_ge j (k + 1) with h6 | h6
                            · exact hpre j h6
                            · obtain rfl : j = k + 1 := by omega
                              exact hsb
                          · simp -failIfUnchanged (disch := first | omega | (simp <;> omega) | fail) only [go_sem, simprocAttr]
                            try simp
                            try omega
                      · have h0 : i = 0 := by
                          have : ¬ (0 : Int) < i := by simpa using h3
                          omega
                        subst h0
                        have hs0 : sayB b 0 = true := by rw [hsb]; rfl
                        simp -failIfUnchanged (disch := first | omega | (simp <;> omega) | fail) only [go_sem, simprocAttr, h3]
                        refine ⟨1, ⟨by omega, fun j hj => ?_⟩, by dsimp only; omega, ?_⟩
                        · obtain rfl : j = 0 := by omega
                          exact hs0
                        · simp -failIfUnchanged (disch := first | omega | (simp <;> omega) | fail) only [go_sem, simprocAttr]
                          try simp
            · have e : i = b.say.length := by omega
              subst e
              have hs : (List.range b.say.length).all (sayB b) = true := List.all_eq_true.2 fun j hj => hpre j (List.mem_range.1 hj)
              have : errB b = 0 := by simp [errB, checkB, hh, hf, hs]
              rw [this]
              simp -failIfUnchanged (disch := first | omega | (simp <;> omega) | fail) only [go_sem, simprocAttr]
    · have h2' : decide ((6 : Int) < b.found.length) = true := decide_eq_true (by omega)
      rw [err_head (by simp [headB, h2])]
      simp -failIfUnchanged (disch := first | omega | (simp <;> omega) | fail) only [go_sem, simprocAttr, h2']

end Go.Proofs.Ytpangdaijhiohaa.Do


/- open, points, ask. -/
set_option linter.unusedSimpArgs false
set_option linter.unusedVariables false
set_option linter.unnecessarySimpa false
namespace Go.Proofs.Ytpangdaijhiohaa.Do
open Go Go.V

def askE (b : Bk) (is : Bool) : Int := if checkB b then if is then 0 else 1 else 40

def opnR (b : Bk) (is : Bool) : AV := .tup [if askE b is = 0 then OB b else .nilp, .int (askE b is)]

theorem c31 (b : Bk) (is : Bool) (hn : b.say.length < 4294967296) : Ctr Try.prog 31 [DB b, .bool is] (opnR b is) := by
  refine ctr_of_wp hmix Try.func31 m31 rfl ?_
  unfold v31 opnR askE
  simp -failIfUnchanged (disch := first | omega | (simp <;> omega) | fail) only [go_sem, simprocAttr]
  refine wcall (c44 b hn) ?_
  unfold errB
  cases checkB b with
  | false => simp -failIfUnchanged (disch := first | omega | (simp <;> omega) | fail) only [go_sem, simprocAttr]; try simp
  | true =>
    cases is with
    | false => simp -failIfUnchanged (disch := first | omega | (simp <;> omega) | fail) only [go_sem, simprocAttr]; try simp
    | true => simp -failIfUnchanged (disch := first | omega | (simp <;> omega) | fail) only [go_sem, simprocAttr]; try simp

/-- The points of a saying, if water is found there. -/
def ptsI (b : Bk) (s : Sy) (found : Int) : Int := if within found s.lo s.hi then w64 (b.depth - wid s) else w64 (0 - wid s)

theorem c45 (b : Bk) (s : Sy) (f : Int) : Ctr Try.prog 45 [OB b, SY s, .int f] (.int (ptsI b s f)) := by
  refine ctr_of_wp hmix Try.func45 m45 rfl ?_
  unfold v45 ptsI
  simp -failIfUnchanged (disch := first | omega | (simp <;> omega) | fail) only [go_sem, simprocAttr]
  refine wcall (c32 _ _ _) ?_
  cases within f s.lo s.hi with
  | false =>
    simp -failIfUnchanged (disch := first | omega | (simp <;> omega) | fail) only [go_sem, simprocAttr]
    refine wcall (c47 s) ?_
    simp -failIfUnchanged (disch := first | omega | (simp <;> omega) | fail) only [go_sem, simprocAttr]
    try simp
  | true =>
    simp -failIfUnchanged (disch := first | omega | (simp <;> omega) | fail) only [go_sem, simprocAttr]
    refine wcall (c47 s) ?_
    simp -failIfUnchanged (disch := first | omega | (simp <;> omega) | fail) only [go_sem, simprocAttr]
    try simp

end Go.Proofs.Ytpangdaijhiohaa.Do


/- HitOf, PointsOf. -/
set_option linter.unusedSimpArgs false
set_option linter.unusedVariables false
set_option linter.unnecessarySimpa false
namespace Go.Proofs.Ytpangdaijhiohaa.Do
open Go Go.V

/-- What is known of a saying: 3 it is open, 1 right, 2 wrong. -/
def hitI (s : Sy) (found : List Int) : Int := if found[s.p.toNat]?.getD default = 0 then 3 else if within (found[s.p.toNat]?.getD default) s.lo s.hi then 1 else 2

def ptsOf (b : Bk) (s : Sy) (found : List Int) : Int := if hitI s found = 1 then w64 (b.depth - wid s) else if hitI s found = 2 then w64 (0 - wid s) else 0

end Go.Proofs.Ytpangdaijhiohaa.Do


/- Check of the document. -/
set_option linter.unusedSimpArgs false
set_option linter.unusedVariables false
set_option linter.unnecessarySimpa false
namespace Go.Proofs.Ytpangdaijhiohaa.Do
open Go Go.V

theorem span_alike (lo hi d : Int) (r : Bool) : (within lo 1 d && (within hi lo d && r)) = (within hi 1 d && (within lo 1 hi && r)) := by
  cases r with
  | false => simp
  | true =>
    rw [Bool.and_true, Bool.and_true, Bool.eq_iff_iff]
    simp only [Bool.and_eq_true, within_iff]
    omega

theorem c10 (b : Bk) (hn : b.say.length < 4294967296) : Ctr Try.prog 10 [DB b] (.int (errB b)) := by
  refine ctr_of_wp hmix Try.func10 m10 rfl ?_
  unfold v10
  simp -failIfUnchanged (disch := first | omega | (simp <;> omega) | fail) only [go_sem, simprocAttr]
  refine wcall (c27 _ _ _) ?_
  cases h1 : within b.depth 1 12 with
  | false =>
    rw [err_head (by simp [headB, h1])]
    simp -failIfUnchanged (disch := first | omega | (simp <;> omega) | fail) only [go_sem, simprocAttr]
  | true =>
    simp -failIfUnchanged (disch := first | omega | (simp <;> omega) | fail) only [go_sem, simprocAttr]
    by_cases h2 : (b.found.length : Int) ≤ 6
    · have h2' : decide ((6 : Int) < b.found.length) = false := decide_eq_false (by omega)
      simp -failIfUnchanged (disch := first | omega | (simp <;> omega) | fail) only [go_sem, simprocAttr, h2']
      refine wcall (c27 _ _ _) ?_
      cases h3 : within b.dow 0 4 with
      | false =>
        rw [err_head (by simp [headB, h3])]
        simp -failIfUnchanged (disch := first | omega | (simp <;> omega) | fail) only [go_sem, simprocAttr]
      | true =>
        simp -failIfUnchanged (disch := first | omega | (simp <;> omega) | fail) only [go_sem, simprocAttr]
        refine wcall (c27 _ _ _) ?_
        cases h4 : within b.pence 0 999 with
        | false =>
          rw [err_head (by simp [headB, h4])]
          simp -failIfUnchanged (disch := first | omega | (simp <;> omega) | fail) only [go_sem, simprocAttr]
        | true =>
          have hh : headB b = true := by simp [headB, h1, h2, h3, h4]
          have hfl : b.found.length ≤ 6 := by omega
          simp -failIfUnchanged (disch := first | omega | (simp <;> omega) | fail) only [go_sem, simprocAttr]
          refine wp_loop' Nat (fun i => ⟨[(1, .ptr 1 0), (3, .int i)], [(1, ⟨[.int b.depth, IS b.found, .int b.dow, SL b.say, .int b.pence], false⟩)], [], none⟩) (fun i => i ≤ b.found.length ∧ ∀ j, j < i → within (b.found[j]?.getD default) 0 b.depth = true) (fun i => b.found.length - i) 0 (by simp) (by simp -failIfUnchanged (disch := first | omega | (simp <;> omega) | fail) only [go_sem, simprocAttr]; try simp) ?_
          rintro i ⟨hi, hpre⟩
          simp -failIfUnchanged (disch := first | omega | (simp <;> omega) | fail) only [go_sem, simprocAttr]
          refine wcond_dec (fun hc => ?_) (fun hc => ?_)
          · have hlt : i < b.found.length := by omega
            simp -failIfUnchanged (disch := first | omega | (simp <;> omega) | fail) only [go_sem, simprocAttr]
            refine wcall (c27 _ _ _) ?_
            cases h5 : within (b.found[i]?.getD default) 0 b.depth with
            | false =>
              rw [err_found hlt h5]
              simp -failIfUnchanged (disch := first | omega | (simp <;> omega) | fail) only [go_sem, simprocAttr]
            | true =>
              simp -failIfUnchanged (disch := first | omega | (simp <;> omega) | fail) only [go_sem, simprocAttr]
              refine ⟨i + 1, ⟨by omega, fun j hj => ?_⟩, by dsimp only; omega, ?_⟩
              · rcases Nat.lt_or_ge j i with h6 | h6
                · exact hpre j h6
                · obtain rfl : j = i := by omega
                  exact h5
              · simp -failIfUnchanged (disch := first | omega | (simp <;> omega) | fail) only [go_sem, simprocAttr]
                try simp
          · have e : i = b.found.length := by omega
            subst e
            have hf : (b.found.all fun n => within n 0 b.depth) = true := List.all_eq_true.2 fun x hx => by
              obtain ⟨j, hj, rfl⟩ := List.getElem_of_mem hx
              have := hpre j hj
              rw [List.getElem?_eq_getElem hj] at this
              exact this
            simp -failIfUnchanged (disch := first | omega | (simp <;> omega) | fail) only [go_sem, simprocAttr]
            refine wp_loop' Nat (fun i => ⟨[(1, .ptr 1 0), (4, .int i)], [(1, ⟨[.int b.depth, IS b.found, .int b.dow, SL b.say, .int b.pence], false⟩)], [], none⟩) (fun i => i ≤ b.say.length ∧ ∀ j, j < i → sayB b j = true) (fun i => b.say.length - i) 0 (by simp) (by simp -failIfUnchanged (disch := first | omega | (simp <;> omega) | fail) only [go_sem, simprocAttr]; try simp) ?_
            rintro i ⟨hi, hpre⟩
            simp -failIfUnchanged (disch := first | omega | (simp <;> omega) | fail) only [go_sem, simprocAttr]
            refine wcond_dec (fun hc => ?_) (fun hc => ?_)
            · have hlt : i < b.say.length := by omega
              obtain ⟨x, hx⟩ : ∃ x, b.say[i]? = some x := ⟨b.say[i], by simp [hlt]⟩
              have nope : ∀ q, sayB b i = q → q = false → errB b = 40 := fun q h1 h2 => err_say hlt (by rw [h1, h2])
              have hsb : sayB b i = (within x.d 0 (w64 (b.dow - 1)) && (within x.p 0 (w64 ((b.found.length : Int) - 1)) && (within x.lo 1 b.depth && (within x.hi x.lo b.depth && (decide (i = 0) || bef (b.say[i - 1]?.getD default) x))))) := by
                rw [span_alike]
                unfold sayB
                rw [hx]
                rfl
              rw [show w64 ((b.found.length : Int) - 1) = (b.found.length : Int) - 1 from w64_id (by omega)] at hsb
              have c29' := c29 b x.p
              rw [show w64 ((b.found.length : Int) - 1) = (b.found.length : Int) - 1 from w64_id (by omega)] at c29'
              simp -failIfUnchanged (disch := first | omega | (simp <;> omega) | fail) only [go_sem, simprocAttr, hx]
              refine wcall (c28 b x.d) ?_
              cases k1 : within x.d 0 (w64 (b.dow - 1)) with
              | false =>
                rw [nope _ hsb (by rw [k1]; rfl)]
                simp -failIfUnchanged (disch := first | omega | (simp <;> omega) | fail) only [go_sem, simprocAttr]
              | true =>
                simp -failIfUnchanged (disch := first | omega | (simp <;> omega) | fail) only [go_sem, simprocAttr]
                refine wcall c29' ?_
                cases k2 : within x.p 0 ((b.found.length : Int) - 1) with
                | false =>
                  rw [nope _ hsb (by rw [k1, k2]; rfl)]
                  simp -failIfUnchanged (disch := first | omega | (simp <;> omega) | fail) only [go_sem, simprocAttr]
                | true =>
                  simp -failIfUnchanged (disch := first | omega | (simp <;> omega) | fail) only [go_sem, simprocAttr]
                  refine wcall (c27 _ _ _) ?_
                  cases k3 : within x.lo 1 b.depth with
                  | false =>
                    rw [nope _ hsb (by rw [k1, k2, k3]; rfl)]
                    simp -failIfUnchanged (disch := first | omega | (simp <;> omega) | fail) only [go_sem, simprocAttr]
                  | true =>
                    simp -failIfUnchanged (disch := first | omega | (simp <;> omega) | fail) only [go_sem, simprocAttr]
                    refine wcall (c27 _ _ _) ?_
                    cases k4 : within x.hi x.lo b.depth with
                    | false =>
                      rw [nope _ hsb (by rw [k1, k2, k3, k4]; rfl)]
                      simp -failIfUnchanged (disch := first | omega | (simp <;> omega) | fail) only [go_sem, simprocAttr]
                    | true =>
                      rw [k1, k2, k3, k4, Bool.true_and, Bool.true_and, Bool.true_and, Bool.true_and] at hsb
                      simp -failIfUnchanged (disch := first | omega | (simp <;> omega) | fail) only [go_sem, simprocAttr]
                      refine WGd_bool (fun h3 => ?_) (fun h3 => ?_)
                      · have hpos : 0 < i := by simpa using h3
                        obtain ⟨k, rfl⟩ : ∃ k, i = k + 1 := ⟨i - 1, by omega⟩
                        have e1 : (((k + 1 : Nat) : Int) - 1) = (k : Nat) := by omega
                        obtain ⟨y, hy⟩ : ∃ y, b.say[k]? = some y := ⟨b.say[k], by simp⟩
                        rw [show decide (k + 1 = 0) = false from decide_eq_false (by omega), Bool.false_or, Nat.add_sub_cancel, hy, Option.getD_some] at hsb
                        simp -failIfUnchanged (disch := first | omega | (simp <;> omega) | fail) only [go_sem, simprocAttr, h3, e1, hy, Int.toNat_natCast]
                        refine wcall (c30 y x) ?_
                        cases hbe : bef y x with
                        | false =>
                          rw [nope _ hsb hbe]
                          simp -failIfUnchanged (disch := first | omega | (simp <;> omega) | fail) only [go_sem, simprocAttr, h3]
                        | true =>
                          rw [hbe] at hsb
                          simp -failIfUnchanged (disch := first | omega | (simp <;> omega) | fail) only [go_sem, simprocAttr, h3]
                          refine ⟨k + 2, ⟨by omega, fun j hj => ?_⟩, by dsimp only; omega, ?_⟩
                          · rcases Nat.lt_or_ge j (k + 1) with h6 | h6
                            · exact hpre j h6
                            · obtain rfl : j = k + 1 := by omega
                              exact hsb
                          · simp -failIfUnchanged (disch := first | omega | (simp <;> omega) | fail) only [go_sem, simprocAttr]
                            try simp
                            try omega
                      · have h0 : i = 0 := by
                          have : ¬ (0 : Int) < i := by simpa using h3
                          omega
                        subst h0
                        have hs0 : sayB b 0 = true := by rw [hsb]; rfl
                        simp -failIfUnchanged (disch := first | omega | (simp <;> omega) | fail) only [go_sem, simprocAttr, h3]
                        refine ⟨1, ⟨by omega, fun j hj => ?_⟩, by dsimp only; omega, ?_⟩
                        · obtain rfl : j = 0 := by omega
                          exact hs0
                        · simp -failIfUnchanged (disch := first | omega | (simp <;> omega) | fail) only [go_sem, simprocAttr]
                          try simp
            · have e : i = b.say.length := by omega
              subst e
              have hs : (List.range b.say.length).all (sayB b) = true := List.all_eq_true.2 fun j hj => hpre j (List.mem_range.1 hj)
              have : errB b = 0 := by simp [errB, checkB, hh, hf, hs]
              rw [this]
              simp -failIfUnchanged (disch := first | omega | (simp <;> omega) | fail) only [go_sem, simprocAttr]
    · have h2' : decide ((6 : Int) < b.found.length) = true := decide_eq_true (by omega)
      rw [err_head (by simp [headB, h2])]
      simp -failIfUnchanged (disch := first | omega | (simp <;> omega) | fail) only [go_sem, simprocAttr, h2']

end Go.Proofs.Ytpangdaijhiohaa.Do


/- Valid books. -/
set_option linter.unusedSimpArgs false
set_option linter.unusedVariables false
set_option linter.unnecessarySimpa false
namespace Go.Proofs.Ytpangdaijhiohaa.Do
open Go Go.V

abbrev syt (b : Bk) (i : Nat) : Sy := b.say[i]?.getD default

structure BV (b : Bk) : Prop where
  dp : 1 ≤ b.depth ∧ b.depth ≤ 12
  fl : b.found.length ≤ 6
  dw : 0 ≤ b.dow ∧ b.dow ≤ 4
  pn : 0 ≤ b.pence ∧ b.pence ≤ 999
  fo : ∀ i, i < b.found.length → 0 ≤ b.found[i]?.getD default ∧ b.found[i]?.getD default ≤ b.depth
  sy : ∀ i, i < b.say.length → (0 ≤ (syt b i).d ∧ (syt b i).d < b.dow) ∧ (0 ≤ (syt b i).p ∧ (syt b i).p < b.found.length) ∧ 1 ≤ (syt b i).lo ∧ (syt b i).lo ≤ (syt b i).hi ∧ (syt b i).hi ≤ b.depth
  od : ∀ i, i + 1 < b.say.length → bef (syt b i) (syt b (i + 1)) = true

theorem bv_of {b : Bk} (h : checkB b = true) : BV b := by
  simp only [checkB, headB, Bool.and_eq_true, within_iff, decide_eq_true_eq, List.all_eq_true, List.mem_range] at h
  obtain ⟨⟨h1, h2, h3, h4⟩, h5, h6⟩ := h
  have hd : w64 (b.dow - 1) = b.dow - 1 := w64_id (by omega)
  have hf : w64 ((b.found.length : Int) - 1) = (b.found.length : Int) - 1 := w64_id (by omega)
  have hs : ∀ i, i < b.say.length → ((0 ≤ (syt b i).d ∧ (syt b i).d ≤ b.dow - 1) ∧ (0 ≤ (syt b i).p ∧ (syt b i).p ≤ (b.found.length : Int) - 1) ∧ (1 ≤ (syt b i).hi ∧ (syt b i).hi ≤ b.depth) ∧ (1 ≤ (syt b i).lo ∧ (syt b i).lo ≤ (syt b i).hi) ∧ (i = 0 ∨ bef (syt b (i - 1)) (syt b i) = true)) := by
    intro i hi
    have := h6 i hi
    simp only [sayB, hd, hf, Bool.and_eq_true, within_iff, Bool.or_eq_true, decide_eq_true_eq] at this
    exact this
  refine ⟨h1, by omega, h3, h4, fun i hi => ?_, fun i hi => ?_, fun i hi => ?_⟩
  · have := h5 b.found[i] (List.getElem_mem hi)
    rw [List.getElem?_eq_getElem hi]
    exact this
  · obtain ⟨a1, a2, a3, a4, _⟩ := hs i hi
    omega
  · obtain ⟨_, _, _, _, a5⟩ := hs (i + 1) hi
    rcases a5 with a5 | a5
    · omega
    · exact a5

theorem wid_eq {b : Bk} (hv : BV b) {i : Nat} (hi : i < b.say.length) : wid (syt b i) = (syt b i).hi - (syt b i).lo + 1 := by
  have h1 := hv.dp
  obtain ⟨_, _, h2, h3, h4⟩ := hv.sy i hi
  unfold wid
  rw [w64_id (n := (syt b i).hi - (syt b i).lo) (by omega), w64_id (by omega)]

theorem pts_bd {b : Bk} (hv : BV b) {i : Nat} (hi : i < b.say.length) (f : List Int) : -12 ≤ ptsOf b (syt b i) f ∧ ptsOf b (syt b i) f ≤ 12 := by
  have h1 := hv.dp
  obtain ⟨_, _, h2, h3, h4⟩ := hv.sy i hi
  have hw := wid_eq hv hi
  unfold ptsOf
  rw [hw]
  repeat' split
  · rw [w64_id (by omega)]; omega
  · rw [w64_id (by omega)]; omega
  · omega

end Go.Proofs.Ytpangdaijhiohaa.Do


/- Scores. -/
set_option linter.unusedSimpArgs false
set_option linter.unusedVariables false
set_option linter.unnecessarySimpa false
namespace Go.Proofs.Ytpangdaijhiohaa.Do
open Go Go.V

/-- The score of a dowser by the first k sayings. -/
def scoK (b : Bk) (d : Int) (f : List Int) : Nat → Int
  | 0 => 0
  | k + 1 => scoK b d f k + if (syt b k).d = d then ptsOf b (syt b k) f else 0

def sco (b : Bk) (d : Int) (f : List Int) : Int := scoK b d f b.say.length

theorem scoK_bd {b : Bk} (hv : BV b) (d : Int) (f : List Int) : ∀ k, k ≤ b.say.length → -12 * (k : Int) ≤ scoK b d f k ∧ scoK b d f k ≤ 12 * (k : Int)
  | 0, _ => by simp [scoK]
  | k + 1, hk => by
    have ih := scoK_bd hv d f k (by omega)
    have hp := pts_bd hv (i := k) (by omega) f
    simp only [scoK]
    split <;> omega

end Go.Proofs.Ytpangdaijhiohaa.Do


/- The scores of what was found. -/
set_option linter.unusedSimpArgs false
set_option linter.unusedVariables false
set_option linter.unnecessarySimpa false
namespace Go.Proofs.Ytpangdaijhiohaa.Do
open Go Go.V

def nowK (b : Bk) (k : Nat) : List Int := (List.range 4).map fun d => scoK b (d : Nat) b.found k

theorem nowK_len (b : Bk) (k : Nat) : (nowK b k).length = 4 := by simp [nowK]

theorem nowK_at (b : Bk) (k d : Nat) (hd : d < 4) : (nowK b k)[d]?.getD default = scoK b (d : Nat) b.found k := by simp [nowK, hd]

theorem pts_open (b : Bk) (s : Sy) (f : List Int) (h : f[s.p.toNat]?.getD default = 0) : ptsOf b s f = 0 := by
  unfold ptsOf hitI
  rw [if_pos h]
  rfl

theorem pts_dug (b : Bk) (s : Sy) (f : List Int) (h : ¬ f[s.p.toNat]?.getD default = 0) : ptsI b s (f[s.p.toNat]?.getD default) = ptsOf b s f := by
  unfold ptsOf hitI ptsI
  rw [if_neg h]
  split <;> rfl

theorem nowK_set (b : Bk) (k d : Nat) (hd : d < 4) (he : (syt b k).d = (d : Nat)) : (nowK b k).set d (scoK b (d : Nat) b.found k + ptsOf b (syt b k) b.found) = nowK b (k + 1) := by
  apply List.ext_getElem (by simp [nowK])
  intro j h1 h2
  simp only [nowK, List.length_map, List.length_range] at h2
  rw [List.getElem_set]
  by_cases e : d = j
  · subst e
    simp [nowK, scoK, he]
  · rw [if_neg e]
    simp only [nowK, List.getElem_map, List.getElem_range, scoK]
    rw [if_neg (by rw [he]; omega)]
    omega

theorem nowK_open (b : Bk) (k : Nat) (h : ptsOf b (syt b k) b.found = 0) : nowK b (k + 1) = nowK b k := by
  unfold nowK
  apply List.map_congr_left
  intro d _
  simp only [scoK, h]
  split <;> omega

end Go.Proofs.Ytpangdaijhiohaa.Do


/- now: the scores of what was found. -/
set_option linter.unusedSimpArgs false
set_option linter.unusedVariables false
set_option linter.unnecessarySimpa false
namespace Go.Proofs.Ytpangdaijhiohaa.Do
open Go Go.V

theorem zeros_ints (n : Nat) : zeros [.int 0] n = (List.replicate n (0 : Int)).map .int := by
  induction n with
  | zero => rfl
  | succ n ih => simp only [zeros, List.replicate_succ, List.map_cons, ih]; rfl

theorem setAt_ints {xs : List Int} {i : Nat} {x : Int} (h : i < xs.length) : setAt (xs.map .int) i [.int x] = (xs.set i x).map .int := by
  induction xs generalizing i with
  | nil => simp at h
  | cons w l ih =>
    cases i with
    | zero => rfl
    | succ i =>
      simp only [List.map_cons, setAt, List.set_cons_succ]
      rw [ih (by simpa using h)]

theorem map_ints {xs : List Int} {hp : List (Nat × BX)} : (xs.map AV.int).map (strip hp) = xs.map .int := by
  rw [List.map_map]
  rfl

theorem bids_ints {xs : List Int} : bids (xs.map AV.int) = [] := by
  induction xs with
  | nil => rfl
  | cons w l ih => simp only [List.map_cons, bids, AV.bid, AV.bid1, ih, List.append_nil]

theorem scopes_ints {τ : AS} {xs : List Int} : scopes τ (xs.map AV.int) = True := by
  induction xs with
  | nil => rfl
  | cons w l ih => simp only [List.map_cons, scopes, inScope, ih, and_self]

theorem chunks_ints {xs : List Int} {n : Nat} (h : n = xs.length) : chunks false 1 (xs.map AV.int) 0 n = xs.map .int := by
  subst h
  apply List.ext_getElem?
  intro i
  rcases Nat.lt_or_ge i xs.length with hi | hi
  · rw [chunks_get _ _ _ _ _ _ hi]
    simp [chunk, hi]
  · rw [List.getElem?_eq_none (by rw [chunks_length]; exact hi), List.getElem?_eq_none (by simpa using hi)]

theorem ints_get {xs : List Int} {i : Nat} (h : i < xs.length) : (xs.map AV.int)[i]?.getD .und = .int (xs[i]?.getD default) := by simp [h]

attribute [go_sem] ints_get zeros_ints setAt_ints map_ints bids_ints scopes_ints

theorem out1_eq {P : Program} {fr : List (Nat × AV)} {hp : List (Nat × BX)} {tk : List (Nat × Nat)} {pd : Option Ex} {t : Nat} {ty : TypeId} : out1 P ⟨fr, hp, tk, pd⟩ (.cell t ty) = (match get fr t with
    | .ptr b 0 => match getB hp b with
      | some ⟨cells, true⟩ => match aggOf P ty with
        | some true => if szOf P ty = some cells.length then .agg cells else .und
        | some false => match cells with
          | [x] => x
          | _ => .und
        | none => .und
      | _ => .und
    | _ => .und) := rfl

theorem ag77 : aggOf Try.prog 77 = some true := by kernel_rfl

theorem sz77 : szOf Try.prog 77 = some 4 := by kernel_rfl

attribute [go_sem] ag77 sz77 out1_eq

theorem c35 (b : Bk) (hv : BV b) (hn : b.say.length < 4294967296) : Ctr Try.prog 35 [OB b] (.agg ((nowK b b.say.length).map .int)) := by
  refine ctr_of_wp hmix Try.func35 m35 rfl ?_
  unfold v35
  simp -failIfUnchanged (disch := first | omega | (simp <;> omega) | fail) only [go_sem, simprocAttr]
  refine wp_loop' Nat (fun i => ⟨[(0, OB b), (2, .ptr 2 0), (9, SL b.say), (10, .int b.say.length), (11, .int i)], [(2, ⟨(nowK b i).map .int, false⟩)], [], none⟩) (fun i => i ≤ b.say.length) (fun i => b.say.length - i) 0 (by simp) (by simp -failIfUnchanged (disch := first | omega | (simp <;> omega) | fail) only [go_sem, simprocAttr]; simp [nowK, scoK]; try rfl) ?_
  intro i hi
  have hi : i ≤ b.say.length := hi
  simp -failIfUnchanged (disch := first | omega | (simp <;> omega) | fail) only [go_sem, simprocAttr]
  refine wcond_dec (fun hc => ?_) (fun hc => ?_)
  · have hlt : i < b.say.length := by omega
    obtain ⟨x, hx⟩ : ∃ x, b.say[i]? = some x := ⟨b.say[i], by simp [hlt]⟩
    have hsx : syt b i = x := by show b.say[i]?.getD default = x; rw [hx]; rfl
    have hsy := hv.sy i hlt
    have hdw := hv.dw
    rw [hsx] at hsy
    have c33' := c33 b x hsy.2.1.1 hsy.2.1.2
    simp -failIfUnchanged (disch := first | omega | (simp <;> omega) | fail) only [go_sem, simprocAttr, hx]
    refine wcall c33' ?_
    by_cases ho : b.found[x.p.toNat]?.getD default = 0
    · rw [decide_eq_true ho]
      simp -failIfUnchanged (disch := first | omega | (simp <;> omega) | fail) only [go_sem, simprocAttr]
      refine ⟨i + 1, by dsimp only; omega, by dsimp only; omega, ?_⟩
      dsimp only
      rw [nowK_open b i (by rw [hsx]; exact pts_open b x _ ho)]
      simp -failIfUnchanged (disch := first | omega | (simp <;> omega) | fail) only [go_sem, simprocAttr]
      try simp
    · rw [decide_eq_false ho]
      obtain ⟨d, hd⟩ : ∃ d : Nat, x.d = d := ⟨x.d.toNat, by omega⟩
      obtain ⟨k, hk⟩ : ∃ k : Nat, x.p = k := ⟨x.p.toNat, by omega⟩
      have hd4 : d < 4 := by omega
      have hkl : k < b.found.length := by omega
      have hat := nowK_at b i d hd4
      have hln := nowK_len b i
      have c45' := c45 b x (b.found[x.p.toNat]?.getD default)
      rw [pts_dug b x _ ho] at c45'
      have hset := nowK_set b i d hd4 (by rw [hsx]; exact hd)
      rw [hsx] at hset
      have hb := scoK_bd hv (d : Nat) b.found i hi
      have hp := pts_bd hv hlt b.found
      rw [hsx] at hp
      rw [hk, Int.toNat_natCast] at c45'
      unfold SY at c45'
      rw [hd, hk] at c45'
      simp -failIfUnchanged (disch := first | omega | (simp <;> omega) | fail) only [go_sem, simprocAttr, hd, hk, hat, hln]
      refine wcall c45' ?_
      simp -failIfUnchanged (disch := first | omega | (simp <;> omega) | fail) only [go_sem, simprocAttr, hd, hk, hat, hln]
      refine ⟨i + 1, by dsimp only; omega, by dsimp only; omega, ?_⟩
      dsimp only
      rw [← hset]
      simp -failIfUnchanged (disch := first | omega | (simp <;> omega) | fail) only [go_sem, simprocAttr]
      try simp
  · have e : i = b.say.length := by omega
    subst e
    have hln := nowK_len b b.say.length
    have htk : List.take 4 (List.map AV.int (nowK b b.say.length)) = List.map AV.int (nowK b b.say.length) := List.take_of_length_le (by simp [nowK_len])
    have hdr : List.drop 4 (List.map AV.int (nowK b b.say.length)) = [] := List.drop_of_length_le (by simp [nowK_len])
    simp -failIfUnchanged (disch := first | omega | (simp <;> omega) | fail) only [go_sem, simprocAttr, hln, htk, hdr, List.append_nil, bids_ints]
    try simp [nowK_len, AV.isUnd]

end Go.Proofs.Ytpangdaijhiohaa.Do


/- What all dowsers can get at a place: plain law. -/
set_option linter.unusedSimpArgs false
set_option linter.unusedVariables false
set_option linter.unnecessarySimpa false
namespace Go.Proofs.Ytpangdaijhiohaa.Do
open Go Go.V

/-- What a dowser gets of the first k sayings at a place, if water is found at a depth. -/
def chS (b : Bk) (p : Nat) (dep : Int) (d : Int) : Nat → Int
  | 0 => 0
  | k + 1 => chS b p dep d k + if (syt b k).p = (p : Nat) ∧ (syt b k).d = d then ptsI b (syt b k) dep else 0

def chK (b : Bk) (p : Nat) (dep : Int) (k : Nat) : List Int := (List.range 4).map fun d => chS b p dep (d : Nat) k

def chL (b : Bk) (p : Nat) (dep : Int) : List Int := chK b p dep b.say.length

theorem chK_len (b : Bk) (p : Nat) (dep : Int) (k : Nat) : (chK b p dep k).length = 4 := by simp [chK]

theorem chK_at (b : Bk) (p : Nat) (dep : Int) (k d : Nat) (hd : d < 4) : (chK b p dep k)[d]?.getD default = chS b p dep (d : Nat) k := by simp [chK, hd]

theorem chK_set (b : Bk) (p : Nat) (dep : Int) (k d : Nat) (hd : d < 4) (hp : (syt b k).p = (p : Nat)) (he : (syt b k).d = (d : Nat)) : (chK b p dep k).set d (chS b p dep (d : Nat) k + ptsI b (syt b k) dep) = chK b p dep (k + 1) := by
  apply List.ext_getElem (by simp [chK])
  intro j h1 h2
  simp only [chK, List.length_map, List.length_range] at h2
  rw [List.getElem_set]
  by_cases e : d = j
  · subst e
    simp [chK, chS, he, hp]
  · rw [if_neg e]
    simp only [chK, List.getElem_map, List.getElem_range, chS]
    rw [if_neg (by rw [he]; omega)]
    omega

theorem chK_other (b : Bk) (p : Nat) (dep : Int) (k : Nat) (h : ¬ (syt b k).p = (p : Nat)) : chK b p dep (k + 1) = chK b p dep k := by
  unfold chK
  apply List.map_congr_left
  intro d _
  simp only [chS]
  rw [if_neg (fun e => h e.1)]
  omega

/-- Each once, in the order in which they come. -/
def ddF (acc : List (List Int)) (x : List Int) : List (List Int) := if x ∈ acc then acc else acc ++ [x]

/-- The choices of the first depths. -/
def chs (b : Bk) (p : Nat) : Nat → List (List Int)
  | 0 => []
  | n + 1 => if b.found[p]?.getD default = 0 ∨ b.found[p]?.getD default = ((n + 1 : Nat) : Int) then ddF (chs b p n) (chL b p ((n + 1 : Nat) : Int)) else chs b p n

end Go.Proofs.Ytpangdaijhiohaa.Do


/- choices: the walk. -/
set_option linter.unusedSimpArgs false
set_option linter.unusedVariables false
set_option linter.unnecessarySimpa false
namespace Go.Proofs.Ytpangdaijhiohaa.Do
open Go Go.V

abbrev VL (l : List Int) : AV := .agg (l.map .int)

theorem ptsI_bd {b : Bk} (hv : BV b) {i : Nat} (hi : i < b.say.length) (dep : Int) : -12 ≤ ptsI b (syt b i) dep ∧ ptsI b (syt b i) dep ≤ 12 := by
  have h1 := hv.dp
  obtain ⟨_, _, h2, h3, h4⟩ := hv.sy i hi
  have hw := wid_eq hv hi
  unfold ptsI
  rw [hw]
  split
  · rw [w64_id (by omega)]; omega
  · rw [w64_id (by omega)]; omega

theorem chS_bd {b : Bk} (hv : BV b) (p : Nat) (dep d : Int) : ∀ k, k ≤ b.say.length → -12 * (k : Int) ≤ chS b p dep d k ∧ chS b p dep d k ≤ 12 * (k : Int)
  | 0, _ => by simp [chS]
  | k + 1, hk => by
    have ih := chS_bd hv p dep d k (by omega)
    have hp := ptsI_bd hv (i := k) (by omega) dep
    simp only [chS]
    split <;> omega

theorem chL_range {b : Bk} (hv : BV b) (hn : b.say.length < 4294967296) (p : Nat) (dep : Int) : ∀ y ∈ chL b p dep, inR y := by
  intro y hy
  obtain ⟨d, _, rfl⟩ := List.mem_map.1 hy
  have := chS_bd hv p dep (d : Nat) b.say.length (Nat.le_refl _)
  unfold inR
  omega

end Go.Proofs.Ytpangdaijhiohaa.Do


/- choices 68. -/
set_option linter.unusedSimpArgs false
set_option linter.unusedVariables false
set_option linter.unnecessarySimpa false
namespace Go.Proofs.Ytpangdaijhiohaa.Do
open Go Go.V

theorem inS_mpr {τ : AS} {l : Nat} : inScope τ (.mpr l) = True := rfl

theorem inS_nilp {τ : AS} : inScope τ .nilp = True := rfl

attribute [go_sem] inS_mpr inS_nilp

structure Later (T : Prop) : Prop where
  out : T

theorem tailed {T G : Prop} (h : Later T → G) (t : T) : G := h ⟨t⟩

def chI (b : Bk) (p n : Nat) (kv : List (List Int × Int)) : Prop := ∀ ys, (ys ∈ chs b p n → 1 ≤ kvget kv ys ∧ kvget kv ys ≤ n) ∧ (ys ∉ chs b p n → kvget kv ys = 0)

theorem mem_ddF {acc : List (List Int)} {x y : List Int} : y ∈ ddF acc x ↔ y ∈ acc ∨ y = x := by
  unfold ddF
  split
  · rename_i h
    exact ⟨.inl, fun h' => h'.elim id fun e => e ▸ h⟩
  · simp

theorem chs_len (b : Bk) (p : Nat) : ∀ n, (chs b p n).length ≤ n
  | 0 => by simp [chs]
  | n + 1 => by
    have ih := chs_len b p n
    simp only [chs]
    split
    · unfold ddF
      split
      · omega
      · simp only [List.length_append, List.length_cons, List.length_nil]; omega
    · omega

theorem c57 (b : Bk) (hv : BV b) (hn : b.say.length < 4294967296) (p : Nat) (hp : p < b.found.length) (D : Nat) (hD : b.depth = D) : Ctr Try.prog 57 [OB b, .int p] (.sl 4 ((chs b p D).map VL) .sh) := by
  refine ctr_of_wp hmix Try.func57 m57 rfl ?_
  unfold v57
  have hdp := hv.dp
  simp -failIfUnchanged (disch := first | omega | (simp <;> omega) | fail) only [go_sem, simprocAttr]
  refine wmmake mk119 fun l => ?_
  simp -failIfUnchanged (disch := first | omega | (simp <;> omega) | fail) only [go_sem, simprocAttr]
  refine wp_loop' (Nat × List (List Int × Int)) (fun x => ⟨[(0, OB b), (1, .int p), (5, .mpr l), (6, .sl 4 ((chs b p x.1).map VL) (.own 6)), (7, .int ((x.1 + 1 : Nat) : Int))], [], [(6, (chs b p x.1).length)], some (.mp l 4 x.2)⟩) (fun x => x.1 ≤ D ∧ chI b p x.1 x.2) (fun x => D - x.1) (0, []) ⟨by simp, fun ys => by simp [chs, kvget]⟩ (by simp -failIfUnchanged (disch := first | omega | (simp <;> omega) | fail) only [go_sem, simprocAttr]; try simp [chs]) ?_
  rintro ⟨n, kv⟩ ⟨hnD, hkv⟩
  dsimp only at hnD hkv ⊢
  simp -failIfUnchanged (disch := first | omega | (simp <;> omega) | fail) only [go_sem, simprocAttr, hD]
  refine wcond_dec (fun hc => ?_) (fun hc => ?_)
  · have hlt : n < D := by omega
    have hcl : ((n : Int) + 1) = ((n + 1 : Nat) : Int) := by omega
    by_cases ha : b.found[p]?.getD default = 0 ∨ b.found[p]?.getD default = ((n + 1 : Nat) : Int)
    · have hch : chs b p (n + 1) = ddF (chs b p n) (chL b p ((n + 1 : Nat) : Int)) := by simp only [chs]; rw [if_pos ha]
      refine tailed (T := ?T) (fun tail => ?m) ?t
      case m =>
        by_cases h1 : b.found[p]?.getD default = 0
        · have h1' : decide (¬ b.found[p]?.getD default = 0) = false := decide_eq_false (by simpa using h1)
          simp -failIfUnchanged (disch := first | omega | (simp <;> omega) | fail) only [go_sem, simprocAttr, h1']
          exact tail.out
        · have h2 : b.found[p]?.getD default = ((n + 1 : Nat) : Int) := ha.resolve_left h1
          have h1' : decide (¬ b.found[p]?.getD default = 0) = true := decide_eq_true h1
          have h2' : decide (¬ b.found[p]?.getD default = ((n + 1 : Nat) : Int)) = false := decide_eq_false (by simpa using h2)
          simp -failIfUnchanged (disch := first | omega | (simp <;> omega) | fail) only [go_sem, simprocAttr, h1', h2']
          exact tail.out
      case t =>
        obtain ⟨dep, hdep⟩ : ∃ dep : Nat, n + 1 = dep := ⟨_, rfl⟩
        rw [hdep] at hch ⊢
        refine wp_loop' Nat (fun i => ⟨[(0, OB b), (1, .int p), (5, .mpr l), (6, .sl 4 ((chs b p n).map VL) (.own 6)), (7, .int (dep : Nat)), (9, .ptr 9 0), (41, SL b.say), (42, .int b.say.length), (43, .int i)], [(9, ⟨(chK b p (dep : Nat) i).map .int, false⟩)], [(6, (chs b p n).length)], some (.mp l 4 kv)⟩) (fun i => i ≤ b.say.length) (fun i => b.say.length - i) 0 (by simp) (by simp -failIfUnchanged (disch := first | omega | (simp <;> omega) | fail) only [go_sem, simprocAttr]; simp [chK, chS]; try rfl) ?_
        intro i hi
        have hi : i ≤ b.say.length := hi
        simp -failIfUnchanged (disch := first | omega | (simp <;> omega) | fail) only [go_sem, simprocAttr]
        refine wcond_dec (fun hc2 => ?_) (fun hc2 => ?_)
        · have hli : i < b.say.length := by omega
          obtain ⟨x, hx⟩ : ∃ x, b.say[i]? = some x := ⟨b.say[i], by simp [hli]⟩
          have hsx : syt b i = x := by show b.say[i]?.getD default = x; rw [hx]; rfl
          have hsy := hv.sy i hli
          have hdw := hv.dw
          rw [hsx] at hsy
          simp -failIfUnchanged (disch := first | omega | (simp <;> omega) | fail) only [go_sem, simprocAttr, hx]
          refine wcond_dec (fun he => ?_) (fun he => ?_)
          · obtain ⟨d, hd⟩ : ∃ d : Nat, x.d = d := ⟨x.d.toNat, by omega⟩
            have hd4 : d < 4 := by omega
            have hat := chK_at b p (dep : Nat) i d hd4
            have hln := chK_len b p (dep : Nat) i
            have c45' := c45 b x (dep : Nat)
            have hset := chK_set b p (dep : Nat) i d hd4 (by rw [hsx]; exact he) (by rw [hsx]; exact hd)
            rw [hsx] at hset
            have hb := chS_bd hv p (dep : Nat) (d : Nat) i hi
            have hpb := ptsI_bd hv hli (dep : Nat)
            rw [hsx] at hpb
            unfold SY at c45'
            rw [hd] at c45'
            simp -failIfUnchanged (disch := first | omega | (simp <;> omega) | fail) only [go_sem, simprocAttr, hd, hat, hln]
            refine wcall c45' ?_
            simp -failIfUnchanged (disch := first | omega | (simp <;> omega) | fail) only [go_sem, simprocAttr, hd, hat, hln]
            refine ⟨i + 1, by dsimp only; omega, by dsimp only; omega, ?_⟩
            dsimp only
            rw [← hset]
            simp -failIfUnchanged (disch := first | omega | (simp <;> omega) | fail) only [go_sem, simprocAttr]
            try simp
          · simp -failIfUnchanged (disch := first | omega | (simp <;> omega) | fail) only [go_sem, simprocAttr]
            refine ⟨i + 1, by dsimp only; omega, by dsimp only; omega, ?_⟩
            dsimp only
            rw [chK_other b p _ i (by rw [hsx]; exact he)]
            simp -failIfUnchanged (disch := first | omega | (simp <;> omega) | fail) only [go_sem, simprocAttr]
            try simp
        · have e : i = b.say.length := by omega
          subst e
          have hxl : (chK b p (dep : Nat) b.say.length).length = 4 := chK_len b p _ _
          have htk : List.take 4 (List.map AV.int (chK b p (dep : Nat) b.say.length)) = List.map AV.int (chK b p (dep : Nat) b.say.length) := List.take_of_length_le (by simp [chK_len])
          simp -failIfUnchanged (disch := first | omega | (simp <;> omega) | fail) only [go_sem, simprocAttr]
          refine wbump (xs := chK b p (dep : Nat) b.say.length) mk119 rfl ?_ hxl (chL_range hv hn p (dep : Nat)) ?_
          · simp -failIfUnchanged (disch := first | omega | (simp <;> omega) | fail) only [go_sem, simprocAttr, htk, hxl]
          · have hk0 := hkv (chK b p (dep : Nat) b.say.length)
            have hnw : (0 ≤ kvget kv (chK b p (dep : Nat) b.say.length) ∧ kvget kv (chK b p (dep : Nat) b.say.length) ≤ n) := by
              by_cases hm : chK b p (dep : Nat) b.say.length ∈ chs b p n
              · have := hk0.1 hm; omega
              · have := hk0.2 hm; omega
            have hw : w64 (kvget kv (chK b p (dep : Nat) b.say.length) + 1) = kvget kv (chK b p (dep : Nat) b.say.length) + 1 := w64_id (by omega)
            have hI : chI b p dep (kvset kv (chK b p (dep : Nat) b.say.length) (kvget kv (chK b p (dep : Nat) b.say.length) + 1)) := by
              intro ys
              rw [kvget_set, hch]
              show (ys ∈ ddF _ (chK b p (dep : Nat) b.say.length) → _) ∧ (ys ∉ ddF _ (chK b p (dep : Nat) b.say.length) → _)
              rw [mem_ddF]
              have hy := hkv ys
              by_cases e : ys = chK b p (dep : Nat) b.say.length
              · subst e
                rw [if_pos rfl]
                exact ⟨fun _ => by omega, fun h => absurd (.inr rfl) h⟩
              · rw [if_neg e]
                refine ⟨fun h => ?_, fun h => hy.2 fun h' => h (.inl h')⟩
                have := hy.1 (h.resolve_right e)
                omega
            have hg : kvget (kvset kv (chK b p (dep : Nat) b.say.length) (kvget kv (chK b p (dep : Nat) b.say.length) + 1)) (chK b p (dep : Nat) b.say.length) = kvget kv (chK b p (dep : Nat) b.say.length) + 1 := by rw [kvget_set, if_pos rfl]
            have hlc : (chs b p n).length ≤ n := chs_len b p n
            simp -failIfUnchanged (disch := first | omega | (simp <;> omega) | fail) only [go_sem, simprocAttr, htk, hxl]
            refine wmlook mk119 hxl (chL_range hv hn p (dep : Nat)) ?_
            rw [hg]
            generalize hK : kvset kv (chK b p (dep : Nat) b.say.length) (kvget kv (chK b p (dep : Nat) b.say.length) + 1) = kv2 at hI
            simp -failIfUnchanged (disch := first | omega | (simp <;> omega) | fail) only [go_sem, simprocAttr]
            refine wcond_dec (fun h7 => ?_) (fun h7 => ?_)
            · have hnm : chK b p (dep : Nat) b.say.length ∉ chs b p n := fun hm => by have := hk0.1 hm; omega
              have hch2 : chs b p dep = chs b p n ++ [chK b p (dep : Nat) b.say.length] := by rw [hch]; exact if_neg hnm
              simp -failIfUnchanged (disch := first | omega | (simp <;> omega) | fail) only [go_sem, simprocAttr, htk, hxl]
              refine ⟨(dep, kv2), ⟨by dsimp only; omega, hI⟩, by dsimp only; omega, ?_⟩
              dsimp only
              rw [hch2]
              simp -failIfUnchanged (disch := first | omega | (simp <;> omega) | fail) only [go_sem, simprocAttr]
              try simp
            · have hm : chK b p (dep : Nat) b.say.length ∈ chs b p n := by
                by_cases hm : chK b p (dep : Nat) b.say.length ∈ chs b p n
                · exact hm
                · have := hk0.2 hm; omega
              have hch2 : chs b p dep = chs b p n := by rw [hch]; exact if_pos hm
              simp -failIfUnchanged (disch := first | omega | (simp <;> omega) | fail) only [go_sem, simprocAttr]
              refine ⟨(dep, kv2), ⟨by dsimp only; omega, hI⟩, by dsimp only; omega, ?_⟩
              dsimp only
              rw [hch2]
              simp -failIfUnchanged (disch := first | omega | (simp <;> omega) | fail) only [go_sem, simprocAttr]
              try simp
    · have hch : chs b p (n + 1) = chs b p n := by simp only [chs]; rw [if_neg ha]
      have h1 : ¬ b.found[p]?.getD default = 0 := fun e => ha (.inl e)
      have h2 : ¬ b.found[p]?.getD default = ((n + 1 : Nat) : Int) := fun e => ha (.inr e)
      simp -failIfUnchanged (disch := first | omega | (simp <;> omega) | fail) only [go_sem, simprocAttr, h1, h2]
      refine ⟨(n + 1, kv), ⟨by dsimp only; omega, fun ys => ?_⟩, by dsimp only; omega, ?_⟩
      · dsimp only
        rw [hch]
        refine ⟨fun h => ?_, (hkv ys).2⟩
        have := (hkv ys).1 h
        omega
      · dsimp only
        rw [hch]
        simp -failIfUnchanged (disch := first | omega | (simp <;> omega) | fail) only [go_sem, simprocAttr]
        try simp
  · have e : n = D := by omega
    subst e
    simp -failIfUnchanged (disch := first | omega | (simp <;> omega) | fail) only [go_sem, simprocAttr]

end Go.Proofs.Ytpangdaijhiohaa.Do

