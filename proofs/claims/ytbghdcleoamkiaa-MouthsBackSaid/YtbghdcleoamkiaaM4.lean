/- Merged by program: CodeG, CodeN, Code, T1, T2, T3, T4, T5, T6, T7, T8, T9, T10, T11, T12, T13, T14, T15, T16. -/
import Derived.Test.YtbghdcleoamkiaaM3
import Derived.Test.YtbghdcleoamkiaaProg
import Derived.ProofKit
import Derived.Test.YtbghdcleoamkiaaChecked
/- The compact code of the functions, and that it is theirs. -/
namespace Go.Proofs.Ytbghdcleoamkiaa
open Go Go.V
set_option maxRecDepth 100000

/-- steening/steeningref07.Copy -/
def v17g : VC :=
 (.seq
 (.ops false [
   ⟨some 1, .box 5001 2 (.t 0), none⟩,
   ⟨some 2, .alloc 5002 [.sl 1 [] .full, .sl 1 [] .full], none⟩] (some [1, 2]))
 (.seq
 (.ops true [
   ⟨some 3, .bslice 1 [], none⟩,
   ⟨some 4, .fld 0 (.t 1), none⟩,
   ⟨some 5, .load 1 false (.t 4) [5002, 1048576], none⟩,
   ⟨some 6, .appG 1 none 1 8 false (.t 3) (.t 5), none⟩,
   ⟨some 7, .bslice 1 [], none⟩,
   ⟨some 8, .fld 1 (.t 1), none⟩,
   ⟨some 9, .load 1 false (.t 8) [5002, 1048576], none⟩,
   ⟨some 10, .appG 2 none 1 8 false (.t 7) (.t 9), none⟩,
   ⟨some 11, .buildW [.sl 1 [] .full, .sl 1 [] .full] [(0, 1, .t 6), (1, 1, .t 10)], none⟩,
   ⟨none, .store 2 (.t 2) (.t 11) (some 5002), none⟩] (some [2]))
 .ret))

theorem m17g : fmatch Try.prog Try.f17 1 [.cell 2 24] v17g = true := by kernel_rfl

/-- steening/steeningref07.Shared -/
def v36g : VC :=
 (.seq
 (.ops false [
   ⟨some 3, .box 3 2 (.t 0), none⟩,
   ⟨some 6, .alloc 6 [.sl 1 [] .full, .sl 1 [] .full], none⟩] (some [1, 2, 3, 6]))
 (.seq
 (.ops false [
   ⟨some 8, .load 2 true (.t 3) [], none⟩,
   ⟨some 9, .calli 17 [.t 8], none⟩,
   ⟨some 7, .alloc 7 [.sl 1 [] .full, .sl 1 [] .full], none⟩,
   ⟨none, .store 2 (.t 7) (.t 9) (some 7), none⟩] (some [1, 2, 6, 7]))
 (.seq
 (.ops false [
   ⟨some 10, .fld 0 (.t 7), none⟩,
   ⟨some 11, .load 1 false (.t 10) [], none⟩,
   ⟨some 12, .mov (.t 1), none⟩,
   ⟨some 13, .mov (.t 2), none⟩,
   ⟨some 14, .idx 1 (.t 11) (.t 12), none⟩,
   ⟨none, .store 1 (.t 14) (.t 13) none, none⟩] (some [6, 7]))
 (.seq
 (.opsN false [
   ⟨some 15, .loadW 2 (.t 7) [], none⟩,
   ⟨none, .store 2 (.t 6) (.t 15) (some 6), none⟩] (some [6]))
 .ret))))

theorem m36g : fmatch Try.prog Try.f36 3 [.cell 6 24] v36g = true := by kernel_rfl

/-- steening/steeningref07.Wider -/
def v37g : VC :=
 (.seq
 (.ops false [
   ⟨some 3, .box 3 2 (.t 0), none⟩,
   ⟨some 6, .alloc 6 [.sl 1 [] .full, .sl 1 [] .full], none⟩] (some [1, 2, 3, 6]))
 (.seq
 (.ops false [
   ⟨some 8, .load 2 true (.t 3) [], none⟩,
   ⟨some 9, .calli 17 [.t 8], none⟩,
   ⟨some 7, .alloc 7 [.sl 1 [] .full, .sl 1 [] .full], none⟩,
   ⟨none, .store 2 (.t 7) (.t 9) (some 7), none⟩] (some [1, 2, 6, 7]))
 (.seq
 (.ops false [
   ⟨some 10, .fld 1 (.t 7), none⟩,
   ⟨some 11, .load 1 false (.t 10) [], none⟩,
   ⟨some 12, .mov (.t 1), none⟩,
   ⟨some 13, .mov (.t 2), none⟩,
   ⟨some 14, .idx 1 (.t 11) (.t 12), none⟩,
   ⟨none, .store 1 (.t 14) (.t 13) none, none⟩] (some [6, 7]))
 (.seq
 (.opsN false [
   ⟨some 15, .loadW 2 (.t 7) [], none⟩,
   ⟨none, .store 2 (.t 6) (.t 15) (some 6), none⟩] (some [6]))
 .ret))))

theorem m37g : fmatch Try.prog Try.f37 3 [.cell 6 24] v37g = true := by kernel_rfl

/-- steening/steeninglaw07.MouthsShares -/
def v6g : VC :=
 (.seq
 (.ops false [
   ⟨some 3, .box 3 2 (.t 0), none⟩,
   ⟨some 5, .box 5 4 (.t 2), none⟩,
   ⟨some 6, .mov (.k (.bool false)), none⟩] (some [1, 3, 5]))
 (.seq
 (.seq
 (.ops false [
   ⟨some 20, .load 2 true (.t 3) [], none⟩,
   ⟨some 21, .mov (.t 1), none⟩,
   ⟨some 22, .call 28 [.t 20, .t 21], none⟩,
   ⟨some 23, .not (.t 22), none⟩,
   ⟨some 24, .mov (.t 23), none⟩,
   ⟨some 25, .load 2 true (.t 3) [], some (24, false)⟩,
   ⟨some 26, .fld 0 (.t 5), some (24, false)⟩,
   ⟨some 27, .load 1 false (.t 26) [], some (24, false)⟩,
   ⟨some 28, .call 32 [.t 25, .t 27], some (24, false)⟩,
   ⟨some 29, .not (.t 28), some (24, false)⟩,
   ⟨some 30, .pick (.t 24) (.k (.bool true)) (.t 29), none⟩] (some [1, 3, 5, 30]))
 (.cond (.t 30)
  (.seq
  (.ops false [
    ⟨some 31, .call 16 [], none⟩,
    ⟨some 6, .mov (.t 31), none⟩] (some [6]))
  .ret)
  .skip))
 (.seq
 (.ops false [
   ⟨some 33, .load 2 true (.t 3) [], none⟩,
   ⟨some 34, .mov (.t 1), none⟩,
   ⟨some 35, .call 29 [.t 33, .t 34], none⟩,
   ⟨some 32, .mov (.t 35), none⟩,
   ⟨some 36, .ext (.t 32) 0, none⟩,
   ⟨some 37, .ext (.t 32) 1, none⟩,
   ⟨some 7, .mov (.t 36), none⟩,
   ⟨some 8, .mov (.t 37), none⟩] (some [1, 3, 5, 7, 8]))
 (.seq
 (.ops false [
   ⟨some 39, .load 2 true (.t 3) [], none⟩,
   ⟨some 40, .mov (.t 1), none⟩,
   ⟨some 41, .call 34 [.t 39, .t 40], none⟩,
   ⟨some 38, .mov (.t 41), none⟩,
   ⟨some 42, .ext (.t 38) 0, none⟩,
   ⟨some 43, .ext (.t 38) 1, none⟩,
   ⟨some 9, .mov (.t 42), none⟩,
   ⟨some 10, .mov (.t 43), none⟩] (some [1, 3, 5, 7, 8, 9, 10]))
 (.seq
 (.seq
 (.ops false [
   ⟨some 44, .mov (.t 8), none⟩,
   ⟨some 45, .not (.t 44), none⟩,
   ⟨some 46, .mov (.t 45), none⟩,
   ⟨some 47, .mov (.t 10), some (46, false)⟩,
   ⟨some 48, .bin .neq (.t 47) (.k (.int 0)), some (46, false)⟩,
   ⟨some 49, .pick (.t 46) (.k (.bool true)) (.t 48), none⟩] (some [1, 3, 5, 7, 9, 49]))
 (.cond (.t 49)
  (.seq
  (.ops false [
    ⟨some 6, .mov (.k (.bool false)), none⟩] (some [6]))
  .ret)
  .skip))
 (.seq
 (.ops false [
   ⟨some 50, .load 2 true (.t 3) [], none⟩,
   ⟨some 51, .calli 17 [.t 50], none⟩,
   ⟨some 11, .alloc 11 [.sl 1 [] .full, .sl 1 [] .full], none⟩,
   ⟨none, .store 2 (.t 11) (.t 51) (some 11), none⟩] (some [1, 3, 5, 7, 9, 11]))
 (.seq
 (.seq
 (.ops false [
   ⟨some 12, .mov (.k (.int 0)), none⟩] (some [1, 3, 5, 7, 9, 11, 12]))
 (.block 0
  (.loop
   (.seq
   (.seq
   (.ops false [
     ⟨some 52, .mov (.t 12), none⟩,
     ⟨some 53, .fld 0 (.t 11), none⟩,
     ⟨some 54, .load 1 false (.t 53) [], none⟩,
     ⟨some 55, .len (.t 54), none⟩,
     ⟨some 56, .bin .lss (.t 52) (.t 55), none⟩] (some [1, 3, 5, 7, 9, 11, 12, 56]))
   (.cond (.t 56)
    .skip
    (.exit 0)))
   (.seq
   (.block 1
    (.ops false [
      ⟨some 59, .fld 0 (.t 11), none⟩,
      ⟨some 60, .load 1 false (.t 59) [], none⟩,
      ⟨some 61, .mov (.t 12), none⟩,
      ⟨some 62, .idx 1 (.t 60) (.t 61), none⟩,
      ⟨some 63, .load 1 false (.t 62) [], none⟩,
      ⟨some 64, .bin .mul (.t 63) (.k (.int 2)), none⟩,
      ⟨some 65, .idx 1 (.t 60) (.t 61), none⟩,
      ⟨none, .store 1 (.t 65) (.t 64) none, none⟩] (some [1, 3, 5, 7, 9, 11, 12])))
   (.ops false [
     ⟨some 57, .mov (.t 12), none⟩,
     ⟨some 58, .bin .add (.t 57) (.k (.int 1)), none⟩,
     ⟨some 12, .mov (.t 58), none⟩] (some [1, 3, 5, 7, 9, 11, 12])))))))
 (.seq
 (.seq
 (.opsN false [
   ⟨some 66, .load 2 true (.t 11) [], none⟩,
   ⟨some 67, .call 19 [.t 66], none⟩,
   ⟨some 68, .bin .eql (.t 67) (.k (.int 0)), none⟩] (some [1, 3, 5, 7, 9, 11, 68]))
 (.cond (.t 68)
  (.seq
  (.ops false [
    ⟨some 70, .load 2 true (.t 11) [], none⟩,
    ⟨some 71, .mov (.t 1), none⟩,
    ⟨some 72, .call 29 [.t 70, .t 71], none⟩,
    ⟨some 69, .mov (.t 72), none⟩,
    ⟨some 73, .ext (.t 69) 0, none⟩,
    ⟨some 74, .ext (.t 69) 1, none⟩,
    ⟨some 13, .mov (.t 73), none⟩,
    ⟨some 14, .mov (.t 74), none⟩] (some [1, 3, 5, 7, 9, 11, 13, 14]))
  (.seq
  (.ops false [
    ⟨some 76, .load 2 true (.t 11) [], none⟩,
    ⟨some 77, .mov (.t 1), none⟩,
    ⟨some 78, .call 34 [.t 76, .t 77], none⟩,
    ⟨some 75, .mov (.t 78), none⟩,
    ⟨some 79, .ext (.t 75) 0, none⟩,
    ⟨some 80, .ext (.t 75) 1, none⟩,
    ⟨some 15, .mov (.t 79), none⟩,
    ⟨some 16, .mov (.t 80), none⟩] (some [1, 3, 5, 7, 9, 13, 14, 15, 16]))
  (.seq
  (.ops false [
    ⟨some 81, .mov (.t 14), none⟩,
    ⟨some 82, .not (.t 81), none⟩,
    ⟨some 83, .mov (.t 82), none⟩,
    ⟨some 84, .mov (.t 16), some (83, false)⟩,
    ⟨some 85, .bin .neq (.t 84) (.k (.int 0)), some (83, false)⟩,
    ⟨some 86, .pick (.t 83) (.k (.bool true)) (.t 85), none⟩,
    ⟨some 87, .mov (.t 86), none⟩,
    ⟨some 88, .mov (.t 13), some (87, false)⟩,
    ⟨some 89, .mov (.t 7), some (87, false)⟩,
    ⟨some 90, .call 26 [.t 88, .t 89], some (87, false)⟩,
    ⟨some 91, .not (.t 90), some (87, false)⟩,
    ⟨some 92, .pick (.t 87) (.k (.bool true)) (.t 91), none⟩,
    ⟨some 93, .mov (.t 92), none⟩,
    ⟨some 94, .mov (.t 9), some (93, false)⟩,
    ⟨some 95, .mov (.t 15), some (93, false)⟩,
    ⟨some 96, .call 26 [.t 94, .t 95], some (93, false)⟩,
    ⟨some 97, .not (.t 96), some (93, false)⟩,
    ⟨some 98, .pick (.t 93) (.k (.bool true)) (.t 97), none⟩] (some [1, 3, 5, 7, 98]))
  (.cond (.t 98)
   (.seq
   (.ops false [
     ⟨some 6, .mov (.k (.bool false)), none⟩] (some [6]))
   .ret)
   .skip))))
  .skip))
 (.seq
 (.seq
 (.ops true [
   ⟨some 99, .fld 3 (.t 5), none⟩,
   ⟨some 100, .load 1 false (.t 99) [], none⟩,
   ⟨some 101, .fld 0 (.t 3), none⟩,
   ⟨some 102, .load 1 false (.t 101) [], none⟩,
   ⟨some 103, .fld 0 (.t 5), none⟩,
   ⟨some 104, .load 1 false (.t 103) [], none⟩,
   ⟨some 105, .idx 1 (.t 102) (.t 104), none⟩,
   ⟨some 106, .load 1 false (.t 105) [], none⟩,
   ⟨some 107, .call 35 [.t 100, .t 106, .k (.int 20)], none⟩,
   ⟨some 108, .not (.t 107), none⟩] (some [1, 3, 5, 7, 108]))
 (.cond (.t 108)
  (.seq
  (.ops false [
    ⟨some 109, .call 16 [], none⟩,
    ⟨some 6, .mov (.t 109), none⟩] (some [6]))
  .ret)
  .skip))
 (.seq
 (.ops false [
   ⟨some 111, .load 2 true (.t 3) [], none⟩,
   ⟨some 112, .fld 0 (.t 5), none⟩,
   ⟨some 113, .load 1 false (.t 112) [], none⟩,
   ⟨some 114, .fld 3 (.t 5), none⟩,
   ⟨some 115, .load 1 false (.t 114) [], none⟩,
   ⟨some 116, .call 36 [.t 111, .t 113, .t 115], none⟩,
   ⟨some 117, .mov (.t 1), none⟩,
   ⟨some 118, .call 29 [.t 116, .t 117], none⟩,
   ⟨some 110, .mov (.t 118), none⟩,
   ⟨some 119, .ext (.t 110) 0, none⟩,
   ⟨some 120, .ext (.t 110) 1, none⟩,
   ⟨some 17, .mov (.t 119), none⟩,
   ⟨some 18, .mov (.t 120), none⟩] (some [5, 7, 17, 18]))
 (.seq
 (.seq
 (.ops true [
   ⟨some 121, .mov (.t 18), none⟩,
   ⟨some 122, .not (.t 121), none⟩,
   ⟨some 123, .mov (.t 122), none⟩,
   ⟨some 124, .mov (.t 17), some (123, false)⟩,
   ⟨some 125, .fld 0 (.t 5), some (123, false)⟩,
   ⟨some 126, .load 1 false (.t 125) [], some (123, false)⟩,
   ⟨some 127, .idx 1 (.t 124) (.t 126), some (123, false)⟩,
   ⟨some 128, .load 1 false (.t 127) [], some (123, false)⟩,
   ⟨some 129, .mov (.t 7), some (123, false)⟩,
   ⟨some 130, .fld 0 (.t 5), some (123, false)⟩,
   ⟨some 131, .load 1 false (.t 130) [], some (123, false)⟩,
   ⟨some 132, .idx 1 (.t 129) (.t 131), some (123, false)⟩,
   ⟨some 133, .load 1 false (.t 132) [], some (123, false)⟩,
   ⟨some 134, .bin .lss (.t 128) (.t 133), some (123, false)⟩,
   ⟨some 135, .pick (.t 123) (.k (.bool true)) (.t 134), none⟩] (some [5, 7, 17, 135]))
 (.cond (.t 135)
  (.seq
  (.ops false [
    ⟨some 6, .mov (.k (.bool false)), none⟩] (some [6]))
  .ret)
  .skip))
 (.seq
 (.seq
 (.ops false [
   ⟨some 19, .mov (.k (.int 0)), none⟩] (some [5, 7, 17, 19]))
 (.block 2
  (.loop
   (.seq
   (.seq
   (.ops false [
     ⟨some 136, .mov (.t 19), none⟩,
     ⟨some 137, .mov (.t 7), none⟩,
     ⟨some 138, .len (.t 137), none⟩,
     ⟨some 139, .bin .lss (.t 136) (.t 138), none⟩] (some [5, 7, 17, 19, 139]))
   (.cond (.t 139)
    .skip
    (.exit 2)))
   (.seq
   (.block 3
    (.seq
    (.ops true [
      ⟨some 142, .mov (.t 19), none⟩,
      ⟨some 143, .fld 0 (.t 5), none⟩,
      ⟨some 144, .load 1 false (.t 143) [], none⟩,
      ⟨some 145, .bin .neq (.t 142) (.t 144), none⟩,
      ⟨some 146, .mov (.t 145), none⟩,
      ⟨some 147, .mov (.t 17), some (146, true)⟩,
      ⟨some 148, .mov (.t 19), some (146, true)⟩,
      ⟨some 149, .idx 1 (.t 147) (.t 148), some (146, true)⟩,
      ⟨some 150, .load 1 false (.t 149) [], some (146, true)⟩,
      ⟨some 151, .mov (.t 7), some (146, true)⟩,
      ⟨some 152, .mov (.t 19), some (146, true)⟩,
      ⟨some 153, .idx 1 (.t 151) (.t 152), some (146, true)⟩,
      ⟨some 154, .load 1 false (.t 153) [], some (146, true)⟩,
      ⟨some 155, .bin .gtr (.t 150) (.t 154), some (146, true)⟩,
      ⟨some 156, .pick (.t 146) (.t 155) (.k (.bool false)), none⟩] (some [5, 7, 17, 19, 156]))
    (.cond (.t 156)
     (.seq
     (.ops false [
       ⟨some 6, .mov (.k (.bool false)), none⟩] (some [6]))
     .ret)
     .skip)))
   (.ops false [
     ⟨some 140, .mov (.t 19), none⟩,
     ⟨some 141, .bin .add (.t 140) (.k (.int 1)), none⟩,
     ⟨some 19, .mov (.t 141), none⟩] (some [5, 7, 17, 19])))))))
 (.seq
 (.ops false [
   ⟨some 157, .call 16 [], none⟩,
   ⟨some 6, .mov (.t 157), none⟩] (some [6]))
 .ret)))))))))))))

theorem m6g : fmatch Try.prog Try.f6 3 [.tmp 6] v6g = true := by kernel_rfl

/-- steening/steeninglaw07.MouthsMosts -/
def v7g : VC :=
 (.seq
 (.ops false [
   ⟨some 3, .box 3 2 (.t 0), none⟩,
   ⟨some 5, .box 5 4 (.t 2), none⟩,
   ⟨some 6, .mov (.k (.bool false)), none⟩] (some [1, 3, 5]))
 (.seq
 (.seq
 (.ops true [
   ⟨some 16, .load 2 true (.t 3) [], none⟩,
   ⟨some 17, .mov (.t 1), none⟩,
   ⟨some 18, .call 28 [.t 16, .t 17], none⟩,
   ⟨some 19, .not (.t 18), none⟩,
   ⟨some 20, .mov (.t 19), none⟩,
   ⟨some 21, .load 2 true (.t 3) [], some (20, false)⟩,
   ⟨some 22, .fld 0 (.t 5), some (20, false)⟩,
   ⟨some 23, .load 1 false (.t 22) [], some (20, false)⟩,
   ⟨some 24, .call 32 [.t 21, .t 23], some (20, false)⟩,
   ⟨some 25, .not (.t 24), some (20, false)⟩,
   ⟨some 26, .pick (.t 20) (.k (.bool true)) (.t 25), none⟩,
   ⟨some 27, .mov (.t 26), none⟩,
   ⟨some 28, .fld 3 (.t 5), some (27, false)⟩,
   ⟨some 29, .load 1 false (.t 28) [], some (27, false)⟩,
   ⟨some 30, .fld 1 (.t 3), some (27, false)⟩,
   ⟨some 31, .load 1 false (.t 30) [], some (27, false)⟩,
   ⟨some 32, .fld 0 (.t 5), some (27, false)⟩,
   ⟨some 33, .load 1 false (.t 32) [], some (27, false)⟩,
   ⟨some 34, .idx 1 (.t 31) (.t 33), some (27, false)⟩,
   ⟨some 35, .load 1 false (.t 34) [], some (27, false)⟩,
   ⟨some 36, .call 35 [.t 29, .t 35, .k (.int 20)], some (27, false)⟩,
   ⟨some 37, .not (.t 36), some (27, false)⟩,
   ⟨some 38, .pick (.t 27) (.k (.bool true)) (.t 37), none⟩] (some [1, 3, 5, 38]))
 (.cond (.t 38)
  (.seq
  (.ops false [
    ⟨some 39, .call 16 [], none⟩,
    ⟨some 6, .mov (.t 39), none⟩] (some [6]))
  .ret)
  .skip))
 (.seq
 (.ops false [
   ⟨some 41, .load 2 true (.t 3) [], none⟩,
   ⟨some 42, .mov (.t 1), none⟩,
   ⟨some 43, .call 29 [.t 41, .t 42], none⟩,
   ⟨some 40, .mov (.t 43), none⟩,
   ⟨some 44, .ext (.t 40) 0, none⟩,
   ⟨some 45, .ext (.t 40) 1, none⟩,
   ⟨some 7, .mov (.t 44), none⟩,
   ⟨some 8, .mov (.t 45), none⟩] (some [1, 3, 5, 7, 8]))
 (.seq
 (.ops false [
   ⟨some 47, .load 2 true (.t 3) [], none⟩,
   ⟨some 48, .fld 0 (.t 5), none⟩,
   ⟨some 49, .load 1 false (.t 48) [], none⟩,
   ⟨some 50, .fld 3 (.t 5), none⟩,
   ⟨some 51, .load 1 false (.t 50) [], none⟩,
   ⟨some 52, .call 37 [.t 47, .t 49, .t 51], none⟩,
   ⟨some 53, .mov (.t 1), none⟩,
   ⟨some 54, .call 29 [.t 52, .t 53], none⟩,
   ⟨some 46, .mov (.t 54), none⟩,
   ⟨some 55, .ext (.t 46) 0, none⟩,
   ⟨some 56, .ext (.t 46) 1, none⟩,
   ⟨some 9, .mov (.t 55), none⟩,
   ⟨some 10, .mov (.t 56), none⟩] (some [1, 3, 5, 7, 8, 9, 10]))
 (.seq
 (.seq
 (.ops true [
   ⟨some 57, .mov (.t 8), none⟩,
   ⟨some 58, .not (.t 57), none⟩,
   ⟨some 59, .mov (.t 58), none⟩,
   ⟨some 60, .mov (.t 10), some (59, false)⟩,
   ⟨some 61, .not (.t 60), some (59, false)⟩,
   ⟨some 62, .pick (.t 59) (.k (.bool true)) (.t 61), none⟩,
   ⟨some 63, .mov (.t 62), none⟩,
   ⟨some 64, .mov (.t 9), some (63, false)⟩,
   ⟨some 65, .fld 0 (.t 5), some (63, false)⟩,
   ⟨some 66, .load 1 false (.t 65) [], some (63, false)⟩,
   ⟨some 67, .idx 1 (.t 64) (.t 66), some (63, false)⟩,
   ⟨some 68, .load 1 false (.t 67) [], some (63, false)⟩,
   ⟨some 69, .mov (.t 7), some (63, false)⟩,
   ⟨some 70, .fld 0 (.t 5), some (63, false)⟩,
   ⟨some 71, .load 1 false (.t 70) [], some (63, false)⟩,
   ⟨some 72, .idx 1 (.t 69) (.t 71), some (63, false)⟩,
   ⟨some 73, .load 1 false (.t 72) [], some (63, false)⟩,
   ⟨some 74, .bin .lss (.t 68) (.t 73), some (63, false)⟩,
   ⟨some 75, .pick (.t 63) (.k (.bool true)) (.t 74), none⟩] (some [1, 3, 5, 7, 9, 75]))
 (.cond (.t 75)
  (.seq
  (.ops false [
    ⟨some 6, .mov (.k (.bool false)), none⟩] (some [6]))
  .ret)
  .skip))
 (.seq
 (.ops false [
   ⟨some 11, .mov (.k (.bool false)), none⟩] (some [1, 3, 5, 7, 9, 11]))
 (.seq
 (.ops false [
   ⟨some 76, .load 2 true (.t 3) [], none⟩,
   ⟨some 77, .calli 17 [.t 76], none⟩,
   ⟨some 12, .alloc 12 [.sl 1 [] .full, .sl 1 [] .full], none⟩,
   ⟨none, .store 2 (.t 12) (.t 77) (some 12), none⟩] (some [1, 3, 5, 7, 9, 11, 12]))
 (.seq
 (.seq
 (.ops false [
   ⟨some 13, .mov (.k (.int 0)), none⟩] (some [1, 3, 5, 7, 9, 11, 12, 13]))
 (.block 0
  (.loop
   (.seq
   (.seq
   (.ops false [
     ⟨some 78, .mov (.t 13), none⟩,
     ⟨some 79, .mov (.t 7), none⟩,
     ⟨some 80, .len (.t 79), none⟩,
     ⟨some 81, .bin .lss (.t 78) (.t 80), none⟩] (some [1, 3, 5, 7, 9, 11, 12, 13, 81]))
   (.cond (.t 81)
    .skip
    (.exit 0)))
   (.seq
   (.block 1
    (.seq
    (.seq
    (.ops true [
      ⟨some 84, .mov (.t 13), none⟩,
      ⟨some 85, .fld 0 (.t 5), none⟩,
      ⟨some 86, .load 1 false (.t 85) [], none⟩,
      ⟨some 87, .bin .neq (.t 84) (.t 86), none⟩,
      ⟨some 88, .mov (.t 87), none⟩,
      ⟨some 89, .mov (.t 9), some (88, true)⟩,
      ⟨some 90, .mov (.t 13), some (88, true)⟩,
      ⟨some 91, .idx 1 (.t 89) (.t 90), some (88, true)⟩,
      ⟨some 92, .load 1 false (.t 91) [], some (88, true)⟩,
      ⟨some 93, .mov (.t 7), some (88, true)⟩,
      ⟨some 94, .mov (.t 13), some (88, true)⟩,
      ⟨some 95, .idx 1 (.t 93) (.t 94), some (88, true)⟩,
      ⟨some 96, .load 1 false (.t 95) [], some (88, true)⟩,
      ⟨some 97, .bin .gtr (.t 92) (.t 96), some (88, true)⟩,
      ⟨some 98, .pick (.t 88) (.t 97) (.k (.bool false)), none⟩] (some [1, 3, 5, 7, 9, 11, 12, 13, 98]))
    (.cond (.t 98)
     (.seq
     (.ops false [
       ⟨some 6, .mov (.k (.bool false)), none⟩] (some [6]))
     .ret)
     .skip))
    (.seq
    (.ops true [
      ⟨some 99, .mov (.t 11), none⟩,
      ⟨some 100, .mov (.t 99), none⟩,
      ⟨some 101, .mov (.t 7), some (100, false)⟩,
      ⟨some 102, .mov (.t 13), some (100, false)⟩,
      ⟨some 103, .idx 1 (.t 101) (.t 102), some (100, false)⟩,
      ⟨some 104, .load 1 false (.t 103) [], some (100, false)⟩,
      ⟨some 105, .fld 1 (.t 3), some (100, false)⟩,
      ⟨some 106, .load 1 false (.t 105) [], some (100, false)⟩,
      ⟨some 107, .mov (.t 13), some (100, false)⟩,
      ⟨some 108, .idx 1 (.t 106) (.t 107), some (100, false)⟩,
      ⟨some 109, .load 1 false (.t 108) [], some (100, false)⟩,
      ⟨some 110, .bin .eql (.t 104) (.t 109), some (100, false)⟩,
      ⟨some 111, .pick (.t 100) (.k (.bool true)) (.t 110), none⟩,
      ⟨some 11, .mov (.t 111), none⟩] (some [1, 3, 5, 7, 9, 11, 12, 13]))
    (.ops false [
      ⟨some 112, .fld 1 (.t 12), none⟩,
      ⟨some 113, .load 1 false (.t 112) [], none⟩,
      ⟨some 114, .mov (.t 13), none⟩,
      ⟨some 115, .idx 1 (.t 113) (.t 114), none⟩,
      ⟨none, .store 1 (.t 115) (.k (.int 20)) none, none⟩] (some [1, 3, 5, 7, 9, 11, 12, 13])))))
   (.ops false [
     ⟨some 82, .mov (.t 13), none⟩,
     ⟨some 83, .bin .add (.t 82) (.k (.int 1)), none⟩,
     ⟨some 13, .mov (.t 83), none⟩] (some [1, 3, 5, 7, 9, 11, 12, 13])))))))
 (.seq
 (.opsN false [
   ⟨some 117, .load 2 true (.t 12) [], none⟩,
   ⟨some 118, .mov (.t 1), none⟩,
   ⟨some 119, .call 29 [.t 117, .t 118], none⟩,
   ⟨some 116, .mov (.t 119), none⟩,
   ⟨some 120, .ext (.t 116) 0, none⟩,
   ⟨some 121, .ext (.t 116) 1, none⟩,
   ⟨some 14, .mov (.t 120), none⟩,
   ⟨some 15, .mov (.t 121), none⟩] (some [7, 11, 14, 15]))
 (.seq
 (.ops false [
   ⟨some 122, .mov (.t 15), none⟩,
   ⟨some 123, .mov (.t 122), none⟩,
   ⟨some 124, .mov (.t 11), some (123, true)⟩,
   ⟨some 125, .mov (.t 124), some (123, true)⟩,
   ⟨some 126, .mov (.t 14), some (125, false)⟩,
   ⟨some 127, .mov (.t 7), some (125, false)⟩,
   ⟨some 128, .call 26 [.t 126, .t 127], some (125, false)⟩,
   ⟨some 129, .pick (.t 125) (.k (.bool true)) (.t 128), some (123, true)⟩,
   ⟨some 130, .pick (.t 123) (.t 129) (.k (.bool false)), none⟩,
   ⟨some 131, .mov (.t 130), none⟩,
   ⟨some 132, .call 16 [], some (131, true)⟩,
   ⟨some 133, .pick (.t 131) (.t 132) (.k (.bool false)), none⟩,
   ⟨some 6, .mov (.t 133), none⟩] (some [6]))
 .ret))))))))))

theorem m7g : fmatch Try.prog Try.f7 3 [.tmp 6] v7g = true := by kernel_rfl

end Go.Proofs.Ytbghdcleoamkiaa

/- The compact code of the functions, and that it is theirs. -/
namespace Go.Proofs.Ytbghdcleoamkiaa
open Go Go.V
set_option maxRecDepth 100000

/-- steening/mouths.Need -/
def v55g : VC :=
 (.seq
 (.ops false [
   ⟨some 4, .box 4 2 (.t 0), none⟩,
   ⟨some 8, .mov (.k (.int 0)), none⟩,
   ⟨some 9, .mov (.k (.int 0)), none⟩] (some [1, 2, 3, 4]))
 (.seq
 (.seq
 (.ops true [
   ⟨some 12, .load 2 true (.t 4) [], none⟩,
   ⟨some 13, .load 2 true (.t 4) [], none⟩,
   ⟨some 14, .mov (.t 1), none⟩,
   ⟨some 15, .call 79 [.t 13, .t 14], none⟩,
   ⟨some 16, .mov (.t 15), none⟩,
   ⟨some 17, .mov (.t 2), some (16, true)⟩,
   ⟨some 18, .call 63 [.t 17], some (16, true)⟩,
   ⟨some 19, .pick (.t 16) (.t 18) (.k (.bool false)), none⟩,
   ⟨some 20, .mov (.t 19), none⟩,
   ⟨some 21, .mov (.t 3), some (20, true)⟩,
   ⟨some 22, .call 80 [.t 21], some (20, true)⟩,
   ⟨some 23, .pick (.t 20) (.t 22) (.k (.bool false)), none⟩,
   ⟨some 24, .call 62 [.t 12, .t 23], none⟩,
   ⟨some 10, .mov (.t 24), none⟩] (some [1, 2, 3, 4, 10]))
 (.seq
 (.ops false [
   ⟨some 25, .mov (.t 10), none⟩,
   ⟨some 26, .bin .neq (.t 25) (.k (.int 0)), none⟩] (some [1, 2, 3, 4, 10, 26]))
 (.cond (.t 26)
  (.seq
  (.ops false [
    ⟨some 27, .mov (.t 10), none⟩,
    ⟨some 8, .mov (.k (.int 0)), none⟩,
    ⟨some 9, .mov (.t 27), none⟩] (some [8, 9]))
  .ret)
  .skip)))
 (.seq
 (.ops false [
   ⟨some 28, .fld 0 (.t 4), none⟩,
   ⟨some 29, .load 1 false (.t 28) [], none⟩,
   ⟨some 30, .calli 81 [.t 29], none⟩,
   ⟨some 31, .fld 0 (.t 4), none⟩,
   ⟨none, .store 1 (.t 31) (.t 30) (some 4), none⟩] (some [1, 2, 3, 4]))
 (.seq
 (.ops false [
   ⟨some 32, .fld 0 (.t 4), none⟩,
   ⟨some 33, .load 1 false (.t 32) [], none⟩,
   ⟨some 34, .mov (.t 1), none⟩,
   ⟨some 35, .idx 1 (.t 33) (.t 34), none⟩,
   ⟨some 11, .mov (.t 35), none⟩] (some [1, 2, 3, 4, 11]))
 (.seq
 (.seq
 (.ops false [
   ⟨some 36, .mov (.t 11), none⟩,
   ⟨some 37, .nilck (.t 36), none⟩,
   ⟨none, .store 1 (.t 37) (.k (.int 0)) none, none⟩] (some [1, 2, 3, 4, 11]))
 (.block 0
  (.loop
   (.seq
   (.seq
   (.ops false [
     ⟨some 38, .mov (.t 11), none⟩,
     ⟨some 39, .nilck (.t 38), none⟩,
     ⟨some 40, .load 1 false (.t 39) [], none⟩,
     ⟨some 41, .bin .leq (.t 40) (.k (.int 20)), none⟩] (some [1, 2, 3, 4, 11, 41]))
   (.cond (.t 41)
    .skip
    (.exit 0)))
   (.seq
   (.block 1
    (.seq
    (.ops false [
      ⟨some 47, .loadW 2 (.t 4) [], none⟩,
      ⟨some 48, .mov (.t 2), none⟩,
      ⟨some 49, .callb 64 [.t 47, .t 48] [], none⟩,
      ⟨some 50, .mov (.t 1), none⟩,
      ⟨some 51, .idx 1 (.t 49) (.t 50), none⟩,
      ⟨some 52, .load 1 false (.t 51) [], none⟩,
      ⟨some 53, .mov (.t 3), none⟩,
      ⟨some 54, .bin .geq (.t 52) (.t 53), none⟩] (some [1, 2, 3, 4, 11, 54]))
    (.cond (.t 54)
     (.seq
     (.ops false [
       ⟨some 55, .mov (.t 11), none⟩,
       ⟨some 56, .nilck (.t 55), none⟩,
       ⟨some 57, .load 1 false (.t 56) [], none⟩,
       ⟨some 8, .mov (.t 57), none⟩,
       ⟨some 9, .mov (.k (.int 0)), none⟩] (some [8, 9]))
     .ret)
     .skip)))
   (.ops false [
     ⟨some 42, .mov (.t 11), none⟩,
     ⟨some 43, .nilck (.t 42), none⟩,
     ⟨some 44, .load 1 false (.t 43) [], none⟩,
     ⟨some 45, .bin .add (.t 44) (.k (.int 1)), none⟩,
     ⟨some 46, .nilck (.t 42), none⟩,
     ⟨none, .store 1 (.t 46) (.t 45) none, none⟩] (some [1, 2, 3, 4, 11])))))))
 (.seq
 (.ops false [
   ⟨some 8, .mov (.k (.int 0)), none⟩,
   ⟨some 9, .mov (.k (.int 3)), none⟩] (some [8, 9]))
 .ret))))))

theorem m55g : fmatch Try.prog Try.f55 4 [.tmp 8, .tmp 9] v55g = true := by kernel_rfl

/-- slices.Clone[[]int,int] -/
def v81g : VC :=
 (.seq
 (.ops false [
   ⟨some 2, .nils 5002 1, none⟩] (some [0]))
 (.seq
 (.seq
 (.ops false [
   ⟨some 3, .mov (.t 0), none⟩,
   ⟨some 4, .nile (.t 3), none⟩] (some [0, 4]))
 (.cond (.t 4)
  (.seq
  (.ops false [
    ⟨some 2, .nils 5501 1, none⟩] (some [2]))
  .ret)
  .skip))
 (.seq
 (.ops false [
   ⟨some 5, .bslice 1 [], none⟩,
   ⟨some 6, .mov (.t 0), none⟩,
   ⟨some 7, .appG 1 none 1 8 false (.t 5) (.t 6), none⟩,
   ⟨some 2, .mov (.t 7), none⟩] (some [2]))
 .ret)))

theorem m81g : fmatch Try.prog Try.f81 1 [.tmp 2] v81g = true := by kernel_rfl

end Go.Proofs.Ytbghdcleoamkiaa

/- The compact code of the functions, and that it is theirs. -/
namespace Go.Proofs.Ytbghdcleoamkiaa
open Go Go.V
set_option maxRecDepth 100000

/-- steening/mouths.isQuarter -/
def v79 : VC :=
 (.seq
 (.ops false [
   ⟨some 2, .box 2 2 (.t 0), none⟩,
   ⟨some 4, .mov (.k (.bool false)), none⟩] (some [1, 2]))
 (.seq
 (.ops false [
   ⟨some 5, .mov (.t 1), none⟩,
   ⟨some 6, .fld 0 (.t 2), none⟩,
   ⟨some 7, .load 1 false (.t 6) [], none⟩,
   ⟨some 8, .len (.t 7), none⟩,
   ⟨some 9, .bin .sub (.t 8) (.k (.int 1)), none⟩,
   ⟨some 10, .call 68 [.t 5, .k (.int 0), .t 9], none⟩,
   ⟨some 4, .mov (.t 10), none⟩] (some [4]))
 .ret))

theorem m79 : fmatch Try.prog Try.f79 2 [.tmp 4] v79 = true := by kernel_rfl

/-- steening/mouths.areGauges -/
def v80 : VC :=
 (.seq
 (.ops false [
   ⟨some 2, .mov (.k (.bool false)), none⟩] (some [0]))
 (.seq
 (.ops false [
   ⟨some 3, .mov (.t 0), none⟩,
   ⟨some 4, .call 68 [.t 3, .k (.int 1), .k (.int 20)], none⟩,
   ⟨some 2, .mov (.t 4), none⟩] (some [2]))
 .ret))

theorem m80 : fmatch Try.prog Try.f80 1 [.tmp 2] v80 = true := by kernel_rfl

/-- slices.ContainsFunc[[]int,int] -/
def v82 : VC :=
 (.seq
 (.ops false [
   ⟨some 4, .mov (.k (.bool false)), none⟩] (some [0, 1]))
 (.seq
 (.ops false [
   ⟨some 5, .mov (.t 0), none⟩,
   ⟨some 6, .mov (.t 1), none⟩,
   ⟨some 7, .call 89 [.t 5, .t 6], none⟩,
   ⟨some 8, .bin .geq (.t 7) (.k (.int 0)), none⟩,
   ⟨some 4, .mov (.t 8), none⟩] (some [4]))
 .ret))

theorem m82 : fmatch Try.prog Try.f82 2 [.tmp 4] v82 = true := by kernel_rfl

/-- steening/mouths.are$1 -/
def v83 : VC :=
 (.seq
 (.ops false [
   ⟨some 3, .mov (.k (.bool false)), none⟩] (some [0, 1]))
 (.seq
 (.ops false [
   ⟨some 4, .mov (.t 0), none⟩,
   ⟨some 5, .load 1 false (.t 1) [], none⟩,
   ⟨some 6, .call 68 [.t 4, .k (.int 0), .t 5], none⟩,
   ⟨some 7, .not (.t 6), none⟩,
   ⟨some 3, .mov (.t 7), none⟩] (some [3]))
 .ret))

theorem m83 : fmatch Try.prog Try.f83 2 [.tmp 3] v83 = true := by kernel_rfl

/-- (*steening/mouths.gate).next -/
def v84 : VC :=
 (.seq
 (.ops false [
   ⟨some 2, .mov (.k (.int 0)), none⟩] (some [0]))
 (.seq
 (.ops false [
   ⟨some 3, .mov (.k (.int (-1))), none⟩] (some [0, 3]))
 (.seq
 (.seq
 (.ops false [
   ⟨some 6, .mov (.t 0), none⟩,
   ⟨some 7, .nilck (.t 6), none⟩,
   ⟨some 8, .fld 0 (.t 7), none⟩,
   ⟨some 9, .fld 0 (.t 8), none⟩,
   ⟨some 10, .load 1 false (.t 9) [], none⟩,
   ⟨some 11, .len (.t 10), none⟩,
   ⟨some 12, .mov (.k (.int 0)), none⟩] (some [0, 3, 10, 11, 12]))
 (.block 0
  (.loop
   (.seq
   (.ops false [
     ⟨some 13, .bin .lss (.t 12) (.t 11), none⟩] (some [0, 3, 10, 11, 12, 13]))
   (.seq
   (.cond (.t 13)
    .skip
    (.exit 0))
   (.seq
   (.block 1
    (.seq
    (.ops false [
      ⟨some 14, .mov (.t 12), none⟩,
      ⟨some 15, .idx 1 (.t 10) (.t 12), none⟩,
      ⟨some 16, .load 1 false (.t 15) [], none⟩,
      ⟨some 4, .mov (.t 14), none⟩,
      ⟨some 5, .mov (.t 16), none⟩] (some [0, 3, 4, 5, 10, 11, 12]))
    (.block 2
     (.seq
     (.ops true [
       ⟨some 18, .mov (.t 5), none⟩,
       ⟨some 19, .bin .eql (.t 18) (.k (.int 0)), none⟩,
       ⟨some 20, .mov (.t 19), none⟩,
       ⟨some 21, .mov (.t 0), some (20, false)⟩,
       ⟨some 22, .mov (.t 4), some (20, false)⟩,
       ⟨some 23, .nilck (.t 21), some (20, false)⟩,
       ⟨some 24, .fld 2 (.t 23), some (20, false)⟩,
       ⟨some 25, .idxA 5 1 (.t 24) (.t 22), some (20, false)⟩,
       ⟨some 26, .load 1 false (.t 25) [], some (20, false)⟩,
       ⟨some 27, .mov (.t 0), some (20, false)⟩,
       ⟨some 28, .nilck (.t 27), some (20, false)⟩,
       ⟨some 29, .fld 0 (.t 28), some (20, false)⟩,
       ⟨some 30, .fld 1 (.t 29), some (20, false)⟩,
       ⟨some 31, .load 1 false (.t 30) [], some (20, false)⟩,
       ⟨some 32, .mov (.t 4), some (20, false)⟩,
       ⟨some 33, .idx 1 (.t 31) (.t 32), some (20, false)⟩,
       ⟨some 34, .load 1 false (.t 33) [], some (20, false)⟩,
       ⟨some 35, .bin .geq (.t 26) (.t 34), some (20, false)⟩,
       ⟨some 36, .pick (.t 20) (.k (.bool true)) (.t 35), none⟩,
       ⟨some 17, .mov (.t 36), none⟩] (some [0, 3, 4, 5, 10, 11, 12, 17]))
     (.cond (.t 17)
      .skip
      (.seq
      (.ops true [
        ⟨some 38, .mov (.t 3), none⟩,
        ⟨some 39, .bin .lss (.t 38) (.k (.int 0)), none⟩,
        ⟨some 40, .mov (.t 39), none⟩,
        ⟨some 41, .mov (.t 5), some (40, false)⟩,
        ⟨some 42, .mov (.t 0), some (40, false)⟩,
        ⟨some 43, .mov (.t 3), some (40, false)⟩,
        ⟨some 44, .nilck (.t 42), some (40, false)⟩,
        ⟨some 45, .fld 2 (.t 44), some (40, false)⟩,
        ⟨some 46, .idxA 5 1 (.t 45) (.t 43), some (40, false)⟩,
        ⟨some 47, .load 1 false (.t 46) [], some (40, false)⟩,
        ⟨some 48, .bin .mul (.k (.int 2)) (.t 47), some (40, false)⟩,
        ⟨some 49, .bin .add (.t 48) (.k (.int 1)), some (40, false)⟩,
        ⟨some 50, .bin .mul (.t 41) (.t 49), some (40, false)⟩,
        ⟨some 51, .mov (.t 0), some (40, false)⟩,
        ⟨some 52, .nilck (.t 51), some (40, false)⟩,
        ⟨some 53, .fld 0 (.t 52), some (40, false)⟩,
        ⟨some 54, .fld 0 (.t 53), some (40, false)⟩,
        ⟨some 55, .load 1 false (.t 54) [], some (40, false)⟩,
        ⟨some 56, .mov (.t 3), some (40, false)⟩,
        ⟨some 57, .idx 1 (.t 55) (.t 56), some (40, false)⟩,
        ⟨some 58, .load 1 false (.t 57) [], some (40, false)⟩,
        ⟨some 59, .mov (.t 0), some (40, false)⟩,
        ⟨some 60, .mov (.t 4), some (40, false)⟩,
        ⟨some 61, .nilck (.t 59), some (40, false)⟩,
        ⟨some 62, .fld 2 (.t 61), some (40, false)⟩,
        ⟨some 63, .idxA 5 1 (.t 62) (.t 60), some (40, false)⟩,
        ⟨some 64, .load 1 false (.t 63) [], some (40, false)⟩,
        ⟨some 65, .bin .mul (.k (.int 2)) (.t 64), some (40, false)⟩,
        ⟨some 66, .bin .add (.t 65) (.k (.int 1)), some (40, false)⟩,
        ⟨some 67, .bin .mul (.t 58) (.t 66), some (40, false)⟩,
        ⟨some 68, .bin .gtr (.t 50) (.t 67), some (40, false)⟩,
        ⟨some 69, .pick (.t 40) (.k (.bool true)) (.t 68), none⟩,
        ⟨some 37, .mov (.t 69), none⟩] (some [0, 3, 4, 10, 11, 12, 37]))
      (.cond (.t 37)
       (.ops false [
         ⟨some 70, .mov (.t 4), none⟩,
         ⟨some 3, .mov (.t 70), none⟩] (some [0, 3, 10, 11, 12]))
       .skip)))))))
   (.ops false [
     ⟨some 71, .bin .add (.t 12) (.k (.int 1)), none⟩,
     ⟨some 12, .mov (.t 71), none⟩] (some [0, 3, 10, 11, 12]))))))))
 (.seq
 (.ops false [
   ⟨some 72, .mov (.t 3), none⟩,
   ⟨some 2, .mov (.t 72), none⟩] (some [2]))
 .ret))))

theorem m84 : fmatch Try.prog Try.f84 1 [.tmp 2] v84 = true := by kernel_rfl

/-- steening/mouths.remainders$1 -/
def v85 : VC :=
 (.seq
 (.ops false [
   ⟨some 5, .mov (.k (.int 0)), none⟩] (some [0, 1, 2, 3]))
 (.seq
 (.ops true [
   ⟨some 6, .load 1 false (.t 1) [], none⟩,
   ⟨some 7, .fld 0 (.t 2), none⟩,
   ⟨some 8, .load 1 false (.t 7) [], none⟩,
   ⟨some 9, .mov (.t 0), none⟩,
   ⟨some 10, .idx 1 (.t 8) (.t 9), none⟩,
   ⟨some 11, .load 1 false (.t 10) [], none⟩,
   ⟨some 12, .bin .mul (.t 6) (.t 11), none⟩,
   ⟨some 13, .load 1 false (.t 3) [], none⟩,
   ⟨some 14, .bin .rem (.t 12) (.t 13), none⟩,
   ⟨some 5, .mov (.t 14), none⟩] (some [5]))
 .ret))

theorem m85 : fmatch Try.prog Try.f85 4 [.tmp 5] v85 = true := by kernel_rfl

/-- slices.SortStableFunc[[]int,int] -/
def v86 : VC :=
 (.ops false [
   ⟨some 4, .mov (.t 0), none⟩,
   ⟨some 5, .mov (.t 0), none⟩,
   ⟨some 6, .len (.t 5), none⟩,
   ⟨some 7, .mov (.t 1), none⟩,
   ⟨some 8, .calli 90 [.t 4, .t 6, .t 7], none⟩] (some []))

theorem m86 : fmatch Try.prog Try.f86 2 [] v86 = true := by kernel_rfl

/-- steening/mouths.remainders$2 -/
def v87 : VC :=
 (.seq
 (.ops false [
   ⟨some 5, .mov (.k (.int 0)), none⟩] (some [0, 1, 2]))
 (.seq
 (.ops true [
   ⟨some 6, .load 1 false (.t 2) [], none⟩,
   ⟨some 7, .mov (.t 1), none⟩,
   ⟨some 8, .callv (.t 6) [.t 7], none⟩,
   ⟨some 9, .load 1 false (.t 2) [], none⟩,
   ⟨some 10, .mov (.t 0), none⟩,
   ⟨some 11, .callv (.t 9) [.t 10], none⟩,
   ⟨some 12, .bin .sub (.t 8) (.t 11), none⟩,
   ⟨some 5, .mov (.t 12), none⟩] (some [5]))
 .ret))

theorem m87 : fmatch Try.prog Try.f87 3 [.tmp 5] v87 = true := by kernel_rfl

/-- slices.IndexFunc[[]int,int] -/
def v89 : VC :=
 (.seq
 (.ops false [
   ⟨some 4, .mov (.k (.int 0)), none⟩] (some [0, 1]))
 (.seq
 (.seq
 (.ops false [
   ⟨some 6, .mov (.t 0), none⟩,
   ⟨some 7, .len (.t 6), none⟩,
   ⟨some 8, .mov (.k (.int 0)), none⟩] (some [0, 1, 7, 8]))
 (.block 0
  (.loop
   (.seq
   (.ops false [
     ⟨some 9, .bin .lss (.t 8) (.t 7), none⟩] (some [0, 1, 7, 8, 9]))
   (.seq
   (.cond (.t 9)
    .skip
    (.exit 0))
   (.seq
   (.block 1
    (.seq
    (.ops false [
      ⟨some 10, .mov (.t 8), none⟩,
      ⟨some 5, .mov (.t 10), none⟩] (some [0, 1, 5, 7, 8]))
    (.seq
    (.ops false [
      ⟨some 11, .mov (.t 1), none⟩,
      ⟨some 12, .mov (.t 0), none⟩,
      ⟨some 13, .mov (.t 5), none⟩,
      ⟨some 14, .idx 1 (.t 12) (.t 13), none⟩,
      ⟨some 15, .load 1 false (.t 14) [], none⟩,
      ⟨some 16, .callv (.t 11) [.t 15], none⟩] (some [0, 1, 5, 7, 8, 16]))
    (.cond (.t 16)
     (.seq
     (.ops false [
       ⟨some 17, .mov (.t 5), none⟩,
       ⟨some 4, .mov (.t 17), none⟩] (some [4]))
     .ret)
     .skip))))
   (.ops false [
     ⟨some 18, .bin .add (.t 8) (.k (.int 1)), none⟩,
     ⟨some 8, .mov (.t 18), none⟩] (some [0, 1, 7, 8]))))))))
 (.seq
 (.ops false [
   ⟨some 4, .mov (.k (.int (-1))), none⟩] (some [4]))
 .ret)))

theorem m89 : fmatch Try.prog Try.f89 2 [.tmp 4] v89 = true := by kernel_rfl

/-- slices.stableCmpFunc[int] -/
def v90 : VC :=
 (.seq
 (.ops false [
   ⟨some 6, .mov (.k (.int 20)), none⟩] (some [0, 1, 2, 6]))
 (.seq
 (.ops false [
   ⟨some 10, .mov (.t 6), none⟩,
   ⟨some 7, .mov (.k (.int 0)), none⟩,
   ⟨some 8, .mov (.t 10), none⟩] (some [0, 1, 2, 6, 7, 8]))
 (.seq
 (.block 0
  (.loop
   (.seq
   (.seq
   (.ops false [
     ⟨some 11, .mov (.t 8), none⟩,
     ⟨some 12, .mov (.t 1), none⟩,
     ⟨some 13, .bin .leq (.t 11) (.t 12), none⟩] (some [0, 1, 2, 6, 7, 8, 13]))
   (.cond (.t 13)
    .skip
    (.exit 0)))
   (.block 1
    (.seq
    (.ops false [
      ⟨some 14, .mov (.t 0), none⟩,
      ⟨some 15, .mov (.t 7), none⟩,
      ⟨some 16, .mov (.t 8), none⟩,
      ⟨some 17, .mov (.t 2), none⟩,
      ⟨some 18, .calli 91 [.t 14, .t 15, .t 16, .t 17], none⟩] (some [0, 1, 2, 6, 8]))
    (.seq
    (.ops false [
      ⟨some 19, .mov (.t 8), none⟩,
      ⟨some 7, .mov (.t 19), none⟩] (some [0, 1, 2, 6, 7, 8]))
    (.ops false [
      ⟨some 20, .mov (.t 8), none⟩,
      ⟨some 21, .mov (.t 6), none⟩,
      ⟨some 22, .bin .add (.t 20) (.t 21), none⟩,
      ⟨some 8, .mov (.t 22), none⟩] (some [0, 1, 2, 6, 7, 8]))))))))
 (.seq
 (.ops false [
   ⟨some 23, .mov (.t 0), none⟩,
   ⟨some 24, .mov (.t 7), none⟩,
   ⟨some 25, .mov (.t 1), none⟩,
   ⟨some 26, .mov (.t 2), none⟩,
   ⟨some 27, .calli 91 [.t 23, .t 24, .t 25, .t 26], none⟩] (some [0, 1, 2, 6]))
 (.block 2
  (.loop
   (.seq
   (.seq
   (.ops false [
     ⟨some 28, .mov (.t 6), none⟩,
     ⟨some 29, .mov (.t 1), none⟩,
     ⟨some 30, .bin .lss (.t 28) (.t 29), none⟩] (some [0, 1, 2, 6, 30]))
   (.cond (.t 30)
    .skip
    (.exit 2)))
   (.block 3
    (.seq
    (.ops false [
      ⟨some 31, .mov (.t 6), none⟩,
      ⟨some 32, .bin .mul (.k (.int 2)) (.t 31), none⟩,
      ⟨some 7, .mov (.k (.int 0)), none⟩,
      ⟨some 8, .mov (.t 32), none⟩] (some [0, 1, 2, 6, 7, 8]))
    (.seq
    (.block 4
     (.loop
      (.seq
      (.seq
      (.ops false [
        ⟨some 33, .mov (.t 8), none⟩,
        ⟨some 34, .mov (.t 1), none⟩,
        ⟨some 35, .bin .leq (.t 33) (.t 34), none⟩] (some [0, 1, 2, 6, 7, 8, 35]))
      (.cond (.t 35)
       .skip
       (.exit 4)))
      (.block 5
       (.seq
       (.ops false [
         ⟨some 36, .mov (.t 0), none⟩,
         ⟨some 37, .mov (.t 7), none⟩,
         ⟨some 38, .mov (.t 7), none⟩,
         ⟨some 39, .mov (.t 6), none⟩,
         ⟨some 40, .bin .add (.t 38) (.t 39), none⟩,
         ⟨some 41, .mov (.t 8), none⟩,
         ⟨some 42, .mov (.t 2), none⟩,
         ⟨some 43, .call 92 [.t 36, .t 37, .t 40, .t 41, .t 42], none⟩] (some [0, 1, 2, 6, 8]))
       (.seq
       (.ops false [
         ⟨some 44, .mov (.t 8), none⟩,
         ⟨some 7, .mov (.t 44), none⟩] (some [0, 1, 2, 6, 7, 8]))
       (.ops false [
         ⟨some 45, .mov (.t 8), none⟩,
         ⟨some 46, .mov (.t 6), none⟩,
         ⟨some 47, .bin .mul (.k (.int 2)) (.t 46), none⟩,
         ⟨some 48, .bin .add (.t 45) (.t 47), none⟩,
         ⟨some 8, .mov (.t 48), none⟩] (some [0, 1, 2, 6, 7, 8]))))))))
    (.seq
    (.seq
    (.ops false [
      ⟨some 49, .mov (.t 7), none⟩,
      ⟨some 50, .mov (.t 6), none⟩,
      ⟨some 51, .bin .add (.t 49) (.t 50), none⟩,
      ⟨some 9, .mov (.t 51), none⟩] (some [0, 1, 2, 6, 7, 9]))
    (.seq
    (.ops false [
      ⟨some 52, .mov (.t 9), none⟩,
      ⟨some 53, .mov (.t 1), none⟩,
      ⟨some 54, .bin .lss (.t 52) (.t 53), none⟩] (some [0, 1, 2, 6, 7, 9, 54]))
    (.cond (.t 54)
     (.ops false [
       ⟨some 55, .mov (.t 0), none⟩,
       ⟨some 56, .mov (.t 7), none⟩,
       ⟨some 57, .mov (.t 9), none⟩,
       ⟨some 58, .mov (.t 1), none⟩,
       ⟨some 59, .mov (.t 2), none⟩,
       ⟨some 60, .call 92 [.t 55, .t 56, .t 57, .t 58, .t 59], none⟩] (some [0, 1, 2, 6]))
     .skip)))
    (.ops false [
      ⟨some 61, .mov (.t 6), none⟩,
      ⟨some 62, .bin .mul (.t 61) (.k (.int 2)), none⟩,
      ⟨some 6, .mov (.t 62), none⟩] (some [0, 1, 2, 6])))))))))))))

theorem m90 : fmatch Try.prog Try.f90 3 [] v90 = true := by kernel_rfl

/-- slices.insertionSortCmpFunc[int] -/
def v91 : VC :=
 (.seq
 (.ops false [
   ⟨some 10, .mov (.t 1), none⟩,
   ⟨some 11, .bin .add (.t 10) (.k (.int 1)), none⟩,
   ⟨some 8, .mov (.t 11), none⟩] (some [0, 1, 2, 3, 8]))
 (.block 0
  (.loop
   (.seq
   (.seq
   (.ops false [
     ⟨some 12, .mov (.t 8), none⟩,
     ⟨some 13, .mov (.t 2), none⟩,
     ⟨some 14, .bin .lss (.t 12) (.t 13), none⟩] (some [0, 1, 2, 3, 8, 14]))
   (.cond (.t 14)
    .skip
    (.exit 0)))
   (.seq
   (.block 1
    (.seq
    (.ops false [
      ⟨some 17, .mov (.t 8), none⟩,
      ⟨some 9, .mov (.t 17), none⟩] (some [0, 1, 2, 3, 8, 9]))
    (.block 2
     (.loop
      (.seq
      (.seq
      (.ops true [
        ⟨some 18, .mov (.t 9), none⟩,
        ⟨some 19, .mov (.t 1), none⟩,
        ⟨some 20, .bin .gtr (.t 18) (.t 19), none⟩,
        ⟨some 21, .mov (.t 20), none⟩,
        ⟨some 22, .mov (.t 3), some (21, true)⟩,
        ⟨some 23, .mov (.t 0), some (21, true)⟩,
        ⟨some 24, .mov (.t 9), some (21, true)⟩,
        ⟨some 25, .idx 1 (.t 23) (.t 24), some (21, true)⟩,
        ⟨some 26, .load 1 false (.t 25) [], some (21, true)⟩,
        ⟨some 27, .mov (.t 0), some (21, true)⟩,
        ⟨some 28, .mov (.t 9), some (21, true)⟩,
        ⟨some 29, .bin .sub (.t 28) (.k (.int 1)), some (21, true)⟩,
        ⟨some 30, .idx 1 (.t 27) (.t 29), some (21, true)⟩,
        ⟨some 31, .load 1 false (.t 30) [], some (21, true)⟩,
        ⟨some 32, .callv (.t 22) [.t 26, .t 31], some (21, true)⟩,
        ⟨some 33, .bin .lss (.t 32) (.k (.int 0)), some (21, true)⟩,
        ⟨some 34, .pick (.t 21) (.t 33) (.k (.bool false)), none⟩] (some [0, 1, 2, 3, 8, 9, 34]))
      (.cond (.t 34)
       .skip
       (.exit 2)))
      (.seq
      (.block 3
       (.ops true [
         ⟨some 37, .mov (.t 0), none⟩,
         ⟨some 38, .mov (.t 9), none⟩,
         ⟨some 39, .mov (.t 0), none⟩,
         ⟨some 40, .mov (.t 9), none⟩,
         ⟨some 41, .bin .sub (.t 40) (.k (.int 1)), none⟩,
         ⟨some 42, .mov (.t 0), none⟩,
         ⟨some 43, .mov (.t 9), none⟩,
         ⟨some 44, .bin .sub (.t 43) (.k (.int 1)), none⟩,
         ⟨some 45, .idx 1 (.t 42) (.t 44), none⟩,
         ⟨some 46, .load 1 false (.t 45) [], none⟩,
         ⟨some 47, .mov (.t 0), none⟩,
         ⟨some 48, .mov (.t 9), none⟩,
         ⟨some 49, .idx 1 (.t 47) (.t 48), none⟩,
         ⟨some 50, .load 1 false (.t 49) [], none⟩,
         ⟨some 51, .idx 1 (.t 37) (.t 38), none⟩,
         ⟨none, .store 1 (.t 51) (.t 46) none, none⟩,
         ⟨some 52, .idx 1 (.t 39) (.t 41), none⟩,
         ⟨none, .store 1 (.t 52) (.t 50) none, none⟩] (some [0, 1, 2, 3, 8, 9])))
      (.ops false [
        ⟨some 35, .mov (.t 9), none⟩,
        ⟨some 36, .bin .sub (.t 35) (.k (.int 1)), none⟩,
        ⟨some 9, .mov (.t 36), none⟩] (some [0, 1, 2, 3, 8, 9]))))))))
   (.ops false [
     ⟨some 15, .mov (.t 8), none⟩,
     ⟨some 16, .bin .add (.t 15) (.k (.int 1)), none⟩,
     ⟨some 8, .mov (.t 16), none⟩] (some [0, 1, 2, 3, 8])))))))

theorem m91 : fmatch Try.prog Try.f91 4 [] v91 = true := by kernel_rfl

end Go.Proofs.Ytbghdcleoamkiaa

/- Plain law of the gauges: who is next, and what all have. -/
set_option linter.unusedSimpArgs false
set_option linter.unusedVariables false
set_option linter.unnecessarySimpa false
namespace Go.Proofs.Ytbghdcleoamkiaa

structure Bx where
  sh : List Int
  mo : List Int

abbrev at0 (l : List Int) (i : Nat) : Int := l[i]?.getD default

/-- A valid box. -/
structure BV (b : Bx) : Prop where
  n5 : b.sh.length ≤ 5
  len : b.mo.length = b.sh.length
  s0 : ∀ i, i < b.sh.length → 0 ≤ at0 b.sh i ∧ at0 b.sh i ≤ 20
  m0 : ∀ i, i < b.sh.length → 0 ≤ at0 b.mo i ∧ at0 b.mo i ≤ 20

/-- One quarter looked at. -/
def nxt1 (b : Bx) (h : List Int) (best : Int) (i : Nat) : Int :=
  if at0 b.sh i = 0 ∨ at0 b.mo i ≤ at0 h i then best
  else if best < 0 ∨ at0 b.sh best.toNat * (2 * at0 h i + 1) < at0 b.sh i * (2 * at0 h best.toNat + 1) then i else best

def nxtF (b : Bx) (h : List Int) (k : Nat) : Int := (List.range k).foldl (nxt1 b h) (-1)
def nxt (b : Bx) (h : List Int) : Int := nxtF b h b.sh.length

/-- A gauge more. -/
def inc (h : List Int) (q : Int) : List Int := if q < 0 then h else h.set q.toNat (at0 h q.toNat + 1)

def hasL (b : Bx) : Nat → List Int
  | 0 => List.replicate b.sh.length 0
  | k + 1 => inc (hasL b k) (nxt b (hasL b k))

theorem at0_lt {l : List Int} {i : Nat} (h : i < l.length) : at0 l i = l[i] := by simp [at0, h]
theorem at0_set {l : List Int} {i j : Nat} {x : Int} (h : i < l.length) : at0 (l.set i x) j = if i = j then x else at0 l j := by
  unfold at0
  rw [List.getElem?_set]
  by_cases e : i = j
  · rw [if_pos e, if_pos e, if_pos (e ▸ h)]; rfl
  · rw [if_neg e, if_neg e]

theorem nxtF_succ (b : Bx) (h : List Int) (k : Nat) : nxtF b h (k + 1) = nxt1 b h (nxtF b h k) k := by
  unfold nxtF
  rw [List.range_succ, List.foldl_append]
  rfl

/-- A quarter that can take one more. -/
def opn (b : Bx) (h : List Int) (i : Nat) : Prop := at0 b.sh i ≠ 0 ∧ at0 h i < at0 b.mo i

/-- Gauge k of quarter i comes before gauge m of quarter j. -/
def prc (b : Bx) (i : Nat) (k : Int) (j : Nat) (m : Int) : Prop :=
  at0 b.sh j * (2 * k + 1) < at0 b.sh i * (2 * m + 1) ∨ (at0 b.sh j * (2 * k + 1) = at0 b.sh i * (2 * m + 1) ∧ i < j)

theorem frac_lt {A a B c C d : Int} (hc : 0 < c) (ha : 0 < a) (hd : 0 < d) (h1 : B * a < A * c) (h2 : C * c ≤ B * d) : C * a < A * d := by
  have e1 : B * a * d < A * c * d := Int.mul_lt_mul_of_pos_right h1 hd
  have e2 : C * c * a ≤ B * d * a := Int.mul_le_mul_of_nonneg_right h2 (Int.le_of_lt ha)
  have e3 : B * d * a = B * a * d := by rw [Int.mul_assoc, Int.mul_comm d a, ← Int.mul_assoc]
  have e4 : (C * a) * c < (A * d) * c := by
    have x1 : C * a * c = C * c * a := by rw [Int.mul_assoc, Int.mul_comm a c, ← Int.mul_assoc]
    have x2 : A * d * c = A * c * d := by rw [Int.mul_assoc, Int.mul_comm d c, ← Int.mul_assoc]
    rw [x1, x2]
    omega
  exact Int.lt_of_mul_lt_mul_right e4 (Int.le_of_lt hc)

theorem frac_le {A a B c C d : Int} (hc : 0 < c) (ha : 0 < a) (hd : 0 < d) (h1 : B * a ≤ A * c) (h2 : C * c ≤ B * d) : C * a ≤ A * d := by
  have e1 : B * a * d ≤ A * c * d := Int.mul_le_mul_of_nonneg_right h1 (Int.le_of_lt hd)
  have e2 : C * c * a ≤ B * d * a := Int.mul_le_mul_of_nonneg_right h2 (Int.le_of_lt ha)
  have e3 : B * d * a = B * a * d := by rw [Int.mul_assoc, Int.mul_comm d a, ← Int.mul_assoc]
  have e4 : (C * a) * c ≤ (A * d) * c := by
    have x1 : C * a * c = C * c * a := by rw [Int.mul_assoc, Int.mul_comm a c, ← Int.mul_assoc]
    have x2 : A * d * c = A * c * d := by rw [Int.mul_assoc, Int.mul_comm d c, ← Int.mul_assoc]
    rw [x1, x2]
    omega
  exact Int.le_of_mul_le_mul_right e4 hc

theorem frac_lt' {A a B c C d : Int} (hc : 0 < c) (ha : 0 < a) (hd : 0 < d) (h1 : B * a ≤ A * c) (h2 : C * c < B * d) : C * a < A * d := by
  have e1 : B * a * d ≤ A * c * d := Int.mul_le_mul_of_nonneg_right h1 (Int.le_of_lt hd)
  have e2 : C * c * a < B * d * a := Int.mul_lt_mul_of_pos_right h2 ha
  have e3 : B * d * a = B * a * d := by rw [Int.mul_assoc, Int.mul_comm d a, ← Int.mul_assoc]
  have e4 : (C * a) * c < (A * d) * c := by
    have x1 : C * a * c = C * c * a := by rw [Int.mul_assoc, Int.mul_comm a c, ← Int.mul_assoc]
    have x2 : A * d * c = A * c * d := by rw [Int.mul_assoc, Int.mul_comm d c, ← Int.mul_assoc]
    rw [x1, x2]
    omega
  exact Int.lt_of_mul_lt_mul_right e4 (Int.le_of_lt hc)

/-- To come before is transitive. -/
theorem prc_trans {b : Bx} {i j l : Nat} {k m n : Int} (hk : 0 ≤ k) (hm : 0 ≤ m) (hn : 0 ≤ n) (h1 : prc b i k j m) (h2 : prc b j m l n) : prc b i k l n := by
  unfold prc at *
  rcases h1 with h1 | ⟨h1, e1⟩
  · exact .inl (frac_lt (c := 2 * m + 1) (by omega) (by omega) (by omega) h1 (by omega))
  · rcases h2 with h2 | ⟨h2, e2⟩
    · exact .inl (frac_lt' (c := 2 * m + 1) (by omega) (by omega) (by omega) (Int.le_of_eq h1) h2)
    · refine .inr ⟨?_, by omega⟩
      have a1 := frac_le (c := 2 * m + 1) (by omega) (by omega) (by omega) (Int.le_of_eq h1) (Int.le_of_eq h2)
      have a2 := frac_le (A := at0 b.sh l) (a := 2 * n + 1) (B := at0 b.sh j) (c := 2 * m + 1) (C := at0 b.sh i) (d := 2 * k + 1) (by omega) (by omega) (by omega) (Int.le_of_eq h2.symm) (Int.le_of_eq h1.symm)
      omega

theorem prc_irrefl {b : Bx} {i : Nat} {k : Int} : ¬ prc b i k i k := by
  unfold prc
  omega

/-- Within a quarter. -/
theorem prc_self {b : Bx} {i : Nat} {k m : Int} (hs : 0 < at0 b.sh i) (h : k < m) : prc b i k i m := by
  unfold prc
  left
  exact Int.mul_lt_mul_of_pos_left (by omega) hs

/-- Who is next. -/
theorem nxtF_spec {b : Bx} (hv : BV b) {h : List Int} (h0 : ∀ i, i < b.sh.length → 0 ≤ at0 h i) : ∀ k, k ≤ b.sh.length →
    (nxtF b h k = -1 ∧ ∀ i, i < k → ¬ opn b h i) ∨ (∃ r : Nat, nxtF b h k = r ∧ r < k ∧ opn b h r ∧ ∀ i, i < k → opn b h i → i ≠ r → prc b r (at0 h r) i (at0 h i))
  | 0, _ => .inl ⟨rfl, fun i hi => by omega⟩
  | k + 1, hk => by
    have ih := nxtF_spec hv h0 k (by omega)
    rw [nxtF_succ]
    unfold nxt1
    by_cases hc : at0 b.sh k = 0 ∨ at0 b.mo k ≤ at0 h k
    · rw [if_pos hc]
      have hcl : ¬ opn b h k := by unfold opn; omega
      rcases ih with ⟨e, ih⟩ | ⟨r, e, hr, ho, ih⟩
      · refine .inl ⟨e, fun i hi => ?_⟩
        rcases Nat.lt_or_ge i k with h1 | h1
        · exact ih i h1
        · obtain rfl : i = k := by omega
          exact hcl
      · refine .inr ⟨r, e, by omega, ho, fun i hi hoi hne => ?_⟩
        rcases Nat.lt_or_ge i k with h1 | h1
        · exact ih i h1 hoi hne
        · obtain rfl : i = k := by omega
          exact absurd hoi hcl
    · rw [if_neg hc]
      have hok : opn b h k := by unfold opn; omega
      rcases ih with ⟨e, ih⟩ | ⟨r, e, hr, ho, ih⟩
      · rw [if_pos (.inl (by omega))]
        refine .inr ⟨k, rfl, by omega, hok, fun i hi hoi hne => ?_⟩
        exact absurd hoi (ih i (by omega))
      · rw [e, Int.toNat_natCast]
        by_cases hlt : (r : Int) < 0 ∨ at0 b.sh r * (2 * at0 h k + 1) < at0 b.sh k * (2 * at0 h r + 1)
        · rw [if_pos hlt]
          have hlt2 : at0 b.sh r * (2 * at0 h k + 1) < at0 b.sh k * (2 * at0 h r + 1) := by omega
          have hkr : prc b k (at0 h k) r (at0 h r) := .inl hlt2
          refine .inr ⟨k, rfl, by omega, hok, fun i hi hoi hne => ?_⟩
          have hik : i < k := by omega
          by_cases hir : i = r
          · subst hir; exact hkr
          · exact prc_trans (h0 k (by omega)) (h0 r (by omega)) (h0 i (by omega)) hkr (ih i hik hoi hir)
        · rw [if_neg hlt]
          refine .inr ⟨r, rfl, by omega, ho, fun i hi hoi hne => ?_⟩
          rcases Nat.lt_or_ge i k with h1 | h1
          · exact ih i h1 hoi hne
          · obtain rfl : i = k := by omega
            unfold prc
            omega

/-- What is so of the gauges: none below 0, none above the most, those without a share have none; what is taken comes before what is not. -/
structure Gd (b : Bx) (h : List Int) : Prop where
  len : h.length = b.sh.length
  lo : ∀ i, i < b.sh.length → 0 ≤ at0 h i ∧ at0 h i ≤ at0 b.mo i
  no : ∀ i, i < b.sh.length → at0 b.sh i = 0 → at0 h i = 0
  bef : ∀ q o, q < b.sh.length → o < b.sh.length → 0 < at0 h q → opn b h o → prc b q (at0 h q - 1) o (at0 h o)

theorem nxt_spec {b : Bx} (hv : BV b) {h : List Int} (hg : Gd b h) :
    (nxt b h = -1 ∧ ∀ i, i < b.sh.length → ¬ opn b h i) ∨ (∃ r : Nat, nxt b h = r ∧ r < b.sh.length ∧ opn b h r ∧ ∀ i, i < b.sh.length → opn b h i → i ≠ r → prc b r (at0 h r) i (at0 h i)) :=
  nxtF_spec hv (fun i hi => (hg.lo i hi).1) _ (Nat.le_refl _)

theorem inc_at {b : Bx} {h : List Int} (hl : h.length = b.sh.length) {r : Nat} (hr : r < b.sh.length) (i : Nat) : at0 (inc h r) i = if r = i then at0 h r + 1 else at0 h i := by
  unfold inc
  rw [if_neg (by omega), Int.toNat_natCast, at0_set (by omega)]

theorem inc_neg (h : List Int) : inc h (-1) = h := by simp [inc]

theorem inc_len (h : List Int) (q : Int) : (inc h q).length = h.length := by
  unfold inc
  split <;> simp

theorem gd_step {b : Bx} (hv : BV b) {h : List Int} (hg : Gd b h) : Gd b (inc h (nxt b h)) := by
  rcases nxt_spec hv hg with ⟨e, _⟩ | ⟨r, e, hr, ho, hb⟩
  · rw [e, inc_neg]; exact hg
  · rw [e]
    have ha := fun i => inc_at hg.len hr (i := i)
    have hsr := hv.s0 r hr
    obtain ⟨ho1, ho2⟩ := ho
    refine ⟨by rw [inc_len]; exact hg.len, fun i hi => ?_, fun i hi hs => ?_, fun q o hq hoL hp hop => ?_⟩
    · rw [ha]
      have := hg.lo i hi
      split
      · rename_i e; subst e; omega
      · exact this
    · rw [ha]
      have := hg.no i hi hs
      split
      · rename_i e; subst e; omega
      · exact this
    · rw [ha] at hp ⊢
      have hq0 := hg.lo q hq
      have ho0 := hg.lo o hoL
      obtain ⟨p1, p2⟩ := hop
      rw [ha] at p2
      have hso := hv.s0 o hoL
      by_cases hqr : r = q
      · subst hqr
        rw [if_pos rfl, show at0 h r + 1 - 1 = at0 h r by omega, ha]
        by_cases hor : r = o
        · subst hor
          rw [if_pos rfl]
          exact prc_self (by omega) (by omega)
        · rw [if_neg hor] at p2 ⊢
          exact hb o hoL ⟨p1, p2⟩ (by omega)
      · rw [if_neg hqr] at hp ⊢
        rw [ha]
        by_cases hor : r = o
        · subst hor
          rw [if_pos rfl]
          have h1 := hg.bef q r hq hr hp ⟨ho1, ho2⟩
          exact prc_trans (by omega) (by omega) (by omega) h1 (prc_self (by omega) (by omega))
        · rw [if_neg hor] at p2 ⊢
          exact hg.bef q o hq hoL hp ⟨p1, p2⟩

theorem at0_rep (n i : Nat) : at0 (List.replicate n (0 : Int)) i = 0 := by
  unfold at0
  rw [List.getElem?_replicate]
  split <;> rfl

theorem gd_has {b : Bx} (hv : BV b) : ∀ k, Gd b (hasL b k)
  | 0 => by
    refine ⟨by simp [hasL], fun i hi => ?_, fun i hi _ => ?_, fun q o hq ho hp => ?_⟩
    · simp only [hasL, at0_rep]
      have := hv.m0 i hi
      omega
    · simp only [hasL, at0_rep]
    · simp only [hasL, at0_rep] at hp
      omega
  | k + 1 => gd_step hv (gd_has hv k)

/-! ### sums -/
def sumI (l : List Int) : Int := l.foldl (· + ·) 0

theorem foldl_add (l : List Int) (a : Int) : l.foldl (· + ·) a = a + sumI l := by
  unfold sumI
  induction l generalizing a with
  | nil => simp
  | cons x r ih =>
    simp only [List.foldl_cons]
    rw [ih (a + x), ih (0 + x)]
    omega

theorem sumI_nil : sumI [] = 0 := rfl
theorem sumI_cons (x : Int) (l : List Int) : sumI (x :: l) = x + sumI l := by
  show (x :: l).foldl (· + ·) 0 = _
  rw [List.foldl_cons, foldl_add]
  omega
theorem sumI_app (l k : List Int) : sumI (l ++ k) = sumI l + sumI k := by
  induction l with
  | nil => simp [sumI_nil]
  | cons x r ih => rw [List.cons_append, sumI_cons, sumI_cons, ih]; omega

theorem sumI_set (l : List Int) (i : Nat) (x : Int) (h : i < l.length) : sumI (l.set i x) = sumI l - at0 l i + x := by
  induction l generalizing i with
  | nil => simp at h
  | cons y r ih =>
    cases i with
    | zero => simp only [List.set_cons_zero, sumI_cons]; simp [at0]; omega
    | succ i =>
      simp only [List.set_cons_succ, sumI_cons]
      rw [ih i (by simpa using h)]
      have : at0 (y :: r) (i + 1) = at0 r i := by simp [at0]
      rw [this]
      omega

theorem sumI_rep (n : Nat) : sumI (List.replicate n (0 : Int)) = 0 := by
  induction n with
  | zero => rfl
  | succ n ih => rw [List.replicate_succ, sumI_cons, ih]; rfl

theorem sumI_le {l k : List Int} (hl : l.length = k.length) (h : ∀ i, i < l.length → at0 l i ≤ at0 k i) : sumI l ≤ sumI k := by
  induction l generalizing k with
  | nil =>
    have : k = [] := List.eq_nil_of_length_eq_zero (by simpa using hl.symm)
    subst this
    exact Int.le_refl _
  | cons x r ih =>
    match k, hl with
    | y :: k, hl =>
      rw [sumI_cons, sumI_cons]
      have h0 := h 0 (by simp)
      have := ih (k := k) (by simpa using hl) fun i hi => by
        have := h (i + 1) (by simpa using hi)
        simpa [at0] using this
      have : x ≤ y := by simpa [at0] using h0
      omega

/-- If one is less, and none is greater, the sum is less. -/
theorem sumI_lt {l k : List Int} (hl : l.length = k.length) (h : ∀ i, i < l.length → at0 l i ≤ at0 k i) {j : Nat} (hj : j < l.length) (hlt : at0 l j < at0 k j) : sumI l < sumI k := by
  have h1 : sumI (l.set j (at0 l j + 1)) ≤ sumI k := by
    refine sumI_le (by simp [hl]) fun i hi => ?_
    simp only [List.length_set] at hi
    rw [at0_set hj]
    split
    · rename_i e; subst e; omega
    · exact h i hi
  rw [sumI_set _ _ _ hj] at h1
  omega

theorem sum_step {b : Bx} (hv : BV b) {h : List Int} (hg : Gd b h) : sumI (inc h (nxt b h)) = if nxt b h < 0 then sumI h else sumI h + 1 := by
  rcases nxt_spec hv hg with ⟨e, _⟩ | ⟨r, e, hr, ho, hb⟩
  · rw [e, inc_neg, if_pos (by omega)]
  · rw [e, if_neg (by omega)]
    unfold inc
    rw [if_neg (by omega), Int.toNat_natCast, sumI_set _ _ _ (by rw [hg.len]; exact hr)]
    omega

theorem sum_has {b : Bx} (hv : BV b) : ∀ k, 0 ≤ sumI (hasL b k) ∧ sumI (hasL b k) ≤ k
  | 0 => by simp [hasL, sumI_rep]
  | k + 1 => by
    have ih := sum_has hv k
    have := sum_step hv (gd_has hv k)
    show 0 ≤ sumI (inc _ _) ∧ sumI (inc _ _) ≤ _
    rw [this]
    split <;> omega

/-- All gauges that there are, or as many as the flow. -/
theorem sum_full {b : Bx} (hv : BV b) : ∀ k, sumI (hasL b k) = k ∨ (sumI (hasL b k) < k ∧ ∀ i, i < b.sh.length → ¬ opn b (hasL b k) i)
  | 0 => .inl (by simp [hasL, sumI_rep])
  | k + 1 => by
    have ih := sum_full hv k
    have hg := gd_has hv k
    have hs := sum_step hv hg
    have hle := (sum_has hv k).2
    rcases nxt_spec hv hg with ⟨e, hc⟩ | ⟨r, e, hr, ho, hb⟩
    · right
      have e2 : hasL b (k + 1) = hasL b k := by
        show inc _ _ = _
        rw [e, inc_neg]
      rw [e2]
      exact ⟨by omega, hc⟩
    · rcases ih with ih | ⟨_, ih⟩
      · left
        show sumI (inc _ _) = _
        rw [hs, e, if_neg (by omega)]
        omega
      · exact absurd ho (ih r hr)

theorem has_mono {b : Bx} (hv : BV b) {k m : Nat} (h : k ≤ m) (i : Nat) (hi : i < b.sh.length) : at0 (hasL b k) i ≤ at0 (hasL b m) i := by
  obtain ⟨d, rfl⟩ : ∃ d, m = k + d := ⟨m - k, by omega⟩
  clear h
  induction d with
  | zero => exact Int.le_refl _
  | succ d ih =>
    have hg := gd_has hv (k + d)
    have : at0 (hasL b (k + d)) i ≤ at0 (hasL b (k + d + 1)) i := by
      show _ ≤ at0 (inc _ _) i
      rcases nxt_spec hv hg with ⟨e, hc⟩ | ⟨r, e, hr, ho, hb⟩
      · rw [e, inc_neg]; exact Int.le_refl _
      · rw [e, inc_at hg.len hr]
        split
        · rename_i e2; subst e2; omega
        · exact Int.le_refl _
    exact Int.le_trans ih this

end Go.Proofs.Ytbghdcleoamkiaa

/- Plain law of the gauges: greater shares and mosts, some quarters, quarters that are alike. -/
set_option linter.unusedSimpArgs false
set_option linter.unusedVariables false
set_option linter.unnecessarySimpa false
namespace Go.Proofs.Ytbghdcleoamkiaa

theorem worth {b : Bx} {h : List Int} (hg : Gd b h) {q o : Nat} (hq : q < b.sh.length) (ho : o < b.sh.length) (h1 : 0 < at0 h q) (h2 : at0 h o < at0 b.mo o) (hs : 0 ≤ at0 b.sh q) :
    at0 b.sh o * (2 * at0 h q - 1) ≤ at0 b.sh q * (2 * at0 h o + 1) := by
  have h3 := (hg.lo o ho).1
  by_cases h0 : at0 b.sh o = 0
  · rw [h0, Int.zero_mul]
    exact Int.mul_nonneg hs (by omega)
  · have := hg.bef q o hq ho h1 ⟨h0, h2⟩
    unfold prc at this
    rw [show 2 * (at0 h q - 1) + 1 = 2 * at0 h q - 1 by omega] at this
    omega

theorem alike {b : Bx} {h : List Int} (hg : Gd b h) {i j : Nat} (hij : i < j) (hj : j < b.sh.length) (hs : at0 b.sh i = at0 b.sh j) (hm : at0 b.mo i = at0 b.mo j) (hs0 : 0 ≤ at0 b.sh i) : 0 ≤ at0 h i - at0 h j ∧ at0 h i - at0 h j ≤ 1 := by
  have hi : i < b.sh.length := by omega
  have hi0 := hg.lo i hi
  have hj0 := hg.lo j hj
  by_cases h0 : at0 b.sh i = 0
  · have := hg.no i hi h0
    have := hg.no j hj (by omega)
    omega
  · constructor
    · apply Classical.byContradiction
      intro hlt
      have h1 := hg.bef j i hj hi (by omega) ⟨h0, by omega⟩
      unfold prc at h1
      rw [← hs] at h1
      rcases h1 with h1 | ⟨_, h1⟩
      · have := Int.lt_of_mul_lt_mul_left h1 (by omega)
        omega
      · omega
    · apply Classical.byContradiction
      intro hlt
      have h1 := hg.bef i j hi hj (by omega) ⟨by omega, by omega⟩
      unfold prc at h1
      rw [← hs] at h1
      rcases h1 with h1 | ⟨h1, _⟩
      · have := Int.lt_of_mul_lt_mul_left h1 (by omega)
        omega
      · have := Int.eq_of_mul_eq_mul_left h0 h1
        omega

theorem prc_congr {b b' : Bx} {i j : Nat} {k m : Int} (hi : at0 b'.sh i = at0 b.sh i) (hj : at0 b'.sh j = at0 b.sh j) : prc b' i k j m ↔ prc b i k j m := by
  unfold prc
  rw [hi, hj]

/-- Two ways of taking that go against one another are not both right. -/
theorem no_swap {b : Bx} {i j : Nat} {hi gi hj gj : Int} (si : 0 < at0 b.sh i) (sj : 0 < at0 b.sh j) (h0 : 0 ≤ hi) (g0 : 0 ≤ gj) (hlt : hi < gi) (glt : gj < hj) (h1 : prc b j (hj - 1) i hi) (h2 : prc b i (gi - 1) j gj) : False := by
  have a1 : prc b i hi j gj := by
    rcases Int.lt_or_le hi (gi - 1) with h | h
    · exact prc_trans (by omega) (by omega) (by omega) (prc_self si h) h2
    · have : hi = gi - 1 := by omega
      rw [this]; exact h2
  have a2 : prc b j gj i hi := by
    rcases Int.lt_or_le gj (hj - 1) with h | h
    · exact prc_trans (by omega) (by omega) (by omega) (prc_self sj h) h1
    · have : gj = hj - 1 := by omega
      rw [this]; exact h1
  exact prc_irrefl (prc_trans h0 g0 h0 a1 a2)

/-- Where sums are not less, and one is less, another is greater. -/
theorem ex_gt {l k : List Int} (hl : l.length = k.length) (hs : sumI l ≤ sumI k) {q : Nat} (hq : q < l.length) (h : at0 k q < at0 l q) : ∃ j, j < l.length ∧ at0 l j < at0 k j := by
  apply Classical.byContradiction
  intro hno
  have : sumI k < sumI l := sumI_lt hl.symm (fun i hi => by
    apply Classical.byContradiction
    intro h2
    exact hno ⟨i, by omega, by omega⟩) (j := q) (by omega) h
  omega

/-- One quarter's share and most may be greater. -/
structure Mre (b b' : Bx) (q : Nat) : Prop where
  lt : q < b.sh.length
  len : b'.sh.length = b.sh.length
  sq : at0 b.sh q ≤ at0 b'.sh q
  mq : at0 b.mo q ≤ at0 b'.mo q
  so : ∀ i, i ≠ q → at0 b'.sh i = at0 b.sh i
  mo : ∀ i, i ≠ q → at0 b'.mo i = at0 b.mo i

theorem more_own {b b' : Bx} {q : Nat} (hv : BV b) (hv' : BV b') (hm : Mre b b' q) (k : Nat) : at0 (hasL b k) q ≤ at0 (hasL b' k) q := by
  apply Classical.byContradiction
  intro hlt
  have hg := gd_has hv k
  have hg' := gd_has hv' k
  have hq := hm.lt
  have hq' : q < b'.sh.length := by rw [hm.len]; exact hq
  have hll : (hasL b k).length = (hasL b' k).length := by rw [hg.len, hg'.len, hm.len]
  have x1 := hg.lo q hq
  have x2 := hg'.lo q hq'
  have x3 := hm.mq
  have x4 := hm.sq
  have sq : at0 b.sh q ≠ 0 := fun e => by have := hg.no q hq e; omega
  have sq0 := hv.s0 q hq
  have hsum : sumI (hasL b k) ≤ sumI (hasL b' k) := by
    have h1 := (sum_has hv k).2
    rcases sum_full hv' k with h2 | ⟨_, h2⟩
    · omega
    · exact absurd ⟨by omega, by omega⟩ (h2 q hq')
  obtain ⟨j, hj, hjlt⟩ := ex_gt hll hsum (q := q) (by rw [hg.len]; exact hq) (by omega)
  rw [hg.len] at hj
  have hj' : j < b'.sh.length := by rw [hm.len]; exact hj
  have hne : j ≠ q := fun e => by subst e; omega
  have y1 := hg.lo j hj
  have y2 := hg'.lo j hj'
  have y3 := hm.mo j hne
  have y4 := hm.so j hne
  have sj : at0 b.sh j ≠ 0 := fun e => by have := hg'.no j hj' (by omega); omega
  have c1 := hg.bef q j hq hj (by omega) ⟨sj, by omega⟩
  have c2 := hg'.bef j q hj' hq' (by omega) ⟨by omega, by omega⟩
  have sj0 := hv.s0 j hj
  unfold prc at c1 c2
  rw [y4] at c2
  -- s_q (2 h_j + 1) ≤ s'_q (2 (h'_j - 1) + 1), s_j (2 h'_q + 1) ≤ s_j (2 (h_q - 1) + 1)
  have d1 : at0 b.sh q * (2 * at0 (hasL b k) j + 1) ≤ at0 b'.sh q * (2 * (at0 (hasL b' k) j - 1) + 1) := by
    refine Int.le_trans (Int.mul_le_mul_of_nonneg_right x4 (by omega)) (Int.mul_le_mul_of_nonneg_left (by omega) (by omega))
  have d2 : at0 b.sh j * (2 * at0 (hasL b' k) q + 1) ≤ at0 b.sh j * (2 * (at0 (hasL b k) q - 1) + 1) := Int.mul_le_mul_of_nonneg_left (by omega) (by omega)
  omega

theorem more_other {b b' : Bx} {q : Nat} (hv : BV b) (hv' : BV b') (hm : Mre b b' q) (k : Nat) {i : Nat} (hi : i < b.sh.length) (hne : i ≠ q) : at0 (hasL b' k) i ≤ at0 (hasL b k) i := by
  apply Classical.byContradiction
  intro hlt
  have hg := gd_has hv k
  have hg' := gd_has hv' k
  have hi' : i < b'.sh.length := by rw [hm.len]; exact hi
  have hll : (hasL b k).length = (hasL b' k).length := by rw [hg.len, hg'.len, hm.len]
  have x1 := hg.lo i hi
  have x2 := hg'.lo i hi'
  have x3 := hm.mo i hne
  have x4 := hm.so i hne
  have si : at0 b.sh i ≠ 0 := fun e => by have := hg'.no i hi' (by omega); omega
  have si0 := hv.s0 i hi
  have hsum : sumI (hasL b' k) ≤ sumI (hasL b k) := by
    have h1 := (sum_has hv' k).2
    rcases sum_full hv k with h2 | ⟨_, h2⟩
    · omega
    · exact absurd ⟨si, by omega⟩ (h2 i hi)
  obtain ⟨j, hj, hjlt⟩ := ex_gt hll.symm hsum (q := i) (by rw [hg'.len]; exact hi') (by omega)
  rw [hg'.len] at hj
  have hj0 : j < b.sh.length := by rw [← hm.len]; exact hj
  have hjq : j ≠ q := fun e => by
    subst e
    have := more_own hv hv' hm k
    omega
  have y1 := hg.lo j hj0
  have y2 := hg'.lo j hj
  have y3 := hm.mo j hjq
  have y4 := hm.so j hjq
  have sj : at0 b.sh j ≠ 0 := fun e => by have := hg.no j hj0 e; omega
  have sj0 := hv.s0 j hj0
  have c1 := hg.bef j i hj0 hi (by omega) ⟨si, by omega⟩
  have c2 := hg'.bef i j hi' hj (by omega) ⟨by omega, by omega⟩
  rw [prc_congr x4 y4] at c2
  exact no_swap (by omega) (by omega) x1.1 y2.1 (by omega) hjlt c1 c2

/-! ### who is next hangs on this alone -/
theorem nxtF_congr {b b' : Bx} {h : List Int} (n : Nat) (h1 : ∀ i, i < n → (at0 b'.sh i = 0 ∨ at0 b'.mo i ≤ at0 h i ↔ at0 b.sh i = 0 ∨ at0 b.mo i ≤ at0 h i))
    (h2 : ∀ i j, i < n → j < n → (at0 b'.sh j * (2 * at0 h i + 1) < at0 b'.sh i * (2 * at0 h j + 1) ↔ at0 b.sh j * (2 * at0 h i + 1) < at0 b.sh i * (2 * at0 h j + 1))) : ∀ k, k ≤ n → nxtF b' h k = nxtF b h k ∧ nxtF b h k < k
  | 0, _ => ⟨rfl, by show (-1 : Int) < 0; decide⟩
  | k + 1, hk => by
    obtain ⟨e, hlt⟩ := nxtF_congr n h1 h2 k (by omega)
    rw [nxtF_succ, nxtF_succ, e]
    unfold nxt1
    by_cases c1 : at0 b.sh k = 0 ∨ at0 b.mo k ≤ at0 h k
    · rw [if_pos c1, if_pos ((h1 k (by omega)).2 c1)]
      exact ⟨rfl, by omega⟩
    · rw [if_neg c1, if_neg (fun c => c1 ((h1 k (by omega)).1 c))]
      by_cases c2 : nxtF b h k < 0
      · rw [if_pos (.inl c2), if_pos (.inl c2)]
        exact ⟨rfl, by omega⟩
      · have := h2 k (nxtF b h k).toNat (by omega) (by omega)
        by_cases c3 : at0 b.sh (nxtF b h k).toNat * (2 * at0 h k + 1) < at0 b.sh k * (2 * at0 h (nxtF b h k).toNat + 1)
        · rw [if_pos (.inr (this.2 c3)), if_pos (.inr c3)]
          exact ⟨rfl, by omega⟩
        · have c4 := fun c => c3 (this.1 c)
          rw [if_neg (by omega), if_neg (by omega)]
          exact ⟨rfl, by omega⟩

/-- All shares twice as great. -/
theorem has_twice {b b' : Bx} (hl : b'.sh.length = b.sh.length) (hm : ∀ i, at0 b'.mo i = at0 b.mo i) (hs : ∀ i, at0 b'.sh i = 2 * at0 b.sh i) : ∀ k, hasL b' k = hasL b k
  | 0 => by simp only [hasL, hl]
  | k + 1 => by
    have ih := has_twice hl hm hs k
    show inc _ _ = inc _ _
    rw [ih]
    congr 1
    unfold nxt
    rw [hl]
    refine (nxtF_congr b.sh.length (fun i _ => ?_) (fun i j _ _ => ?_) _ (Nat.le_refl _)).1
    · rw [hm, hs]; omega
    · rw [hs, hs, Int.mul_assoc, Int.mul_assoc]; omega

/-- Where nobody is full greater mosts change nothing. -/
theorem has_wide {b b' : Bx} (hv : BV b) (hl : b'.sh.length = b.sh.length) (hs : ∀ i, at0 b'.sh i = at0 b.sh i) (hm : ∀ i, i < b.sh.length → at0 b.mo i ≤ at0 b'.mo i) : ∀ k, (∀ i, i < b.sh.length → at0 (hasL b k) i ≠ at0 b.mo i) → hasL b' k = hasL b k
  | 0, _ => by simp only [hasL, hl]
  | k + 1, hf => by
    have hg := gd_has hv (k + 1)
    have hf' : ∀ i, i < b.sh.length → at0 (hasL b k) i < at0 b.mo i := fun i hi => by
      have a1 := has_mono hv (show k ≤ k + 1 by omega) i hi
      have a2 := hf i hi
      have a3 := hg.lo i hi
      omega
    have ih := has_wide hv hl hs hm k fun i hi => by have := hf' i hi; omega
    show inc _ _ = inc _ _
    rw [ih]
    congr 1
    unfold nxt
    rw [hl]
    refine (nxtF_congr b.sh.length (fun i hi => ?_) (fun i j _ _ => ?_) _ (Nat.le_refl _)).1
    · have h1 := hf' i hi
      have h2 := hm i hi
      rw [hs]
      omega
    · rw [hs, hs]

/-! ### some quarters -/
end Go.Proofs.Ytbghdcleoamkiaa

/- Plain law of the remainders: the quarters in the order of what is left of their parts. -/
set_option linter.unusedSimpArgs false
set_option linter.unusedVariables false
set_option linter.unnecessarySimpa false
namespace Go.Proofs.Ytbghdcleoamkiaa

/-- i comes before j by what is left; the first one where it is the same. -/
def bfr (r : Nat → Int) (i j : Nat) : Prop := r j < r i ∨ (r j = r i ∧ i < j)
instance (r : Nat → Int) (i j : Nat) : Decidable (bfr r i j) := by unfold bfr; exact inferInstance

theorem bfr_trans {r : Nat → Int} {i j k : Nat} (h1 : bfr r i j) (h2 : bfr r j k) : bfr r i k := by unfold bfr at *; omega
theorem bfr_irrefl {r : Nat → Int} {i : Nat} : ¬ bfr r i i := by unfold bfr; omega
def swp (d : List Nat) (j : Nat) : List Nat := (d.set j (d[j - 1]?.getD 0)).set (j - 1) (d[j]?.getD 0)

/-- An element goes down to its place. -/
def bub (r : Nat → Int) : Nat → List Nat → List Nat
  | 0, d => d
  | j + 1, d => if r (d[j]?.getD 0) < r (d[j + 1]?.getD 0) then bub r j (swp d (j + 1)) else d

def srt (r : Nat → Int) (d : List Nat) (k : Nat) : List Nat := (List.range k).foldl (fun d i => bub r (i + 1) d) d

theorem swp_len (d : List Nat) (j : Nat) : (swp d j).length = d.length := by simp [swp]
theorem bub_len (r : Nat → Int) : ∀ j d, (bub r j d).length = d.length
  | 0, d => rfl
  | j + 1, d => by
    unfold bub
    split
    · rw [bub_len r j, swp_len]
    · rfl
theorem srt_succ (r : Nat → Int) (d : List Nat) (k : Nat) : srt r d (k + 1) = bub r (k + 1) (srt r d k) := by
  unfold srt
  rw [List.range_succ, List.foldl_append]
  rfl
theorem srt_len (r : Nat → Int) (d : List Nat) : ∀ k, (srt r d k).length = d.length
  | 0 => rfl
  | k + 1 => by rw [srt_succ, bub_len, srt_len r d k]

theorem swp_perm (d : List Nat) (j : Nat) (hj : j + 1 < d.length) : (swp d (j + 1)).Perm d := by
  unfold swp
  simp only [Nat.add_sub_cancel]
  induction j generalizing d with
  | zero =>
    match d, hj with
    | a :: b :: l, _ => exact List.Perm.swap a b l
  | succ j ih =>
    match d, hj with
    | a :: l, hj =>
      have := ih l (by simpa using hj)
      simp only [List.getElem?_cons_succ, List.set_cons_succ]
      exact this.cons a

theorem bub_perm (r : Nat → Int) : ∀ j d, j < d.length → (bub r j d).Perm d
  | 0, d, _ => List.Perm.refl _
  | j + 1, d, hj => by
    unfold bub
    split
    · exact (bub_perm r j _ (by rw [swp_len]; omega)).trans (swp_perm d j hj)
    · exact List.Perm.refl _

theorem srt_perm (r : Nat → Int) (d : List Nat) : ∀ k, k < d.length ∨ k = 0 → (srt r d k).Perm d
  | 0, _ => List.Perm.refl _
  | k + 1, hk => by
    rw [srt_succ]
    exact (bub_perm r (k + 1) _ (by rw [srt_len]; omega)).trans (srt_perm r d k (by omega))

abbrev nth (d : List Nat) (i : Nat) : Nat := d[i]?.getD 0

theorem swp_nth (d : List Nat) (j i : Nat) (hj : j + 1 < d.length) : nth (swp d (j + 1)) i = if i = j then nth d (j + 1) else if i = j + 1 then nth d j else nth d i := by
  unfold swp nth
  simp only [Nat.add_sub_cancel]
  rw [List.getElem?_set, List.getElem?_set]
  by_cases h1 : i = j
  · subst h1
    rw [if_pos rfl, if_pos rfl, if_pos (by simp; omega)]
    rfl
  · rw [if_neg h1, if_neg (by omega)]
    by_cases h2 : i = j + 1
    · subst h2
      rw [if_pos rfl, if_pos rfl, if_pos hj]
      rfl
    · rw [if_neg h2, if_neg (by omega)]

/-- Down it goes: the first ones are in order, and behind it too. -/
theorem bub_sorted (r : Nat → Int) : ∀ (j m : Nat) (d : List Nat), j ≤ m → m < d.length →
    (∀ a b, a < b → b ≤ m → a ≠ j → b ≠ j → bfr r (nth d a) (nth d b)) → (∀ b, j < b → b ≤ m → bfr r (nth d j) (nth d b)) →
    (∀ a, a < j → nth d a < nth d j) → ∀ a b, a < b → b ≤ m → bfr r (nth (bub r j d) a) (nth (bub r j d) b)
  | 0, m, d, hjm, hm, h1, h2, h3 => by
    intro a b hab hb
    unfold bub
    by_cases ha : a = 0
    · subst ha; exact h2 b hab hb
    · exact h1 a b hab hb ha (by omega)
  | j + 1, m, d, hjm, hm, h1, h2, h3 => by
    unfold bub
    have hs := fun i => swp_nth d j i (by omega)
    split
    · rename_i hlt
      have hlt' : r (nth d j) < r (nth d (j + 1)) := hlt
      refine bub_sorted r j m (swp d (j + 1)) (by omega) (by rw [swp_len]; exact hm) ?_ ?_ ?_
      · intro a b hab hb ha hbj
        rw [hs a, hs b, if_neg ha, if_neg hbj]
        by_cases e1 : a = j + 1
        · rw [if_pos e1, if_neg (by omega)]
          exact h1 j b (by omega) hb (by omega) (by omega)
        · rw [if_neg e1]
          by_cases e2 : b = j + 1
          · rw [if_pos e2]
            exact h1 a j (by omega) (by omega) (by omega) (by omega)
          · rw [if_neg e2]
            exact h1 a b hab hb (by omega) (by omega)
      · intro b hjb hb
        rw [hs j, hs b, if_pos rfl, if_neg (by omega)]
        by_cases e2 : b = j + 1
        · rw [if_pos e2]
          exact .inl hlt'
        · rw [if_neg e2]
          exact h2 b (by omega) hb
      · intro a ha
        rw [hs a, hs j, if_pos rfl, if_neg (by omega), if_neg (by omega)]
        exact h3 a (by omega)
    · rename_i hge
      have hge' : ¬ r (nth d j) < r (nth d (j + 1)) := hge
      intro a b hab hb
      by_cases e1 : a = j + 1
      · subst e1; exact h2 b hab hb
      · by_cases e2 : b = j + 1
        · subst e2
          have hj0 : bfr r (nth d j) (nth d (j + 1)) := by
            have := h3 j (by omega)
            unfold bfr; omega
          by_cases e3 : a = j
          · subst e3; exact hj0
          · exact bfr_trans (h1 a j (by omega) (by omega) (by omega) (by omega)) hj0
        · exact h1 a b hab hb e1 e2

/-- What lies behind the place is not touched. -/
theorem bub_after (r : Nat → Int) : ∀ (j : Nat) (d : List Nat), j < d.length → ∀ i, j < i → nth (bub r j d) i = nth d i
  | 0, d, _, i, _ => rfl
  | j + 1, d, hj, i, hi => by
    unfold bub
    split
    · rw [bub_after r j _ (by rw [swp_len]; omega) i (by omega), swp_nth d j i hj, if_neg (by omega), if_neg (by omega)]
    · rfl

theorem bub_le (r : Nat → Int) : ∀ (j m M : Nat) (d : List Nat), j ≤ m → m < d.length → (∀ a, a ≤ m → nth d a ≤ M) → ∀ a, a ≤ m → nth (bub r j d) a ≤ M
  | 0, m, M, d, _, _, h, a, ha => h a ha
  | j + 1, m, M, d, hj, hm, h, a, ha => by
    unfold bub
    split
    · refine bub_le r j m M _ (by omega) (by rw [swp_len]; exact hm) (fun c hc => ?_) a ha
      rw [swp_nth d j c (by omega)]
      split
      · exact h _ (by omega)
      · split
        · exact h _ (by omega)
        · exact h c hc
    · exact h a ha

/-- The sorted list: all of 0 .. n - 1. -/
def srtN (r : Nat → Int) (n : Nat) : List Nat := srt r (List.range n) (n - 1)

theorem nth_range {n i : Nat} (h : i < n) : nth (List.range n) i = i := by simp [nth, h]

theorem srt_inv (r : Nat → Int) (n : Nat) : ∀ k, k < n → (∀ i, k < i → i < n → nth (srt r (List.range n) k) i = i) ∧ (∀ i, i ≤ k → nth (srt r (List.range n) k) i ≤ k) ∧ ∀ a b, a < b → b ≤ k → bfr r (nth (srt r (List.range n) k) a) (nth (srt r (List.range n) k) b)
  | 0, hk => by
    refine ⟨fun i _ hi => nth_range hi, fun i hi => ?_, fun a b h1 h2 => by omega⟩
    obtain rfl : i = 0 := by omega
    show nth (List.range n) 0 ≤ 0
    rw [nth_range hk]
    exact Nat.le_refl _
  | k + 1, hk => by
    obtain ⟨h1, h2, h3⟩ := srt_inv r n k (by omega)
    rw [srt_succ]
    have hl : (srt r (List.range n) k).length = n := by rw [srt_len, List.length_range]
    generalize srt r (List.range n) k = d at *
    have hk1 := h1 (k + 1) (by omega) hk
    have hso := bub_sorted r (k + 1) (k + 1) d (Nat.le_refl _) (by omega) (fun a b hab hb ha hbj => h3 a b hab (by omega)) (fun b _ _ => by omega) (fun a ha => by
      rw [hk1]
      have := h2 a (by omega)
      omega)
    have haf := bub_after r (k + 1) d (by omega)
    refine ⟨fun i hi hin => by rw [haf i hi]; exact h1 i (by omega) hin, fun i hi => ?_, hso⟩
    refine bub_le r (k + 1) (k + 1) (k + 1) d (Nat.le_refl _) (by omega) (fun a ha => ?_) i hi
    rcases Nat.lt_or_ge k a with h | h
    · obtain rfl : a = k + 1 := by omega
      omega
    · have := h2 a h
      omega

/-- All of them, each once, each before those behind it. -/
theorem srtN_perm (r : Nat → Int) (n : Nat) : (srtN r n).Perm (List.range n) := srt_perm r _ _ (by simp; omega)
theorem srtN_len (r : Nat → Int) (n : Nat) : (srtN r n).length = n := by unfold srtN; rw [srt_len, List.length_range]
theorem srtN_ord (r : Nat → Int) (n : Nat) : ∀ a b, a < b → b < n → bfr r (nth (srtN r n) a) (nth (srtN r n) b) := by
  intro a b hab hb
  exact (srt_inv r n (n - 1) (by omega)).2.2 a b hab (by omega)
theorem srtN_mem (r : Nat → Int) (n i : Nat) : i ∈ srtN r n ↔ i < n := by rw [(srtN_perm r n).mem_iff, List.mem_range]
theorem srtN_nth (r : Nat → Int) (n : Nat) {a : Nat} (h : a < n) : nth (srtN r n) a < n := by
  rw [← srtN_mem r]
  unfold nth
  rw [List.getElem?_eq_getElem (by rw [srtN_len]; exact h)]
  exact List.getElem_mem _
theorem srtN_inj (r : Nat → Int) (n : Nat) {a b : Nat} (ha : a < n) (hb : b < n) (h : nth (srtN r n) a = nth (srtN r n) b) : a = b := by
  rcases Nat.lt_trichotomy a b with h1 | h1 | h1
  · have := srtN_ord r n a b h1 hb
    rw [h] at this
    exact absurd this bfr_irrefl
  · exact h1
  · have := srtN_ord r n b a h1 ha
    rw [h] at this
    exact absurd this bfr_irrefl
theorem srtN_ex (r : Nat → Int) (n : Nat) {i : Nat} (h : i < n) : ∃ a, a < n ∧ nth (srtN r n) a = i := by
  obtain ⟨a, ha, e⟩ := List.getElem_of_mem ((srtN_mem r n i).2 h)
  rw [srtN_len] at ha
  refine ⟨a, ha, ?_⟩
  unfold nth
  rw [List.getElem?_eq_getElem (by rw [srtN_len]; exact ha), e]
  rfl

/-- The first ones. -/
theorem take_mem (r : Nat → Int) (n k : Nat) (hk : k ≤ n) {a : Nat} (ha : a < n) : nth (srtN r n) a ∈ (srtN r n).take k ↔ a < k := by
  constructor
  · intro h
    obtain ⟨c, hc, e⟩ := List.getElem_of_mem h
    simp only [List.length_take, srtN_len] at hc
    rw [List.getElem_take] at e
    have : nth (srtN r n) c = nth (srtN r n) a := by
      rw [← e]
      unfold nth
      rw [List.getElem?_eq_getElem (by rw [srtN_len]; omega)]
      rfl
    have := srtN_inj r n (by omega) ha this
    omega
  · intro h
    unfold nth
    rw [List.getElem?_eq_getElem (by rw [srtN_len]; exact ha)]
    simp only [Option.getD_some]
    have : (srtN r n)[a]'(by rw [srtN_len]; exact ha) = ((srtN r n).take k)[a]'(by simp [srtN_len]; omega) := by rw [List.getElem_take]
    rw [this]
    exact List.getElem_mem _

/-- The order alone counts. -/
theorem srtN_congr {r r' : Nat → Int} {n : Nat} (h : ∀ i j, i < n → j < n → (bfr r' i j ↔ bfr r i j)) : srtN r' n = srtN r n := by
  apply List.ext_getElem (by rw [srtN_len, srtN_len])
  intro a ha ha'
  rw [srtN_len] at ha
  -- by how many come before
  have key : ∀ k, k ≤ n → ∀ i, i < k → nth (srtN r' n) i = nth (srtN r n) i := by
    intro k
    induction k with
    | zero => intro _ i hi; omega
    | succ k ih =>
      intro hk i hi
      rcases Nat.lt_or_ge i k with h1 | h1
      · exact ih (by omega) i h1
      · obtain rfl : i = k := by omega
        obtain ⟨c, hc, e⟩ := srtN_ex r n (srtN_nth r' n (a := i) (by omega))
        obtain ⟨d, hd, e2⟩ := srtN_ex r' n (srtN_nth r n (a := i) (by omega))
        have hci : i ≤ c := by
          apply Classical.byContradiction
          intro hno
          have := ih (by omega) c (by omega)
          rw [e] at this
          have := srtN_inj r' n (by omega) (by omega) this
          omega
        have hdi : i ≤ d := by
          apply Classical.byContradiction
          intro hno
          have := ih (by omega) d (by omega)
          rw [e2] at this
          have := srtN_inj r n (by omega) (by omega) this
          omega
        rcases Nat.lt_or_ge i c with h2 | h2
        · have h3 := srtN_ord r n i c h2 hc
          rw [e] at h3
          rcases Nat.lt_or_ge i d with h4 | h4
          · have h5 := srtN_ord r' n i d h4 hd
            rw [e2, h _ _ (srtN_nth r' n (by omega)) (srtN_nth r n (by omega))] at h5
            exact absurd (bfr_trans h3 h5) bfr_irrefl
          · obtain rfl : i = d := by omega
            exact e2
        · obtain rfl : i = c := by omega
          exact e.symm
  have := key n (Nat.le_refl _) a ha
  unfold nth at this
  rw [List.getElem?_eq_getElem (by rw [srtN_len]; exact ha), List.getElem?_eq_getElem (by rw [srtN_len]; exact ha)] at this
  exact this

/-! ### picking the greatest again and again, as the document does -/
theorem take_succ_srt (r : Nat → Int) (n k : Nat) (hk : k < n) : (srtN r n).take (k + 1) = (srtN r n).take k ++ [nth (srtN r n) k] := by
  rw [List.take_add_one]
  congr 1
  unfold nth
  rw [List.getElem?_eq_getElem (by rw [srtN_len]; exact hk)]
  rfl

end Go.Proofs.Ytbghdcleoamkiaa

/- Plain law of the remainders: what each quarter has. -/
set_option linter.unusedSimpArgs false
set_option linter.unusedVariables false
set_option linter.unnecessarySimpa false
namespace Go.Proofs.Ytbghdcleoamkiaa

def allS (b : Bx) : Int := sumI b.sh
def restI (b : Bx) (f : Int) (i : Nat) : Int := f * at0 b.sh i % allS b
def flrI (b : Bx) (f : Int) (i : Nat) : Int := f * at0 b.sh i / allS b
def flrL (b : Bx) (f : Int) : List Int := (List.range b.sh.length).map (flrI b f)
def leftI (b : Bx) (f : Int) : Int := f - sumI (flrL b f)
def cutL (b : Bx) (f : Int) : List Nat := srtN (restI b f) b.sh.length

/-- k of them have one more. -/
def remK (b : Bx) (f : Int) (k : Nat) : List Int := (List.range b.sh.length).map fun i => flrI b f i + if i ∈ (cutL b f).take k then 1 else 0
def remL (b : Bx) (f : Int) : List Int := if allS b = 0 then List.replicate b.sh.length 0 else remK b f (leftI b f).toNat

theorem at0_rmap (g : Nat → Int) {n i : Nat} (h : i < n) : at0 ((List.range n).map g) i = g i := by simp [at0, h]

theorem sumI_rmap_succ (g : Nat → Int) (n : Nat) : sumI ((List.range (n + 1)).map g) = sumI ((List.range n).map g) + g n := by
  rw [List.range_succ, List.map_append, sumI_app]
  show _ + sumI [g n] = _
  rw [sumI_cons, sumI_nil]
  omega

theorem sumI_rmap_add (g h : Nat → Int) (n : Nat) : sumI ((List.range n).map fun i => g i + h i) = sumI ((List.range n).map g) + sumI ((List.range n).map h) := by
  induction n with
  | zero => rfl
  | succ n ih => rw [sumI_rmap_succ, sumI_rmap_succ, sumI_rmap_succ, ih]; omega

theorem sumI_rmap_mul (g : Nat → Int) (a : Int) (n : Nat) : sumI ((List.range n).map fun i => a * g i) = a * sumI ((List.range n).map g) := by
  induction n with
  | zero => simp [sumI_nil]
  | succ n ih => rw [sumI_rmap_succ, sumI_rmap_succ, ih, Int.mul_add]

theorem sumI_rmap_congr {g h : Nat → Int} {n : Nat} (e : ∀ i, i < n → g i = h i) : sumI ((List.range n).map g) = sumI ((List.range n).map h) := by
  congr 1
  exact List.map_congr_left fun i hi => e i (List.mem_range.1 hi)

theorem list_rmap (l : List Int) : (List.range l.length).map (at0 l) = l := by
  apply List.ext_getElem (by simp)
  intro i h1 h2
  simp [at0, h2]

theorem sumI_rmap_at (l : List Int) : sumI ((List.range l.length).map (at0 l)) = sumI l := by rw [list_rmap]

theorem sumI_rmap_le {g h : Nat → Int} {n : Nat} (e : ∀ i, i < n → g i ≤ h i) : sumI ((List.range n).map g) ≤ sumI ((List.range n).map h) := by
  induction n with
  | zero => exact Int.le_refl _
  | succ n ih =>
    rw [sumI_rmap_succ, sumI_rmap_succ]
    have := ih fun i hi => e i (by omega)
    have := e n (by omega)
    omega

theorem sumI_rmap_const (a : Int) (n : Nat) : sumI ((List.range n).map fun _ => a) = n * a := by
  induction n with
  | zero => simp [sumI_nil]
  | succ n ih =>
    rw [sumI_rmap_succ, ih, Int.natCast_succ, Int.add_mul]
    omega

/-- The parts and what is left of them. -/
theorem parts (b : Bx) (f : Int) (h0 : 0 < allS b) : allS b * leftI b f = sumI ((List.range b.sh.length).map (restI b f)) := by
  have h1 : sumI ((List.range b.sh.length).map fun i => allS b * flrI b f i + restI b f i) = f * allS b := by
    have e : sumI ((List.range b.sh.length).map fun i => allS b * flrI b f i + restI b f i) = sumI ((List.range b.sh.length).map fun i => f * at0 b.sh i) :=
      sumI_rmap_congr fun i _ => Int.mul_ediv_add_emod _ _
    rw [e, sumI_rmap_mul, sumI_rmap_at]
    rfl
  rw [sumI_rmap_add, sumI_rmap_mul] at h1
  unfold leftI flrL
  rw [Int.mul_sub, Int.mul_comm (allS b) f]
  omega

theorem rest_bd (b : Bx) (f : Int) (h0 : 0 < allS b) (i : Nat) : 0 ≤ restI b f i ∧ restI b f i < allS b := ⟨Int.emod_nonneg _ (by omega), Int.emod_lt_of_pos _ h0⟩

theorem left_bd (b : Bx) (f : Int) (h0 : 0 < allS b) : 0 ≤ leftI b f ∧ leftI b f < b.sh.length := by
  have h1 := parts b f h0
  have h2 : sumI ((List.range b.sh.length).map fun _ => 0) ≤ sumI ((List.range b.sh.length).map (restI b f)) := sumI_rmap_le fun i _ => (rest_bd b f h0 i).1
  have h3 : sumI ((List.range b.sh.length).map (restI b f)) ≤ sumI ((List.range b.sh.length).map fun _ => allS b - 1) := sumI_rmap_le fun i _ => by have := (rest_bd b f h0 i).2; omega
  rw [sumI_rmap_const] at h2 h3
  have hn : 0 < (b.sh.length : Int) := by
    rcases Nat.eq_zero_or_pos b.sh.length with h | h
    · have : b.sh = [] := List.eq_nil_of_length_eq_zero h
      unfold allS at h0
      rw [this, sumI_nil] at h0
      omega
    · omega
  rw [← h1] at h2 h3
  constructor
  · apply Classical.byContradiction
    intro h
    have : allS b * leftI b f < 0 := Int.mul_neg_of_pos_of_neg h0 (by omega)
    omega
  · apply Classical.byContradiction
    intro h
    have h4 : allS b * (b.sh.length : Int) ≤ allS b * leftI b f := Int.mul_le_mul_of_nonneg_left (by omega) (by omega)
    rw [Int.mul_sub, Int.mul_one, Int.mul_comm (b.sh.length : Int)] at h3
    omega

theorem cut_len (b : Bx) (f : Int) : (cutL b f).length = b.sh.length := srtN_len _ _

theorem remK_len (b : Bx) (f : Int) (k : Nat) : (remK b f k).length = b.sh.length := by simp [remK]
theorem remK_0 (b : Bx) (f : Int) : remK b f 0 = flrL b f := by simp [remK, flrL]

theorem remK_at (b : Bx) (f : Int) (k : Nat) {i : Nat} (h : i < b.sh.length) : at0 (remK b f k) i = flrI b f i + if i ∈ (cutL b f).take k then 1 else 0 := at0_rmap _ h

theorem remK_succ (b : Bx) (f : Int) (k : Nat) (hk : k < b.sh.length) : remK b f (k + 1) = (remK b f k).set (nth (cutL b f) k) (at0 (remK b f k) (nth (cutL b f) k) + 1) := by
  have hn := srtN_nth (restI b f) b.sh.length hk
  have hno : nth (srtN (restI b f) b.sh.length) k ∉ (srtN (restI b f) b.sh.length).take k := by rw [take_mem _ _ k (by omega) hk]; omega
  apply List.ext_getElem (by simp [remK])
  intro i h1 h2
  rw [remK_len] at h1
  rw [← at0_lt (by rw [remK_len]; exact h1), ← at0_lt h2, at0_set (by rw [remK_len]; exact hn), remK_at b f _ h1]
  unfold cutL at *
  rw [take_succ_srt _ _ _ hk]
  by_cases e : nth (srtN (restI b f) b.sh.length) k = i
  · subst e
    rw [if_pos rfl, if_pos (by simp), remK_at b f _ hn]
    unfold cutL
    rw [if_neg hno]
    omega
  · rw [if_neg e, remK_at b f _ h1]
    unfold cutL
    by_cases h : i ∈ (srtN (restI b f) b.sh.length).take k
    · rw [if_pos h, if_pos (by simp [h])]
    · rw [if_neg h, if_neg (by
        rw [List.mem_append, List.mem_singleton]
        rintro (h3 | h3)
        · exact h h3
        · exact e h3.symm)]

theorem remL_len (b : Bx) (f : Int) : (remL b f).length = b.sh.length := by
  unfold remL
  split <;> simp [remK]

theorem sum_nonneg {b : Bx} (hv : BV b) : 0 ≤ allS b ∧ allS b ≤ 100 := by
  have h1 := sumI_rmap_at b.sh
  have h2 : sumI ((List.range b.sh.length).map fun _ => 0) ≤ sumI ((List.range b.sh.length).map (at0 b.sh)) := sumI_rmap_le fun i hi => (hv.s0 i hi).1
  have h3 : sumI ((List.range b.sh.length).map (at0 b.sh)) ≤ sumI ((List.range b.sh.length).map fun _ => 20) := sumI_rmap_le fun i hi => (hv.s0 i hi).2
  rw [sumI_rmap_const] at h2 h3
  have := hv.n5
  unfold allS
  omega

theorem at0_nonneg {b : Bx} (hv : BV b) (i : Nat) : 0 ≤ at0 b.sh i ∧ at0 b.sh i ≤ 20 := by
  rcases Nat.lt_or_ge i b.sh.length with h | h
  · exact hv.s0 i h
  · have : at0 b.sh i = 0 := by simp only [at0, List.getElem?_eq_none h]; rfl
    omega

/-- A share is not more than all. -/
theorem share_le {b : Bx} (hv : BV b) {i : Nat} (hi : i < b.sh.length) : at0 b.sh i ≤ allS b := by
  have h := sumI_set b.sh i 0 hi
  have h2 := sumI_le (l := List.replicate b.sh.length 0) (k := b.sh.set i 0) (by simp) fun j hj => by
    rw [at0_rep, at0_set hi]
    split
    · exact Int.le_refl _
    · exact (at0_nonneg hv j).1
  rw [sumI_rep] at h2
  unfold allS
  omega

theorem flr_bd {b : Bx} (hv : BV b) {f : Int} (hf : 0 ≤ f) (h0 : 0 < allS b) {i : Nat} (hi : i < b.sh.length) : 0 ≤ flrI b f i ∧ flrI b f i ≤ f := by
  have h1 := (hv.s0 i hi).1
  constructor
  · exact Int.ediv_nonneg (Int.mul_nonneg hf h1) (by omega)
  · unfold flrI
    have h2 := share_le hv hi
    have h3 : f * at0 b.sh i ≤ f * allS b := Int.mul_le_mul_of_nonneg_left h2 hf
    have := Int.ediv_le_ediv h0 h3
    rwa [Int.mul_ediv_cancel _ (by omega)] at this

/-- All shares twice as great. -/
theorem rem_twice {b b' : Bx} (hl : b'.sh.length = b.sh.length) (hs : ∀ i, at0 b'.sh i = 2 * at0 b.sh i) (f : Int) : remL b' f = remL b f := by
  have ha : allS b' = 2 * allS b := by
    unfold allS
    rw [← sumI_rmap_at, ← sumI_rmap_at b.sh, hl, ← sumI_rmap_mul]
    exact sumI_rmap_congr fun i _ => hs i
  have hx : ∀ i, f * at0 b'.sh i = 2 * (f * at0 b.sh i) := fun i => by rw [hs, ← Int.mul_assoc, Int.mul_comm f 2, Int.mul_assoc]
  have hr : ∀ i, restI b' f i = 2 * restI b f i := fun i => by
    unfold restI
    rw [ha, hx, Int.mul_emod_mul_of_pos _ _ (by decide)]
  have hf : ∀ i, flrI b' f i = flrI b f i := fun i => by
    unfold flrI
    rw [ha, hx, Int.mul_ediv_mul_of_pos _ _ (by decide)]
  have hfl : flrL b' f = flrL b f := by
    unfold flrL
    rw [hl]
    exact List.map_congr_left fun i _ => hf i
  have hc : cutL b' f = cutL b f := by
    unfold cutL
    rw [hl]
    refine srtN_congr fun i j _ _ => ?_
    unfold bfr
    rw [hr, hr]
    omega
  have hle : leftI b' f = leftI b f := by unfold leftI; rw [hfl]
  unfold remL remK
  rw [hl, hc, hle, ha]
  by_cases h0 : allS b = 0
  · rw [if_pos (by omega), if_pos h0]
  · rw [if_neg (by omega), if_neg h0]
    exact List.map_congr_left fun i _ => by rw [hf]

end Go.Proofs.Ytbghdcleoamkiaa

/- Contracts of small functions. -/
set_option linter.unusedSimpArgs false
set_option linter.unusedVariables false
set_option linter.unnecessarySimpa false
namespace Go.Proofs.Ytbghdcleoamkiaa
open Go Go.V

theorem hmix : Try.prog.follows .mixedOrders = true := by kernel_rfl

abbrev IS (l : List Int) : AV := .sl 1 (l.map .int) .sh
abbrev MB (b : Bx) : AV := .agg [IS b.sh, IS b.mo]

def within (n lo hi : Int) : Bool := decide (lo ≤ n ∧ n ≤ hi)

theorem c68 (n lo hi : Int) : Ctr Try.prog 68 [.int n, .int lo, .int hi] (.bool (within n lo hi)) := by
  refine ctr_of_wp hmix Try.func68 m68 rfl ?_
  unfold v68
  simp -failIfUnchanged (disch := first | omega | (simp <;> omega) | fail) only [go_sem, simprocAttr]
  refine WGd_bool (fun h => ?_) (fun h => ?_)
  · simp -failIfUnchanged (disch := first | omega | (simp <;> omega) | fail) only [go_sem, simprocAttr, h]
    simp only [decide_eq_true_eq] at h
    simp [within, h]
  · simp -failIfUnchanged (disch := first | omega | (simp <;> omega) | fail) only [go_sem, simprocAttr, h]
    simp only [Bool.not_true, decide_eq_false_iff_not] at h
    simp [within, h]

theorem c35 (n lo hi : Int) : Ctr Try.prog 35 [.int n, .int lo, .int hi] (.bool (within n lo hi)) := by
  refine ctr_of_wp hmix Try.func35 m35 rfl ?_
  unfold v35
  simp -failIfUnchanged (disch := first | omega | (simp <;> omega) | fail) only [go_sem, simprocAttr]
  refine WGd_bool (fun h => ?_) (fun h => ?_)
  · simp -failIfUnchanged (disch := first | omega | (simp <;> omega) | fail) only [go_sem, simprocAttr, h]
    simp only [decide_eq_true_eq] at h
    simp [within, h]
  · simp -failIfUnchanged (disch := first | omega | (simp <;> omega) | fail) only [go_sem, simprocAttr, h]
    simp only [Bool.not_true, decide_eq_false_iff_not] at h
    simp [within, h]

theorem c61 (n lo hi : Int) : Ctr Try.prog 61 [.int n, .int lo, .int hi] (.bool (within n lo hi)) := by
  refine ctr_of_wp hmix Try.func61 m61 rfl ?_
  unfold v61
  simp -failIfUnchanged (disch := first | omega | (simp <;> omega) | fail) only [go_sem, simprocAttr]
  refine wcall (c35 _ _ _) ?_
  simp -failIfUnchanged (disch := first | omega | (simp <;> omega) | fail) only [go_sem, simprocAttr]

theorem c63 (n : Int) : Ctr Try.prog 63 [.int n] (.bool (within n 0 40)) := by
  refine ctr_of_wp hmix Try.func63 m63 rfl ?_
  unfold v63
  simp -failIfUnchanged (disch := first | omega | (simp <;> omega) | fail) only [go_sem, simprocAttr]
  refine wcall (c68 _ _ _) ?_
  simp -failIfUnchanged (disch := first | omega | (simp <;> omega) | fail) only [go_sem, simprocAttr]

theorem c58 (n : Int) : Ctr Try.prog 58 [.int n] (.bool (within n 0 40)) := by
  refine ctr_of_wp hmix Try.func58 m58 rfl ?_
  unfold v58
  simp -failIfUnchanged (disch := first | omega | (simp <;> omega) | fail) only [go_sem, simprocAttr]
  refine wcall (c61 _ _ _) ?_
  simp -failIfUnchanged (disch := first | omega | (simp <;> omega) | fail) only [go_sem, simprocAttr]

theorem c80 (n : Int) : Ctr Try.prog 80 [.int n] (.bool (within n 1 20)) := by
  refine ctr_of_wp hmix Try.func80 m80 rfl ?_
  unfold v80
  simp -failIfUnchanged (disch := first | omega | (simp <;> omega) | fail) only [go_sem, simprocAttr]
  refine wcall (c68 _ _ _) ?_
  simp -failIfUnchanged (disch := first | omega | (simp <;> omega) | fail) only [go_sem, simprocAttr]

theorem c57 (n : Int) : Ctr Try.prog 57 [.int n] (.bool (within n 1 20)) := by
  refine ctr_of_wp hmix Try.func57 m57 rfl ?_
  unfold v57
  simp -failIfUnchanged (disch := first | omega | (simp <;> omega) | fail) only [go_sem, simprocAttr]
  refine wcall (c61 _ _ _) ?_
  simp -failIfUnchanged (disch := first | omega | (simp <;> omega) | fail) only [go_sem, simprocAttr]

theorem c70 (n : Int) : Ctr Try.prog 70 [.int n] (.bool (within n 0 39)) := by
  refine ctr_of_wp hmix Try.func70 m70 rfl ?_
  unfold v70
  simp -failIfUnchanged (disch := first | omega | (simp <;> omega) | fail) only [go_sem, simprocAttr]
  refine wcall (c61 _ _ _) ?_
  simp -failIfUnchanged (disch := first | omega | (simp <;> omega) | fail) only [go_sem, simprocAttr]

theorem c79 (b : Bx) (n : Int) : Ctr Try.prog 79 [MB b, .int n] (.bool (within n 0 (w64 ((b.sh.length : Int) - 1)))) := by
  refine ctr_of_wp hmix Try.func79 m79 rfl ?_
  unfold v79
  simp -failIfUnchanged (disch := first | omega | (simp <;> omega) | fail) only [go_sem, simprocAttr]
  refine wcall (c68 _ _ _) ?_
  simp -failIfUnchanged (disch := first | omega | (simp <;> omega) | fail) only [go_sem, simprocAttr]

theorem c32 (b : Bx) (n : Int) : Ctr Try.prog 32 [MB b, .int n] (.bool (within n 0 (w64 ((b.sh.length : Int) - 1)))) := by
  refine ctr_of_wp hmix Try.func32 m32 rfl ?_
  unfold v32
  simp -failIfUnchanged (disch := first | omega | (simp <;> omega) | fail) only [go_sem, simprocAttr]
  refine wcall (c61 _ _ _) ?_
  simp -failIfUnchanged (disch := first | omega | (simp <;> omega) | fail) only [go_sem, simprocAttr]

theorem c30 (e : Int) : Ctr Try.prog 30 [.int e] (.bool (decide (e = 0) || decide (e = 3))) := by
  refine ctr_of_wp hmix Try.func30 m30 rfl ?_
  unfold v30
  simp -failIfUnchanged (disch := first | omega | (simp <;> omega) | fail) only [go_sem, simprocAttr]
  refine WGd_bool (fun h => ?_) (fun h => ?_)
  · simp -failIfUnchanged (disch := first | omega | (simp <;> omega) | fail) only [go_sem, simprocAttr, h]
  · simp -failIfUnchanged (disch := first | omega | (simp <;> omega) | fail) only [go_sem, simprocAttr, h]

theorem c26 (a b : List Int) (ha : a.length < 4294967296) : Ctr Try.prog 26 [IS a, IS b] (.bool (decide (a = b))) := by
  refine ctr_of_wp hmix Try.func26 m26 rfl ?_
  unfold v26 IS
  simp -failIfUnchanged (disch := first | omega | (simp <;> omega) | fail) only [go_sem, simprocAttr]
  refine wcond_dec (fun h => ?_) (fun h => ?_)
  · simp -failIfUnchanged (disch := first | omega | (simp <;> omega) | fail) only [go_sem, simprocAttr]
    have : a ≠ b := fun e => by subst e; simp at h
    simp [this]
  · simp -failIfUnchanged (disch := first | omega | (simp <;> omega) | fail) only [go_sem, simprocAttr]
    refine wp_loop' Nat (fun i => ⟨[(0, IS a), (1, IS b), (5, .int i)], [], [], none⟩) (fun i => i ≤ a.length ∧ a.take i = b.take i) (fun i => a.length - i) 0 (by simp) (by unfold IS; simp -failIfUnchanged (disch := first | omega | (simp <;> omega) | fail) only [go_sem, simprocAttr]; try rfl) ?_
    rintro i ⟨hi, hpre⟩
    unfold IS
    simp -failIfUnchanged (disch := first | omega | (simp <;> omega) | fail) only [go_sem, simprocAttr]
    have hl : a.length = b.length := by omega
    refine wcond_dec (fun h => ?_) (fun h => ?_)
    · simp -failIfUnchanged (disch := first | omega | (simp <;> omega) | fail) only [go_sem, simprocAttr]
      have e1 : a[i]? = some a[i] := List.getElem?_eq_getElem (by omega)
      have e2 : b[i]? = some b[i] := List.getElem?_eq_getElem (by omega)
      rw [e1, e2]
      simp -failIfUnchanged (disch := first | omega | (simp <;> omega) | fail) only [go_sem, simprocAttr]
      refine wcond_dec (fun h => ?_) (fun h => ?_)
      · simp -failIfUnchanged (disch := first | omega | (simp <;> omega) | fail) only [go_sem, simprocAttr]
        have : a ≠ b := fun e => by subst e; simp at h
        simp [this]
      · simp -failIfUnchanged (disch := first | omega | (simp <;> omega) | fail) only [go_sem, simprocAttr]
        refine ⟨i + 1, ⟨by omega, ?_⟩, by dsimp only; omega, ?_⟩
        · rw [List.take_add_one, List.take_add_one, hpre, e1, e2]
          simp only [Decidable.not_not] at h
          rw [h]
        · simp -failIfUnchanged (disch := first | omega | (simp <;> omega) | fail) only [go_sem, simprocAttr]
          simp
    · simp -failIfUnchanged (disch := first | omega | (simp <;> omega) | fail) only [go_sem, simprocAttr]
      have e : i = a.length := by omega
      have : a = b := by
        rw [e, List.take_length, hl, List.take_length] at hpre
        exact hpre
      simp [this]

/-- The first place at which p holds, or -1. -/
def idxF {α : Type} (p : α → Bool) (l : List α) : Int := if l.any p then l.findIdx p else -1

theorem idxF_hit {α : Type} [Inhabited α] {p : α → Bool} {l : List α} {i : Nat} (hi : i < l.length) (hpre : ∀ x ∈ l.take i, p x = false) (h : p (l[i]?.getD default) = true) : idxF p l = i := by
  have e : l[i]?.getD default = l[i] := by simp [hi]
  rw [e] at h
  have hany : l.any p = true := List.any_eq_true.2 ⟨l[i], List.getElem_mem hi, h⟩
  have : l.findIdx p = i := by
    rw [List.findIdx_eq hi]
    refine ⟨h, fun j hj => ?_⟩
    refine hpre _ ?_
    have hj2 : j < l.length := by omega
    have : (l.take i)[j]'(by simp; omega) = l[j] := List.getElem_take
    rw [← this]
    exact List.getElem_mem _
  simp [idxF, hany, this]

theorem idxF_miss {α : Type} {p : α → Bool} {l : List α} (hpre : ∀ x ∈ l, p x = false) : idxF p l = -1 := by
  have : l.any p = false := List.any_eq_false.2 fun x hx => by simp [hpre x hx]
  simp [idxF, this]

theorem idxF_geq {α : Type} {p : α → Bool} {l : List α} : decide ((0 : Int) ≤ idxF p l) = l.any p := by
  unfold idxF
  cases l.any p <;> simp

theorem take_succ_all {α : Type} [Inhabited α] {p : α → Bool} {l : List α} {i : Nat} (hi : i < l.length) (hpre : ∀ x ∈ l.take i, p x = false) (h : p (l[i]?.getD default) = false) : ∀ x ∈ l.take (i + 1), p x = false := by
  intro x hx
  rw [List.take_add_one] at hx
  rcases List.mem_append.1 hx with hx | hx
  · exact hpre x hx
  · have e : l[i]? = some l[i] := List.getElem?_eq_getElem hi
    rw [e] at hx h
    simp at hx h
    rw [hx]; exact h

theorem mem_getD {α : Type} [Inhabited α] {l : List α} {i : Nat} (hi : i < l.length) : l[i]?.getD default ∈ l := by
  simp [hi]

theorem c89 (l : List Int) (g : Nat) (caps : List AV) (p : Int → Bool) (hp : ∀ x ∈ l, Ctr Try.prog g ([.int x] ++ caps) (.bool (p x))) (hl : l.length < 4294967296) :
    Ctr Try.prog 89 [IS l, .clo g [] caps] (.int (idxF p l)) := by
  refine ctr_of_wp hmix Try.func89 m89 rfl ?_
  unfold v89 IS
  simp -failIfUnchanged (disch := first | omega | (simp <;> omega) | fail) only [go_sem, simprocAttr]
  refine wp_loop' Nat (fun i => ⟨[(0, IS l), (1, .clo g [] caps), (7, .int l.length), (8, .int i)], [], [], none⟩) (fun i => i ≤ l.length ∧ ∀ x ∈ l.take i, p x = false) (fun i => l.length - i) 0 (by simp) (by unfold IS; simp -failIfUnchanged (disch := first | omega | (simp <;> omega) | fail) only [go_sem, simprocAttr]; try rfl) ?_
  rintro i ⟨hi, hpre⟩
  unfold IS
  simp -failIfUnchanged (disch := first | omega | (simp <;> omega) | fail) only [go_sem, simprocAttr]
  refine wcond_dec (fun h => ?_) (fun h => ?_)
  · simp -failIfUnchanged (disch := first | omega | (simp <;> omega) | fail) only [go_sem, simprocAttr]
    have hlt : i < l.length := by omega
    refine wcall (hp _ (mem_getD hlt)) ?_
    simp -failIfUnchanged (disch := first | omega | (simp <;> omega) | fail) only [go_sem, simprocAttr]
    refine wcond_bool (fun hb => ?_) (fun hb => ?_)
    · simp -failIfUnchanged (disch := first | omega | (simp <;> omega) | fail) only [go_sem, simprocAttr]
      rw [idxF_hit hlt hpre hb]
    · simp -failIfUnchanged (disch := first | omega | (simp <;> omega) | fail) only [go_sem, simprocAttr]
      refine ⟨i + 1, ⟨by omega, take_succ_all hlt hpre hb⟩, by dsimp only; omega, ?_⟩
      simp -failIfUnchanged (disch := first | omega | (simp <;> omega) | fail) only [go_sem, simprocAttr]
      try simp
  · simp -failIfUnchanged (disch := first | omega | (simp <;> omega) | fail) only [go_sem, simprocAttr]
    have e : i = l.length := by omega
    rw [idxF_miss]
    rw [e, List.take_length] at hpre
    exact hpre

theorem c82 (l : List Int) (g : Nat) (caps : List AV) (p : Int → Bool) (hp : ∀ x ∈ l, Ctr Try.prog g ([.int x] ++ caps) (.bool (p x))) (hl : l.length < 4294967296) :
    Ctr Try.prog 82 [IS l, .clo g [] caps] (.bool (l.any p)) := by
  refine ctr_of_wp hmix Try.func82 m82 rfl ?_
  unfold v82 IS
  simp -failIfUnchanged (disch := first | omega | (simp <;> omega) | fail) only [go_sem, simprocAttr]
  refine wcall (c89 l g caps p hp hl) ?_
  simp -failIfUnchanged (disch := first | omega | (simp <;> omega) | fail) only [go_sem, simprocAttr]
  rw [idxF_geq]

def areB (most : Int) (l : List Int) : Bool := !l.any fun n => !within n 0 most

theorem c83 (n most : Int) : Ctr Try.prog 83 [.int n, .ref 1 [.agg [.int most]] 0 0] (.bool (!within n 0 most)) := by
  refine ctr_of_wp hmix Try.func83 m83 rfl ?_
  unfold v83
  simp -failIfUnchanged (disch := first | omega | (simp <;> omega) | fail) only [go_sem, simprocAttr]
  refine wcall (c68 _ _ _) ?_
  simp -failIfUnchanged (disch := first | omega | (simp <;> omega) | fail) only [go_sem, simprocAttr]

theorem c60 (most : Int) (l : List Int) (hl : l.length < 4294967296) : Ctr Try.prog 60 [.int most, IS l] (.bool (areB most l)) := by
  refine ctr_of_wp hmix Try.func60 m60 rfl ?_
  unfold v60 IS
  simp -failIfUnchanged (disch := first | omega | (simp <;> omega) | fail) only [go_sem, simprocAttr]
  refine wcall (c82 l 83 _ (fun n => !within n 0 most) (fun x _ => c83 x most) hl) ?_
  simp -failIfUnchanged (disch := first | omega | (simp <;> omega) | fail) only [go_sem, simprocAttr]
  rfl

theorem c33 (a b c d : Int) : Ctr Try.prog 33 [.int a, .int b, .int c, .int d] (.bool (decide (w64 (a * d) < w64 (c * b)))) := by
  refine ctr_of_wp hmix Try.func33 m33 rfl ?_
  unfold v33
  simp -failIfUnchanged (disch := first | omega | (simp <;> omega) | fail) only [go_sem, simprocAttr]

end Go.Proofs.Ytbghdcleoamkiaa

/- Who is next: the program's and the document's. -/
set_option linter.unusedSimpArgs false
set_option linter.unusedVariables false
set_option linter.unnecessarySimpa false
namespace Go.Proofs.Ytbghdcleoamkiaa
open Go Go.V

abbrev gC (b : Bx) (hs : List Int) : List AV := IS b.sh :: IS b.mo :: hs.map .int

theorem gC_get (b : Bx) (hs : List Int) (i : Nat) (h : i < hs.length) : (gC b hs)[2 + i]?.getD .und = .int (at0 hs i) := by
  rw [show 2 + i = i + 1 + 1 by omega]
  simp [h, at0]

theorem gC_set (b : Bx) (hs : List Int) (i : Nat) (x : Int) (h : i < hs.length) : setAt (gC b hs) (2 + i) [.int x] = gC b (hs.set i x) := by
  rw [show 2 + i = i + 1 + 1 by omega]
  simp only [setAt_s]
  congr 2
  induction hs generalizing i with
  | nil => simp at h
  | cons a r ih =>
    cases i with
    | zero => simp [setAt]
    | succ i => simp only [List.map_cons, setAt_s, List.set_cons_succ]; rw [ih i (by simpa using h)]

theorem prod_bd {s h : Int} (h1 : 0 ≤ s ∧ s ≤ 20) (h2 : 0 ≤ h ∧ h ≤ 100) : 0 ≤ s * (2 * h + 1) ∧ s * (2 * h + 1) ≤ 5000 := by
  have a := Int.mul_nonneg h1.1 (show 0 ≤ 2 * h + 1 by omega)
  have b : s * (2 * h + 1) ≤ 20 * (2 * h + 1) := Int.mul_le_mul_of_nonneg_right h1.2 (by omega)
  omega

theorem nxtF_lt (b : Bx) (hs : List Int) : ∀ k, nxtF b hs k = -1 ∨ ∃ r : Nat, nxtF b hs k = r ∧ r < k
  | 0 => .inl rfl
  | k + 1 => by
    rw [nxtF_succ]
    unfold nxt1
    have ih := nxtF_lt b hs k
    split
    · rcases ih with h | ⟨r, h, hr⟩
      · exact .inl h
      · exact .inr ⟨r, h, by omega⟩
    · split
      · exact .inr ⟨k, rfl, by omega⟩
      · rcases ih with h | ⟨r, h, hr⟩
        · exact .inl h
        · exact .inr ⟨r, h, by omega⟩

theorem c84 (b : Bx) (hv : BV b) (hs : List Int) (hl : hs.length = 5) (hb : ∀ i, 0 ≤ at0 hs i ∧ at0 hs i ≤ 100) : Ctr Try.prog 84 [.ref 7 [.agg (gC b hs)] 0 0] (.int (nxt b hs)) := by
  refine ctr_of_wp hmix Try.func84 m84 rfl ?_
  unfold v84
  have n5 := hv.n5
  have hmo := hv.len
  simp -failIfUnchanged (disch := first | omega | (simp <;> omega) | fail) only [go_sem, simprocAttr]
  refine wp_loop' Nat (fun i => ⟨[(0, .ref 7 [.agg (gC b hs)] 0 0), (3, .int (nxtF b hs i)), (10, IS b.sh), (11, .int b.sh.length), (12, .int i)], [], [], none⟩) (fun i => i ≤ b.sh.length) (fun i => b.sh.length - i) 0 (by simp) (by simp -failIfUnchanged (disch := first | omega | (simp <;> omega) | fail) only [go_sem, simprocAttr]; simp [nxtF]) ?_
  intro i hi
  simp -failIfUnchanged (disch := first | omega | (simp <;> omega) | fail) only [go_sem, simprocAttr]
  refine wcond_dec (fun h => ?_) (fun h => ?_)
  · have hlt : i < b.sh.length := by omega
    have hs0 := hv.s0 i hlt
    have hh0 := hb i
    have hsucc := nxtF_succ b hs i
    unfold nxt1 at hsucc
    simp -failIfUnchanged (disch := first | omega | (simp <;> omega) | fail) only [go_sem, simprocAttr]
    refine WGd_bool (fun h3 => ?_) (fun h3 => ?_)
    · have h3' : at0 b.sh i ≠ 0 := of_decide_eq_false h3
      simp -failIfUnchanged (disch := first | omega | (simp <;> omega) | fail) only [go_sem, simprocAttr, h3, gC_get]
      refine wcond_dec (fun h4 => ?_) (fun h4 => ?_)
      · rw [if_pos (.inr h4)] at hsucc
        simp -failIfUnchanged (disch := first | omega | (simp <;> omega) | fail) only [go_sem, simprocAttr]
        refine ⟨i + 1, by dsimp only; omega, by dsimp only; omega, ?_⟩
        dsimp only
        rw [hsucc]
        simp -failIfUnchanged (disch := first | omega | (simp <;> omega) | fail) only [go_sem, simprocAttr]
        try simp
      · rw [if_neg (fun c => c.elim h3' h4)] at hsucc
        simp -failIfUnchanged (disch := first | omega | (simp <;> omega) | fail) only [go_sem, simprocAttr]
        refine WGd_bool (fun h5 => ?_) (fun h5 => ?_)
        · have h5' : ¬ nxtF b hs i < 0 := by simpa using h5
          obtain ⟨r, hr, hri⟩ : ∃ r : Nat, nxtF b hs i = r ∧ r < i := by
            rcases nxtF_lt b hs i with h | h
            · omega
            · exact h
          have hsr := hv.s0 r (by omega)
          have hhr := hb r
          have p1 := prod_bd hs0 hhr
          have p2 := prod_bd hsr hh0
          rw [hr] at hsucc h5 ⊢
          have e1 : w64 (at0 b.sh r * (2 * at0 hs i + 1)) = at0 b.sh r * (2 * at0 hs i + 1) := w64_id (by omega)
          have e2 : w64 (at0 b.sh i * (2 * at0 hs r + 1)) = at0 b.sh i * (2 * at0 hs r + 1) := w64_id (by omega)
          rw [Int.toNat_natCast] at hsucc
          simp -failIfUnchanged (disch := first | omega | (simp <;> omega) | fail) only [go_sem, simprocAttr, h5, gC_get]
          rw [e1, e2]
          refine wcond_dec (fun h6 => ?_) (fun h6 => ?_)
          · rw [if_pos (.inr h6)] at hsucc
            simp -failIfUnchanged (disch := first | omega | (simp <;> omega) | fail) only [go_sem, simprocAttr]
            refine ⟨i + 1, by dsimp only; omega, by dsimp only; omega, ?_⟩
            dsimp only
            rw [hsucc]
            simp -failIfUnchanged (disch := first | omega | (simp <;> omega) | fail) only [go_sem, simprocAttr]
            try simp
          · rw [if_neg (by omega)] at hsucc
            simp -failIfUnchanged (disch := first | omega | (simp <;> omega) | fail) only [go_sem, simprocAttr]
            refine ⟨i + 1, by dsimp only; omega, by dsimp only; omega, ?_⟩
            dsimp only
            rw [hsucc]
            simp -failIfUnchanged (disch := first | omega | (simp <;> omega) | fail) only [go_sem, simprocAttr]
            try simp
        · rw [if_pos (.inl (by simpa using h5))] at hsucc
          simp -failIfUnchanged (disch := first | omega | (simp <;> omega) | fail) only [go_sem, simprocAttr, h5]
          refine ⟨i + 1, by dsimp only; omega, by dsimp only; omega, ?_⟩
          dsimp only
          rw [hsucc]
          simp -failIfUnchanged (disch := first | omega | (simp <;> omega) | fail) only [go_sem, simprocAttr]
          try simp
    · rw [if_pos (.inl (of_decide_eq_true h3))] at hsucc
      simp -failIfUnchanged (disch := first | omega | (simp <;> omega) | fail) only [go_sem, simprocAttr, h3]
      refine ⟨i + 1, by dsimp only; omega, by dsimp only; omega, ?_⟩
      dsimp only
      rw [hsucc]
      simp -failIfUnchanged (disch := first | omega | (simp <;> omega) | fail) only [go_sem, simprocAttr]
      try simp
  · simp -failIfUnchanged (disch := first | omega | (simp <;> omega) | fail) only [go_sem, simprocAttr]
    have e : i = b.sh.length := by omega
    rw [e]
    rfl

end Go.Proofs.Ytbghdcleoamkiaa

/- The gauges: the program's and the document's. -/
set_option linter.unusedSimpArgs false
set_option linter.unusedVariables false
set_option linter.unnecessarySimpa false
namespace Go.Proofs.Ytbghdcleoamkiaa
open Go Go.V

theorem zeros_ints (n : Nat) : zeros [.int 0] n = (List.replicate n (0 : Int)).map .int := by
  induction n with
  | zero => rfl
  | succ n ih => simp only [zeros, List.replicate_succ, List.map_cons, ih]; rfl

theorem setAt_ints {xs : List Int} {i : Nat} {x : Int} (h : i < xs.length) : setAt (xs.map .int) i [.int x] = (xs.set i x).map .int := by
  induction xs generalizing i with
  | nil => simp at h
  | cons w l ih =>
    cases i with
    | zero => rfl
    | succ i =>
      simp only [List.map_cons, setAt, List.set_cons_succ]
      rw [ih (by simpa using h)]

theorem map_ints {xs : List Int} {hp : List (Nat × BX)} : (xs.map AV.int).map (strip hp) = xs.map .int := by
  rw [List.map_map]
  rfl

theorem bids_ints {xs : List Int} : bids (xs.map AV.int) = [] := by
  induction xs with
  | nil => rfl
  | cons w l ih => simp only [List.map_cons, bids, AV.bid, AV.bid1, ih, List.append_nil]

theorem scopes_ints {τ : AS} {xs : List Int} : scopes τ (xs.map AV.int) = True := by
  induction xs with
  | nil => rfl
  | cons w l ih => simp only [List.map_cons, scopes, inScope, ih, and_self]

theorem chunks_ints {xs : List Int} {n : Nat} (h : n = xs.length) : chunks false 1 (xs.map AV.int) 0 n = xs.map .int := by
  subst h
  apply List.ext_getElem?
  intro i
  rcases Nat.lt_or_ge i xs.length with hi | hi
  · rw [chunks_get _ _ _ _ _ _ hi]
    simp [chunk, hi]
  · rw [List.getElem?_eq_none (by rw [chunks_length]; exact hi), List.getElem?_eq_none (by simpa using hi)]

theorem ints_get {xs : List Int} {i : Nat} (h : i < xs.length) : (xs.map AV.int)[i]?.getD .und = .int (xs[i]?.getD default) := by simp [h]

attribute [go_sem] ints_get zeros_ints setAt_ints map_ints bids_ints scopes_ints

theorem c71 (b : Bx) (hv : BV b) (h : List Int) (hl : h.length = b.sh.length) (hb : ∀ i, 0 ≤ at0 h i ∧ at0 h i ≤ 100) : Ctr Try.prog 71 [MB b, IS h] (.int (nxt b h)) := by
  refine ctr_of_wp hmix Try.func71 m71 rfl ?_
  unfold v71
  have n5 := hv.n5
  have hmo := hv.len
  simp -failIfUnchanged (disch := first | omega | (simp <;> omega) | fail) only [go_sem, simprocAttr]
  refine wp_loop' Nat (fun i => ⟨[(1, IS h), (2, .ptr 2 0), (5, .int (nxtF b h i)), (6, .int i)], [(2, ⟨[IS b.sh, IS b.mo], false⟩)], [], none⟩) (fun i => i ≤ b.sh.length) (fun i => b.sh.length - i) 0 (by simp) (by simp -failIfUnchanged (disch := first | omega | (simp <;> omega) | fail) only [go_sem, simprocAttr]; simp [nxtF]) ?_
  intro i hi
  simp -failIfUnchanged (disch := first | omega | (simp <;> omega) | fail) only [go_sem, simprocAttr]
  refine wcond_dec (fun hc => ?_) (fun hc => ?_)
  · have hlt : i < b.sh.length := by omega
    have hs0 := hv.s0 i hlt
    have hh0 := hb i
    have hsucc := nxtF_succ b h i
    unfold nxt1 at hsucc
    simp -failIfUnchanged (disch := first | omega | (simp <;> omega) | fail) only [go_sem, simprocAttr]
    refine WGd_bool (fun h3 => ?_) (fun h3 => ?_)
    · have h3' : 0 < at0 b.sh i := of_decide_eq_true h3
      simp -failIfUnchanged (disch := first | omega | (simp <;> omega) | fail) only [go_sem, simprocAttr, h3]
      refine WGd_bool (fun h4 => ?_) (fun h4 => ?_)
      · have h4' : at0 h i < at0 b.mo i := of_decide_eq_true h4
        rw [if_neg (by omega)] at hsucc
        simp -failIfUnchanged (disch := first | omega | (simp <;> omega) | fail) only [go_sem, simprocAttr, h4]
        refine WGd_bool (fun h5 => ?_) (fun h5 => ?_)
        · have h5' : ¬ nxtF b h i < 0 := of_decide_eq_false h5
          obtain ⟨r, hr, hri⟩ : ∃ r : Nat, nxtF b h i = r ∧ r < i := by
            rcases nxtF_lt b h i with h | h
            · omega
            · exact h
          have hsr := hv.s0 r (by omega)
          have hhr := hb r
          have p1 := prod_bd hs0 hhr
          have p2 := prod_bd hsr hh0
          rw [hr] at hsucc h5 ⊢
          have e1 : w64 (at0 b.sh r * (2 * at0 h i + 1)) = at0 b.sh r * (2 * at0 h i + 1) := w64_id (by omega)
          have e2 : w64 (at0 b.sh i * (2 * at0 h r + 1)) = at0 b.sh i * (2 * at0 h r + 1) := w64_id (by omega)
          rw [Int.toNat_natCast] at hsucc
          have hh1 : 0 ≤ h[i]?.getD default ∧ h[i]?.getD default ≤ 100 := hh0
          have hh2 : 0 ≤ h[r]?.getD default ∧ h[r]?.getD default ≤ 100 := hhr
          have c33' := c33 (at0 b.sh r) (2 * at0 h r + 1) (at0 b.sh i) (2 * at0 h i + 1)
          rw [e1, e2] at c33'
          simp -failIfUnchanged (disch := first | omega | (simp <;> omega) | fail) only [go_sem, simprocAttr, h5]
          refine wcall c33' ?_
          simp -failIfUnchanged (disch := first | omega | (simp <;> omega) | fail) only [go_sem, simprocAttr]
          refine wcond_dec (fun h6 => ?_) (fun h6 => ?_)
          · rw [if_pos (.inr h6)] at hsucc
            simp -failIfUnchanged (disch := first | omega | (simp <;> omega) | fail) only [go_sem, simprocAttr]
            refine ⟨i + 1, by dsimp only; omega, by dsimp only; omega, ?_⟩
            dsimp only
            rw [hsucc]
            simp -failIfUnchanged (disch := first | omega | (simp <;> omega) | fail) only [go_sem, simprocAttr]
            try simp
          · rw [if_neg (by omega)] at hsucc
            simp -failIfUnchanged (disch := first | omega | (simp <;> omega) | fail) only [go_sem, simprocAttr]
            refine ⟨i + 1, by dsimp only; omega, by dsimp only; omega, ?_⟩
            dsimp only
            rw [hsucc]
            simp -failIfUnchanged (disch := first | omega | (simp <;> omega) | fail) only [go_sem, simprocAttr]
            try simp
        · rw [if_pos (.inl (of_decide_eq_true h5))] at hsucc
          simp -failIfUnchanged (disch := first | omega | (simp <;> omega) | fail) only [go_sem, simprocAttr, h5]
          refine ⟨i + 1, by dsimp only; omega, by dsimp only; omega, ?_⟩
          dsimp only
          rw [hsucc]
          simp -failIfUnchanged (disch := first | omega | (simp <;> omega) | fail) only [go_sem, simprocAttr]
          try simp
      · have h4' : ¬ at0 h i < at0 b.mo i := of_decide_eq_false h4
        rw [if_pos (.inr (by omega))] at hsucc
        simp -failIfUnchanged (disch := first | omega | (simp <;> omega) | fail) only [go_sem, simprocAttr, h4]
        refine ⟨i + 1, by dsimp only; omega, by dsimp only; omega, ?_⟩
        dsimp only
        rw [hsucc]
        simp -failIfUnchanged (disch := first | omega | (simp <;> omega) | fail) only [go_sem, simprocAttr]
        try simp
    · have h3' : ¬ 0 < at0 b.sh i := of_decide_eq_false h3
      rw [if_pos (.inl (by omega))] at hsucc
      simp -failIfUnchanged (disch := first | omega | (simp <;> omega) | fail) only [go_sem, simprocAttr, h3]
      refine ⟨i + 1, by dsimp only; omega, by dsimp only; omega, ?_⟩
      dsimp only
      rw [hsucc]
      simp -failIfUnchanged (disch := first | omega | (simp <;> omega) | fail) only [go_sem, simprocAttr]
      try simp
  · simp -failIfUnchanged (disch := first | omega | (simp <;> omega) | fail) only [go_sem, simprocAttr]
    have e : i = b.sh.length := by omega
    rw [e]
    rfl

theorem at0_has {b : Bx} (hv : BV b) (k i : Nat) : 0 ≤ at0 (hasL b k) i ∧ at0 (hasL b k) i ≤ 20 := by
  have hg := gd_has hv k
  rcases Nat.lt_or_ge i b.sh.length with h | h
  · have := hg.lo i h
    have := hv.m0 i h
    omega
  · have : at0 (hasL b k) i = 0 := by simp only [at0, List.getElem?_eq_none (show (hasL b k).length ≤ i by rw [hg.len]; exact h)]; rfl
    omega

theorem hasL_len {b : Bx} (hv : BV b) (k : Nat) : (hasL b k).length = b.sh.length := (gd_has hv k).len

/-- What a round does. -/
theorem hasL_succ {b : Bx} (hv : BV b) (k : Nat) : (nxt b (hasL b k) = -1 ∧ hasL b (k + 1) = hasL b k) ∨ ∃ r : Nat, nxt b (hasL b k) = r ∧ r < b.sh.length ∧ hasL b (k + 1) = (hasL b k).set r (at0 (hasL b k) r + 1) := by
  rcases nxt_spec hv (gd_has hv k) with ⟨e, _⟩ | ⟨r, e, hr, _⟩
  · refine .inl ⟨e, ?_⟩
    show inc _ _ = _
    rw [e, inc_neg]
  · refine .inr ⟨r, e, hr, ?_⟩
    show inc _ _ = _
    rw [e]
    unfold inc
    rw [if_neg (by omega), Int.toNat_natCast]

theorem c66 (b : Bx) (hv : BV b) (f : Nat) (hf : f ≤ 1000) : Ctr Try.prog 66 [MB b, .int f] (IS (hasL b f)) := by
  refine ctr_of_wp hmix Try.func66 m66 rfl ?_
  unfold v66
  have n5 := hv.n5
  simp -failIfUnchanged (disch := first | omega | (simp <;> omega) | fail) only [go_sem, simprocAttr]
  refine wp_loop' Nat (fun i => ⟨[(1, .int f), (2, .ptr 2 0), (5, .bsl 11 0 1 b.sh.length false), (6, .int i)], [(11, ⟨(hasL b i).map .int, false⟩), (2, ⟨[IS b.sh, IS b.mo], false⟩)], [], none⟩) (fun i => i ≤ f) (fun i => f - i) 0 (by simp) (by simp -failIfUnchanged (disch := first | omega | (simp <;> omega) | fail) only [go_sem, simprocAttr]; try simp [hasL]) ?_
  intro i hi
  have hi : i ≤ f := hi
  simp -failIfUnchanged (disch := first | omega | (simp <;> omega) | fail) only [go_sem, simprocAttr]
  refine wcond_dec (fun hc => ?_) (fun hc => ?_)
  · have hl := hasL_len hv i
    have hb := fun j => at0_has hv i j
    have hc' := c71 b hv (hasL b i) hl (fun j => by have := hb j; omega)
    have hle : (b.sh.length ≤ (hasL b i).length) = True := eq_true (by omega)
    simp -failIfUnchanged (disch := first | omega | (simp <;> omega) | fail) only [go_sem, simprocAttr, chunks_ints, hle]
    refine wcallb hc' rfl ?_
    rcases hasL_succ hv i with ⟨e, es⟩ | ⟨r, e, hr, es⟩
    · rw [e]
      simp -failIfUnchanged (disch := first | omega | (simp <;> omega) | fail) only [go_sem, simprocAttr]
      refine ⟨i + 1, by dsimp only; omega, by dsimp only; omega, ?_⟩
      dsimp only
      rw [es]
      simp -failIfUnchanged (disch := first | omega | (simp <;> omega) | fail) only [go_sem, simprocAttr]
      try simp
    · have hbr : 0 ≤ (hasL b i)[r]?.getD default ∧ (hasL b i)[r]?.getD default ≤ 20 := hb r
      rw [e]
      simp -failIfUnchanged (disch := first | omega | (simp <;> omega) | fail) only [go_sem, simprocAttr]
      refine ⟨i + 1, by dsimp only; omega, by dsimp only; omega, ?_⟩
      dsimp only
      rw [es]
      simp -failIfUnchanged (disch := first | omega | (simp <;> omega) | fail) only [go_sem, simprocAttr]
      try simp
  · simp -failIfUnchanged (disch := first | omega | (simp <;> omega) | fail) only [go_sem, simprocAttr]
    have e : i = f := by omega
    have hl := hasL_len hv f
    subst e
    have hle : (b.sh.length ≤ (hasL b i).length) = True := eq_true (by omega)
    simp -failIfUnchanged (disch := first | omega | (simp <;> omega) | fail) only [go_sem, simprocAttr, chunks_ints, hle]

/-- The gates' numbers: five of them, those of no quarter 0. -/
theorem at0_app (h : List Int) (k i : Nat) : at0 (h ++ List.replicate k 0) i = at0 h i := by
  unfold at0
  rcases Nat.lt_or_ge i h.length with hl | hl
  · rw [List.getElem?_append_left hl]
  · rw [List.getElem?_append_right hl, List.getElem?_eq_none (l := h) hl, List.getElem?_replicate]
    split <;> rfl

theorem nxt_app (b : Bx) (h : List Int) (k : Nat) : nxt b (h ++ List.replicate k 0) = nxt b h := by
  unfold nxt nxtF
  congr 1
  funext x i
  unfold nxt1
  rw [at0_app, at0_app]

theorem c64 (b : Bx) (hv : BV b) (f : Nat) (hf : f ≤ 1000) : Ctr Try.prog 64 [MB b, .int f] (IS (hasL b f)) := by
  refine ctr_of_wp hmix Try.func64 m64 rfl ?_
  unfold v64
  have n5 := hv.n5
  simp -failIfUnchanged (disch := first | omega | (simp <;> omega) | fail) only [go_sem, simprocAttr]
  refine wp_range' ?_
  simp -failIfUnchanged (disch := first | omega | (simp <;> omega) | fail) only [go_sem, simprocAttr]
  refine wrange fun l T hT => ?_
  refine csem_of_wp hmix Try.func69 m69 rfl rfl ?_
  unfold v69
  simp -failIfUnchanged (disch := first | omega | (simp <;> omega) | fail) only [go_sem, simprocAttr]
  refine wp_loopX Nat (fun k => ⟨[(1, .yld l), (2, .ptr 1002 0), (4, .int k)],
    [(1002, ⟨gC b (hasL b k ++ List.replicate (5 - b.sh.length) 0), false⟩), (11, ⟨(hasL b k).map .int, false⟩), (5, ⟨[.bsl 11 0 1 b.sh.length false], false⟩), (3, ⟨[.int f], false⟩)], [], none⟩)
    (fun k => k ≤ f) (fun k => f - k) 0 (by simp) ?_ (fun x => by simp -failIfUnchanged (disch := first | omega | (simp <;> omega) | fail) only [go_sem, simprocAttr]) ?_
  · simp -failIfUnchanged (disch := first | omega | (simp <;> omega) | fail) only [go_sem, simprocAttr]
    refine ⟨?_, rfl⟩
    simp only [hasL, List.replicate_append_replicate, show b.sh.length + (5 - b.sh.length) = 5 by omega]
    rfl
  intro k hk
  have hk : k ≤ f := hk
  have hl := hasL_len hv k
  have hle : (b.sh.length ≤ (hasL b k).length) = True := eq_true (by omega)
  obtain ⟨hs, hse⟩ : ∃ hs, hs = hasL b k ++ List.replicate (5 - b.sh.length) 0 := ⟨_, rfl⟩
  have hsl : hs.length = 5 := by rw [hse]; simp; omega
  have hsa : ∀ i, at0 hs i = at0 (hasL b k) i := fun i => by rw [hse, at0_app]
  have hsn : nxt b hs = nxt b (hasL b k) := by rw [hse, nxt_app]
  have c84' := c84 b hv hs hsl fun i => by have := at0_has hv k i; rw [hsa]; omega
  rw [hsn] at c84'
  rw [← hse]
  simp -failIfUnchanged (disch := first | omega | (simp <;> omega) | fail) only [go_sem, simprocAttr, hsl]
  refine wcallb c84' rfl ?_
  simp -failIfUnchanged (disch := first | omega | (simp <;> omega) | fail) only [go_sem, simprocAttr]
  refine wyield (hT _ _ _ _ _ rfl ?_)
  simp -failIfUnchanged (disch := first | omega | (simp <;> omega) | fail) only [go_sem, simprocAttr]
  refine wcond_dec (fun h1 => ?_) (fun h1 => ?_)
  · simp -failIfUnchanged (disch := first | omega | (simp <;> omega) | fail) only [go_sem, simprocAttr]
    have e : k = f := by omega
    subst e
    simp -failIfUnchanged (disch := first | omega | (simp <;> omega) | fail) only [go_sem, simprocAttr, hle, chunks_ints]
  · rcases hasL_succ hv k with ⟨e, es⟩ | ⟨r, e, hr, es⟩
    · rw [e]
      simp -failIfUnchanged (disch := first | omega | (simp <;> omega) | fail) only [go_sem, simprocAttr]
      refine lpx_norm ⟨k + 1, by omega, by omega, ?_, by simp -failIfUnchanged (disch := first | omega | (simp <;> omega) | fail) only [go_sem, simprocAttr]⟩
      rw [es, ← hse]
      simp -failIfUnchanged (disch := first | omega | (simp <;> omega) | fail) only [go_sem, simprocAttr]
      try simp
    · have hbr : 0 ≤ (hasL b k)[r]?.getD default ∧ (hasL b k)[r]?.getD default ≤ 20 := at0_has hv k r
      have hbr2 : 0 ≤ at0 hs r ∧ at0 hs r ≤ 20 := by rw [hsa]; exact hbr
      have hset : hs.set r (at0 hs r + 1) = (hasL b k).set r (at0 (hasL b k) r + 1) ++ List.replicate (5 - b.sh.length) 0 := by
        rw [hsa, hse, List.set_append_left _ _ (by omega)]
      rw [e]
      simp -failIfUnchanged (disch := first | omega | (simp <;> omega) | fail) only [go_sem, simprocAttr, gC_get, gC_set]
      refine lpx_norm ⟨k + 1, by omega, by omega, ?_, by simp -failIfUnchanged (disch := first | omega | (simp <;> omega) | fail) only [go_sem, simprocAttr]⟩
      rw [es, ← hset]
      simp -failIfUnchanged (disch := first | omega | (simp <;> omega) | fail) only [go_sem, simprocAttr]
      try simp

end Go.Proofs.Ytbghdcleoamkiaa

/- Check, Copy, sums; Gauges, Over, Turn. -/
set_option linter.unusedSimpArgs false
set_option linter.unusedVariables false
set_option linter.unnecessarySimpa false
namespace Go.Proofs.Ytbghdcleoamkiaa
open Go Go.V

def checkB (b : Bx) : Bool := decide ((b.sh.length : Int) ≤ 5) && (decide ((b.mo.length : Int) = b.sh.length) && (areB 20 b.sh && areB 20 b.mo))
def farB (b : Bx) : Bool := decide (40 < (b.sh.length : Int)) || decide (40 < (b.mo.length : Int))

theorem within_iff {n lo hi : Int} : within n lo hi = true ↔ lo ≤ n ∧ n ≤ hi := by simp [within]

theorem ag24 : aggOf Try.prog 24 = some true := by kernel_rfl
theorem sz24 : szOf Try.prog 24 = some 2 := by kernel_rfl
theorem ag3 : aggOf Try.prog 3 = some false := by kernel_rfl
theorem ag28 : aggOf Try.prog 28 = some false := by kernel_rfl

theorem out1_eq {P : Program} {fr : List (Nat × AV)} {hp : List (Nat × BX)} {tk : List (Nat × Nat)} {pd : Option Ex} {t : Nat} {ty : TypeId} : out1 P ⟨fr, hp, tk, pd⟩ (.cell t ty) = (match get fr t with
    | .ptr b 0 => match getB hp b with
      | some ⟨cells, true⟩ => match aggOf P ty with
        | some true => if szOf P ty = some cells.length then .agg cells else .und
        | some false => match cells with
          | [x] => x
          | _ => .und
        | none => .und
      | _ => .und
    | _ => .und) := rfl
attribute [go_sem] ag24 sz24 ag3 ag28 out1_eq

theorem areB_iff {l : List Int} {m : Int} : areB m l = true ↔ ∀ i, i < l.length → 0 ≤ at0 l i ∧ at0 l i ≤ m := by
  simp only [areB, Bool.not_eq_true', List.any_eq_false]
  constructor
  · intro h i hi
    have := h _ (List.getElem_mem hi)
    rw [at0_lt hi]
    exact within_iff.1 (by simpa using this)
  · intro h x hx
    obtain ⟨i, hi, rfl⟩ := List.getElem_of_mem hx
    have := h i hi
    rw [at0_lt hi] at this
    simp [within_iff.2 this]

theorem val_of_check {b : Bx} (h : checkB b = true) : BV b := by
  simp only [checkB, Bool.and_eq_true, decide_eq_true_eq] at h
  obtain ⟨h1, h2, h3, h4⟩ := h
  exact ⟨by omega, by omega, areB_iff.1 h3, fun i hi => areB_iff.1 h4 i (by omega)⟩

theorem check_of_val {b : Bx} (h : BV b) : checkB b = true := by
  simp only [checkB, Bool.and_eq_true, decide_eq_true_eq]
  have := h.n5
  have h2 := h.len
  exact ⟨by omega, by omega, areB_iff.2 h.s0, areB_iff.2 fun i hi => h.m0 i (by omega)⟩

def errM (b : Bx) : Int := if checkB b then 0 else 70

theorem c18 (b : Bx) : Ctr Try.prog 18 [MB b] (.int (errM b)) := by
  refine ctr_of_wp hmix Try.func18 m18 rfl ?_
  unfold v18 errM checkB
  simp -failIfUnchanged (disch := first | omega | (simp <;> omega) | fail) only [go_sem, simprocAttr]
  refine WGd_bool (fun h1 => ?_) (fun h1 => ?_)
  · have h1' : (b.sh.length : Int) ≤ 5 := by simpa using h1
    simp -failIfUnchanged (disch := first | omega | (simp <;> omega) | fail) only [go_sem, simprocAttr, h1]
    refine WGd_bool (fun h2 => ?_) (fun h2 => ?_)
    · have h2' : (b.mo.length : Int) = b.sh.length := by simpa using h2
      have e1 : decide ((b.sh.length : Int) ≤ 5) = true := by simpa using h1'
      have e2 : decide ((b.mo.length : Int) = b.sh.length) = true := by simpa using h2'
      simp -failIfUnchanged (disch := first | omega | (simp <;> omega) | fail) only [go_sem, simprocAttr, h2]
      refine wcall (c60 20 b.sh (by omega)) ?_
      rw [e1, e2]
      cases h3 : areB 20 b.sh with
      | false => simp -failIfUnchanged (disch := first | omega | (simp <;> omega) | fail) only [go_sem, simprocAttr]
      | true =>
        simp -failIfUnchanged (disch := first | omega | (simp <;> omega) | fail) only [go_sem, simprocAttr]
        refine wcall (c60 20 b.mo (by omega)) ?_
        cases h4 : areB 20 b.mo with
        | false => simp -failIfUnchanged (disch := first | omega | (simp <;> omega) | fail) only [go_sem, simprocAttr]
        | true => simp -failIfUnchanged (disch := first | omega | (simp <;> omega) | fail) only [go_sem, simprocAttr]
    · have e2 : decide ((b.mo.length : Int) = b.sh.length) = false := by simpa using h2
      simp -failIfUnchanged (disch := first | omega | (simp <;> omega) | fail) only [go_sem, simprocAttr, h2]
      simp [e2]
  · have e1 : decide ((b.sh.length : Int) ≤ 5) = false := by simpa using h1
    simp -failIfUnchanged (disch := first | omega | (simp <;> omega) | fail) only [go_sem, simprocAttr, h1]
    simp [e1]

theorem areB_false {l : List Int} {i : Nat} (hi : i < l.length) (h : within (l[i]?.getD default) 0 20 = false) : areB 20 l = false := by
  simp only [areB, Bool.not_eq_false', List.any_eq_true]
  exact ⟨l[i]?.getD default, mem_getD hi, by rw [h]; rfl⟩

theorem c19 (b : Bx) : Ctr Try.prog 19 [MB b] (.int (errM b)) := by
  refine ctr_of_wp hmix Try.func19 m19 rfl ?_
  unfold v19 errM checkB
  simp -failIfUnchanged (disch := first | omega | (simp <;> omega) | fail) only [go_sem, simprocAttr]
  refine WGd_bool (fun h1 => ?_) (fun h1 => ?_)
  · have h1' : (b.sh.length : Int) ≤ 5 := by simpa using h1
    simp -failIfUnchanged (disch := first | omega | (simp <;> omega) | fail) only [go_sem, simprocAttr, h1]
    refine wcond_dec (fun h2 => ?_) (fun h2 => ?_)
    · have e2 : decide ((b.mo.length : Int) = b.sh.length) = false := by simpa using h2
      simp -failIfUnchanged (disch := first | omega | (simp <;> omega) | fail) only [go_sem, simprocAttr]
      simp [e2]
    · have h2' : (b.mo.length : Int) = b.sh.length := by simpa using h2
      have e1 : decide ((b.sh.length : Int) ≤ 5) = true := by simpa using h1'
      have e2 : decide ((b.mo.length : Int) = b.sh.length) = true := by simpa using h2'
      rw [e1, e2]
      simp -failIfUnchanged (disch := first | omega | (simp <;> omega) | fail) only [go_sem, simprocAttr]
      refine wp_loop' Nat (fun i => ⟨[(1, .ptr 1 0), (3, .int i)], [(1, ⟨[IS b.sh, IS b.mo], false⟩)], [], none⟩)
        (fun i => i ≤ b.sh.length ∧ (∀ x ∈ b.sh.take i, within x 0 20 = true) ∧ ∀ x ∈ b.mo.take i, within x 0 20 = true) (fun i => b.sh.length - i) 0 (by simp) (by simp -failIfUnchanged (disch := first | omega | (simp <;> omega) | fail) only [go_sem, simprocAttr]; try simp) ?_
      rintro i ⟨hi, g1, g2⟩
      simp -failIfUnchanged (disch := first | omega | (simp <;> omega) | fail) only [go_sem, simprocAttr]
      refine wcond_dec (fun hc => ?_) (fun hc => ?_)
      · have hlt : i < b.sh.length := by omega
        have hlt2 : i < b.mo.length := by omega
        simp -failIfUnchanged (disch := first | omega | (simp <;> omega) | fail) only [go_sem, simprocAttr]
        refine wcall (c61 _ _ _) ?_
        cases h3 : within (b.sh[i]?.getD default) 0 20 with
        | false =>
          simp -failIfUnchanged (disch := first | omega | (simp <;> omega) | fail) only [go_sem, simprocAttr]
          rw [areB_false hlt h3]
          rfl
        | true =>
          simp -failIfUnchanged (disch := first | omega | (simp <;> omega) | fail) only [go_sem, simprocAttr]
          refine wcall (c61 _ _ _) ?_
          cases h4 : within (b.mo[i]?.getD default) 0 20 with
          | false =>
            simp -failIfUnchanged (disch := first | omega | (simp <;> omega) | fail) only [go_sem, simprocAttr]
            rw [areB_false hlt2 h4]
            simp
          | true =>
            simp -failIfUnchanged (disch := first | omega | (simp <;> omega) | fail) only [go_sem, simprocAttr]
            refine ⟨i + 1, ⟨by omega, ?_, ?_⟩, by dsimp only; omega, ?_⟩
            · have := take_succ_all (p := fun x => !within x 0 20) hlt (fun x hx => by simp [g1 x hx]) (by simp only [h3]; rfl)
              intro x hx; simpa using this x hx
            · have := take_succ_all (p := fun x => !within x 0 20) hlt2 (fun x hx => by simp [g2 x hx]) (by simp only [h4]; rfl)
              intro x hx; simpa using this x hx
            · simp -failIfUnchanged (disch := first | omega | (simp <;> omega) | fail) only [go_sem, simprocAttr]
              try simp
      · simp -failIfUnchanged (disch := first | omega | (simp <;> omega) | fail) only [go_sem, simprocAttr]
        have e : i = b.sh.length := by omega
        rw [e, List.take_length] at g1
        rw [show i = b.mo.length by omega, List.take_length] at g2
        have a1 : areB 20 b.sh = true := by
          simp only [areB, Bool.not_eq_true', List.any_eq_false]
          intro x hx; simp [g1 x hx]
        have a2 : areB 20 b.mo = true := by
          simp only [areB, Bool.not_eq_true', List.any_eq_false]
          intro x hx; simp [g2 x hx]
        rw [a1, a2]
        rfl
  · have e1 : decide ((b.sh.length : Int) ≤ 5) = false := by simpa using h1
    simp -failIfUnchanged (disch := first | omega | (simp <;> omega) | fail) only [go_sem, simprocAttr, h1]
    simp [e1]

def askB (b : Bx) (is : Bool) : Int := if checkB b then if is then 0 else 1 else 70

theorem c62 (b : Bx) (is : Bool) : Ctr Try.prog 62 [MB b, .bool is] (.int (askB b is)) := by
  refine ctr_of_wp hmix Try.func62 m62 rfl ?_
  unfold v62 askB
  simp -failIfUnchanged (disch := first | omega | (simp <;> omega) | fail) only [go_sem, simprocAttr]
  refine wcall (c18 b) ?_
  unfold errM
  cases checkB b with
  | false => simp -failIfUnchanged (disch := first | omega | (simp <;> omega) | fail) only [go_sem, simprocAttr]; try simp
  | true =>
    cases is with
    | false => simp -failIfUnchanged (disch := first | omega | (simp <;> omega) | fail) only [go_sem, simprocAttr]; try simp
    | true => simp -failIfUnchanged (disch := first | omega | (simp <;> omega) | fail) only [go_sem, simprocAttr]; try simp

theorem c65 (b : Bx) (is : Bool) : Ctr Try.prog 65 [MB b, .bool is] (.int (askB b is)) := by
  refine ctr_of_wp hmix Try.func65 m65 rfl ?_
  unfold v65 askB
  simp -failIfUnchanged (disch := first | omega | (simp <;> omega) | fail) only [go_sem, simprocAttr]
  refine wcall (c19 b) ?_
  unfold errM
  cases checkB b with
  | false => simp -failIfUnchanged (disch := first | omega | (simp <;> omega) | fail) only [go_sem, simprocAttr]; try simp
  | true =>
    cases is with
    | false => simp -failIfUnchanged (disch := first | omega | (simp <;> omega) | fail) only [go_sem, simprocAttr]; try simp
    | true => simp -failIfUnchanged (disch := first | omega | (simp <;> omega) | fail) only [go_sem, simprocAttr]; try simp

theorem c15 (b : Bx) : Ctr Try.prog 15 [MB b] (.bool (farB b)) := by
  refine ctr_of_wp hmix Try.func15 m15 rfl ?_
  unfold v15 farB
  simp -failIfUnchanged (disch := first | omega | (simp <;> omega) | fail) only [go_sem, simprocAttr]
  refine WGd_bool (fun h1 => ?_) (fun h1 => ?_)
  · simp -failIfUnchanged (disch := first | omega | (simp <;> omega) | fail) only [go_sem, simprocAttr, h1]
  · simp -failIfUnchanged (disch := first | omega | (simp <;> omega) | fail) only [go_sem, simprocAttr, h1]

theorem far_of_val {b : Bx} (hv : BV b) : farB b = false := by
  have := hv.n5
  have := hv.len
  simp only [farB, Bool.or_eq_false_iff, decide_eq_false_iff_not]
  omega

theorem c28 (b : Bx) (n : Int) : Ctr Try.prog 28 [MB b, .int n] (.bool (checkB b && within n 0 40)) := by
  refine ctr_of_wp hmix Try.func28 m28 rfl ?_
  unfold v28
  simp -failIfUnchanged (disch := first | omega | (simp <;> omega) | fail) only [go_sem, simprocAttr]
  refine wcall (c15 b) ?_
  cases hf : farB b with
  | true =>
    have : checkB b = false := by
      cases hc : checkB b with
      | false => rfl
      | true => rw [far_of_val (val_of_check hc)] at hf; exact hf.symm
    simp -failIfUnchanged (disch := first | omega | (simp <;> omega) | fail) only [go_sem, simprocAttr, this]
  | false =>
    simp -failIfUnchanged (disch := first | omega | (simp <;> omega) | fail) only [go_sem, simprocAttr]
    refine wcall (c19 b) ?_
    unfold errM
    cases checkB b with
    | false =>
      simp -failIfUnchanged (disch := first | omega | (simp <;> omega) | fail) only [go_sem, simprocAttr]
      try simp
    | true =>
      simp -failIfUnchanged (disch := first | omega | (simp <;> omega) | fail) only [go_sem, simprocAttr]
      refine wcall (c58 n) ?_
      simp -failIfUnchanged (disch := first | omega | (simp <;> omega) | fail) only [go_sem, simprocAttr]

theorem c17 (b : Bx) (h1 : b.sh.length < 4294967296) (h2 : b.mo.length < 4294967296) : Ctr Try.prog 17 [MB b] (MB b) := by
  refine ctr_of_wp hmix Try.func17 m17 rfl ?_
  unfold v17
  simp -failIfUnchanged (disch := first | omega | (simp <;> omega) | fail) only [go_sem, simprocAttr]

theorem c27 (a b : Bx) (h1 : a.sh.length < 4294967296) (h2 : a.mo.length < 4294967296) : Ctr Try.prog 27 [MB a, MB b] (.bool (decide (a.sh = b.sh) && decide (a.mo = b.mo))) := by
  refine ctr_of_wp hmix Try.func27 m27 rfl ?_
  unfold v27
  simp -failIfUnchanged (disch := first | omega | (simp <;> omega) | fail) only [go_sem, simprocAttr]
  refine wcall (c26 a.sh b.sh h1) ?_
  cases h : decide (a.sh = b.sh) with
  | false => simp -failIfUnchanged (disch := first | omega | (simp <;> omega) | fail) only [go_sem, simprocAttr]
  | true =>
    simp -failIfUnchanged (disch := first | omega | (simp <;> omega) | fail) only [go_sem, simprocAttr]
    refine wcall (c26 a.mo b.mo h2) ?_
    simp -failIfUnchanged (disch := first | omega | (simp <;> omega) | fail) only [go_sem, simprocAttr]

/-- Sums of small numbers. -/
theorem sum_take_bd {l : List Int} (hl : l.length ≤ 100) (hb : ∀ x ∈ l, -1000 ≤ x ∧ x ≤ 1000) : ∀ i, i ≤ l.length → -1000 * (i : Int) ≤ sumI (l.take i) ∧ sumI (l.take i) ≤ 1000 * i := by
  intro i hi
  induction i with
  | zero => simp [sumI_nil]
  | succ i ih =>
    rw [List.take_add_one, List.getElem?_eq_getElem (by omega), sumI_app]
    have := hb _ (List.getElem_mem (l := l) (n := i) (by omega))
    have := ih (by omega)
    simp only [Option.toList_some, sumI_cons, sumI_nil]
    omega

theorem sum_take_succ {l : List Int} {i : Nat} (hi : i < l.length) : sumI (l.take (i + 1)) = sumI (l.take i) + l[i]?.getD default := by
  rw [List.take_add_one, List.getElem?_eq_getElem hi, sumI_app]
  simp only [Option.toList_some, sumI_cons, sumI_nil, Option.getD_some]
  omega

theorem c31 (l : List Int) (hl : l.length ≤ 100) (hb : ∀ x ∈ l, -1000 ≤ x ∧ x ≤ 1000) : Ctr Try.prog 31 [IS l] (.int (sumI l)) := by
  refine ctr_of_wp hmix Try.func31 m31 rfl ?_
  unfold v31 IS
  simp -failIfUnchanged (disch := first | omega | (simp <;> omega) | fail) only [go_sem, simprocAttr]
  refine wp_loop' Nat (fun i => ⟨[(0, IS l), (3, .int (sumI (l.take i))), (4, .int i)], [], [], none⟩) (fun i => i ≤ l.length) (fun i => l.length - i) 0 (by simp) (by unfold IS; simp -failIfUnchanged (disch := first | omega | (simp <;> omega) | fail) only [go_sem, simprocAttr]; try rfl) ?_
  intro i hi
  have hi : i ≤ l.length := hi
  unfold IS
  simp -failIfUnchanged (disch := first | omega | (simp <;> omega) | fail) only [go_sem, simprocAttr]
  refine wcond_dec (fun h => ?_) (fun h => ?_)
  · have hlt : i < l.length := by omega
    have s1 := sum_take_bd hl hb i hi
    have s2 := hb _ (mem_getD hlt)
    simp -failIfUnchanged (disch := first | omega | (simp <;> omega) | fail) only [go_sem, simprocAttr]
    refine ⟨i + 1, by dsimp only; omega, by dsimp only; omega, ?_⟩
    dsimp only
    rw [sum_take_succ hlt]
    simp -failIfUnchanged (disch := first | omega | (simp <;> omega) | fail) only [go_sem, simprocAttr]
    try simp
  · simp -failIfUnchanged (disch := first | omega | (simp <;> omega) | fail) only [go_sem, simprocAttr]
    have e : i = l.length := by omega
    rw [e, List.take_length]

theorem c67 (l : List Int) (hl : l.length ≤ 100) (hb : ∀ x ∈ l, -1000 ≤ x ∧ x ≤ 1000) : Ctr Try.prog 67 [IS l] (.int (sumI l)) := by
  refine ctr_of_wp hmix Try.func67 m67 rfl ?_
  unfold v67 IS
  simp -failIfUnchanged (disch := first | omega | (simp <;> omega) | fail) only [go_sem, simprocAttr]
  refine wp_loop' Nat (fun i => ⟨[(3, .int (sumI (l.take i))), (6, IS l), (7, .int l.length), (8, .int i)], [], [], none⟩) (fun i => i ≤ l.length) (fun i => l.length - i) 0 (by simp) (by unfold IS; simp -failIfUnchanged (disch := first | omega | (simp <;> omega) | fail) only [go_sem, simprocAttr]; try rfl) ?_
  intro i hi
  have hi : i ≤ l.length := hi
  unfold IS
  simp -failIfUnchanged (disch := first | omega | (simp <;> omega) | fail) only [go_sem, simprocAttr]
  refine wcond_dec (fun h => ?_) (fun h => ?_)
  · have hlt : i < l.length := by omega
    have s1 := sum_take_bd hl hb i hi
    have s2 := hb _ (mem_getD hlt)
    simp -failIfUnchanged (disch := first | omega | (simp <;> omega) | fail) only [go_sem, simprocAttr]
    refine ⟨i + 1, by dsimp only; omega, by dsimp only; omega, ?_⟩
    dsimp only
    rw [sum_take_succ hlt]
    simp -failIfUnchanged (disch := first | omega | (simp <;> omega) | fail) only [go_sem, simprocAttr]
    try simp
  · simp -failIfUnchanged (disch := first | omega | (simp <;> omega) | fail) only [go_sem, simprocAttr]
    have e : i = l.length := by omega
    rw [e, List.take_length]

/-- The sum of what all quarters have. -/
theorem has_mem {b : Bx} (hv : BV b) (k : Nat) : (hasL b k).length ≤ 100 ∧ ∀ x ∈ hasL b k, -1000 ≤ x ∧ x ≤ 1000 := by
  have hl := hasL_len hv k
  have := hv.n5
  refine ⟨by omega, fun x hx => ?_⟩
  obtain ⟨i, hi, rfl⟩ := List.getElem_of_mem hx
  have := at0_has hv k i
  rw [at0_lt hi] at this
  omega

/-- Gauges, Over and Turn as both say. -/
def gauR (b : Bx) (f : Int) : AV := let e := askB b (within f 0 40); .tup [IS (if e = 0 then hasL b f.toNat else []), .int e]
def ovrR (b : Bx) (f : Int) : AV := let e := askB b (within f 0 40); .tup [.int (if e = 0 then f - sumI (hasL b f.toNat) else 0), .int e]
def trnR (b : Bx) (g : Int) : AV := let e := askB b (within g 0 39); if e = 0 then (if 0 ≤ nxt b (hasL b g.toNat) then .tup [.int (nxt b (hasL b g.toNat)), .int 0] else .tup [.int 0, .int 3]) else .tup [.int 0, .int e]

theorem askB_0 {b : Bx} {is : Bool} : askB b is = 0 ↔ checkB b = true ∧ is = true := by
  unfold askB
  cases checkB b <;> cases is <;> simp

theorem c20 (b : Bx) (f : Int) : Ctr Try.prog 20 [MB b, .int f] (gauR b f) := by
  refine ctr_of_wp hmix Try.func20 m20 rfl ?_
  unfold v20 gauR
  simp -failIfUnchanged (disch := first | omega | (simp <;> omega) | fail) only [go_sem, simprocAttr]
  refine wcall (c63 f) ?_
  simp -failIfUnchanged (disch := first | omega | (simp <;> omega) | fail) only [go_sem, simprocAttr]
  refine wcall (c62 b _) ?_
  simp -failIfUnchanged (disch := first | omega | (simp <;> omega) | fail) only [go_sem, simprocAttr]
  refine wcond_dec (fun h => ?_) (fun h => ?_)
  · simp -failIfUnchanged (disch := first | omega | (simp <;> omega) | fail) only [go_sem, simprocAttr]
    simp [h]
  · have h' : askB b (within f 0 40) = 0 := by simpa using h
    obtain ⟨h1, h2⟩ := askB_0.1 h'
    rw [within_iff] at h2
    obtain ⟨n, rfl⟩ : ∃ n : Nat, f = n := ⟨f.toNat, by omega⟩
    simp -failIfUnchanged (disch := first | omega | (simp <;> omega) | fail) only [go_sem, simprocAttr]
    refine wcall (c64 b (val_of_check h1) n (by omega)) ?_
    simp -failIfUnchanged (disch := first | omega | (simp <;> omega) | fail) only [go_sem, simprocAttr]
    simp [h']

theorem c21 (b : Bx) (f : Int) : Ctr Try.prog 21 [MB b, .int f] (gauR b f) := by
  refine ctr_of_wp hmix Try.func21 m21 rfl ?_
  unfold v21 gauR
  simp -failIfUnchanged (disch := first | omega | (simp <;> omega) | fail) only [go_sem, simprocAttr]
  refine wcall (c58 f) ?_
  simp -failIfUnchanged (disch := first | omega | (simp <;> omega) | fail) only [go_sem, simprocAttr]
  refine wcall (c65 b _) ?_
  simp -failIfUnchanged (disch := first | omega | (simp <;> omega) | fail) only [go_sem, simprocAttr]
  refine wcond_dec (fun h => ?_) (fun h => ?_)
  · simp -failIfUnchanged (disch := first | omega | (simp <;> omega) | fail) only [go_sem, simprocAttr]
    simp [h]
  · have h' : askB b (within f 0 40) = 0 := by simpa using h
    obtain ⟨h1, h2⟩ := askB_0.1 h'
    rw [within_iff] at h2
    obtain ⟨n, rfl⟩ : ∃ n : Nat, f = n := ⟨f.toNat, by omega⟩
    simp -failIfUnchanged (disch := first | omega | (simp <;> omega) | fail) only [go_sem, simprocAttr]
    refine wcall (c66 b (val_of_check h1) n (by omega)) ?_
    simp -failIfUnchanged (disch := first | omega | (simp <;> omega) | fail) only [go_sem, simprocAttr]
    simp [h']

theorem c22 (b : Bx) (f : Int) : Ctr Try.prog 22 [MB b, .int f] (ovrR b f) := by
  refine ctr_of_wp hmix Try.func22 m22 rfl ?_
  unfold v22 ovrR
  simp -failIfUnchanged (disch := first | omega | (simp <;> omega) | fail) only [go_sem, simprocAttr]
  have c20' := c20 b f
  unfold gauR at c20'
  by_cases h : askB b (within f 0 40) = 0
  · obtain ⟨h1, h2⟩ := askB_0.1 h
    rw [within_iff] at h2
    have hv := val_of_check h1
    obtain ⟨n, rfl⟩ : ∃ n : Nat, f = n := ⟨f.toNat, by omega⟩
    obtain ⟨k1, k2⟩ := has_mem hv n
    have hs := sum_has hv n
    simp only [h, if_true, Int.toNat_natCast] at c20' ⊢
    refine wcall c20' ?_
    simp -failIfUnchanged (disch := first | omega | (simp <;> omega) | fail) only [go_sem, simprocAttr]
    refine wcall (c67 _ k1 k2) ?_
    simp -failIfUnchanged (disch := first | omega | (simp <;> omega) | fail) only [go_sem, simprocAttr]
  · have e : decide (askB b (within f 0 40) = 0) = false := by simpa using h
    simp only [h, if_false] at c20' ⊢
    refine wcall c20' ?_
    simp -failIfUnchanged (disch := first | omega | (simp <;> omega) | fail) only [go_sem, simprocAttr, e, h, not_false_eq_true]

theorem c23 (b : Bx) (f : Int) : Ctr Try.prog 23 [MB b, .int f] (ovrR b f) := by
  refine ctr_of_wp hmix Try.func23 m23 rfl ?_
  unfold v23 ovrR
  simp -failIfUnchanged (disch := first | omega | (simp <;> omega) | fail) only [go_sem, simprocAttr]
  refine wcall (c58 f) ?_
  simp -failIfUnchanged (disch := first | omega | (simp <;> omega) | fail) only [go_sem, simprocAttr]
  refine wcall (c65 b _) ?_
  simp -failIfUnchanged (disch := first | omega | (simp <;> omega) | fail) only [go_sem, simprocAttr]
  refine wcond_dec (fun h => ?_) (fun h => ?_)
  · simp -failIfUnchanged (disch := first | omega | (simp <;> omega) | fail) only [go_sem, simprocAttr]
    simp [h]
  · have h' : askB b (within f 0 40) = 0 := by simpa using h
    obtain ⟨h1, h2⟩ := askB_0.1 h'
    rw [within_iff] at h2
    have hv := val_of_check h1
    obtain ⟨n, rfl⟩ : ∃ n : Nat, f = n := ⟨f.toNat, by omega⟩
    obtain ⟨k1, k2⟩ := has_mem hv n
    have hs := sum_has hv n
    simp -failIfUnchanged (disch := first | omega | (simp <;> omega) | fail) only [go_sem, simprocAttr]
    refine wcall (c66 b hv n (by omega)) ?_
    simp -failIfUnchanged (disch := first | omega | (simp <;> omega) | fail) only [go_sem, simprocAttr]
    refine wcall (c31 _ k1 k2) ?_
    simp -failIfUnchanged (disch := first | omega | (simp <;> omega) | fail) only [go_sem, simprocAttr]
    simp [h']

theorem c25 (b : Bx) (f : Int) : Ctr Try.prog 25 [MB b, .int f] (trnR b f) := by
  refine ctr_of_wp hmix Try.func25 m25 rfl ?_
  unfold v25 trnR
  simp -failIfUnchanged (disch := first | omega | (simp <;> omega) | fail) only [go_sem, simprocAttr]
  refine wcall (c70 f) ?_
  simp -failIfUnchanged (disch := first | omega | (simp <;> omega) | fail) only [go_sem, simprocAttr]
  refine wcall (c65 b _) ?_
  simp -failIfUnchanged (disch := first | omega | (simp <;> omega) | fail) only [go_sem, simprocAttr]
  refine wcond_dec (fun h => ?_) (fun h => ?_)
  · simp -failIfUnchanged (disch := first | omega | (simp <;> omega) | fail) only [go_sem, simprocAttr]
    simp [h]
  · have h' : askB b (within f 0 39) = 0 := by simpa using h
    obtain ⟨h1, h2⟩ := askB_0.1 h'
    rw [within_iff] at h2
    have hv := val_of_check h1
    obtain ⟨n, rfl⟩ : ∃ n : Nat, f = n := ⟨f.toNat, by omega⟩
    simp -failIfUnchanged (disch := first | omega | (simp <;> omega) | fail) only [go_sem, simprocAttr]
    refine wcall (c66 b hv n (by omega)) ?_
    simp -failIfUnchanged (disch := first | omega | (simp <;> omega) | fail) only [go_sem, simprocAttr]
    refine wcall (c71 b hv _ (hasL_len hv n) (fun i => by have := at0_has hv n i; omega)) ?_
    simp -failIfUnchanged (disch := first | omega | (simp <;> omega) | fail) only [go_sem, simprocAttr]
    refine wcond_dec (fun h3 => ?_) (fun h3 => ?_)
    · simp -failIfUnchanged (disch := first | omega | (simp <;> omega) | fail) only [go_sem, simprocAttr]
      simp [h', h3]
    · simp -failIfUnchanged (disch := first | omega | (simp <;> omega) | fail) only [go_sem, simprocAttr]
      simp [h', h3]

theorem c24 (b : Bx) (f : Int) : Ctr Try.prog 24 [MB b, .int f] (trnR b f) := by
  refine ctr_of_wp hmix Try.func24 m24 rfl ?_
  unfold v24 trnR
  simp -failIfUnchanged (disch := first | omega | (simp <;> omega) | fail) only [go_sem, simprocAttr]
  refine wcall (c68 f 0 39) ?_
  simp -failIfUnchanged (disch := first | omega | (simp <;> omega) | fail) only [go_sem, simprocAttr]
  refine wcall (c62 b _) ?_
  simp -failIfUnchanged (disch := first | omega | (simp <;> omega) | fail) only [go_sem, simprocAttr]
  refine wcond_dec (fun h => ?_) (fun h => ?_)
  · simp -failIfUnchanged (disch := first | omega | (simp <;> omega) | fail) only [go_sem, simprocAttr]
    simp [h]
  · have h' : askB b (within f 0 39) = 0 := by simpa using h
    obtain ⟨h1, h2⟩ := askB_0.1 h'
    rw [within_iff] at h2
    have hv := val_of_check h1
    have n5 := hv.n5
    obtain ⟨n, rfl⟩ : ∃ n : Nat, f = n := ⟨f.toNat, by omega⟩
    rw [if_pos h', Int.toNat_natCast]
    simp -failIfUnchanged (disch := first | omega | (simp <;> omega) | fail) only [go_sem, simprocAttr]
    refine wp_range' ?_
    simp -failIfUnchanged (disch := first | omega | (simp <;> omega) | fail) only [go_sem, simprocAttr]
    refine wrange fun l T hT => ?_
    refine csem_of_wp hmix Try.func69 m69 rfl rfl ?_
    unfold v69
    simp -failIfUnchanged (disch := first | omega | (simp <;> omega) | fail) only [go_sem, simprocAttr]
    refine wp_loopX Nat (fun k => ⟨[(1, .yld l), (2, .ptr 1002 0), (4, .int k)],
      [(1002, ⟨gC b (hasL b k ++ List.replicate (5 - b.sh.length) 0), false⟩), (5, ⟨[.int 0], false⟩), (4, ⟨[.int 0], false⟩), (3, ⟨[.int n], false⟩)], [], none⟩)
      (fun k => k ≤ n) (fun k => n - k) 0 (by simp) ?_ (fun x => by simp -failIfUnchanged (disch := first | omega | (simp <;> omega) | fail) only [go_sem, simprocAttr]) ?_
    · simp -failIfUnchanged (disch := first | omega | (simp <;> omega) | fail) only [go_sem, simprocAttr]
      simp only [hasL, List.replicate_append_replicate, show b.sh.length + (5 - b.sh.length) = 5 by omega]
      rfl
    intro k hk
    have hk : k ≤ n := hk
    have hl := hasL_len hv k
    obtain ⟨hs, hse⟩ : ∃ hs, hs = hasL b k ++ List.replicate (5 - b.sh.length) 0 := ⟨_, rfl⟩
    have hsl : hs.length = 5 := by rw [hse]; simp; omega
    have hsa : ∀ i, at0 hs i = at0 (hasL b k) i := fun i => by rw [hse, at0_app]
    have hsn : nxt b hs = nxt b (hasL b k) := by rw [hse, nxt_app]
    have c84' := c84 b hv hs hsl fun i => by have := at0_has hv k i; rw [hsa]; omega
    rw [hsn] at c84'
    rw [← hse]
    simp -failIfUnchanged (disch := first | omega | (simp <;> omega) | fail) only [go_sem, simprocAttr, hsl]
    refine wcallb c84' rfl ?_
    simp -failIfUnchanged (disch := first | omega | (simp <;> omega) | fail) only [go_sem, simprocAttr]
    refine wyield (hT _ _ _ _ _ rfl ?_)
    simp -failIfUnchanged (disch := first | omega | (simp <;> omega) | fail) only [go_sem, simprocAttr]
    refine WGd_bool (fun h3 => ?_) (fun h3 => ?_)
    · have h3' : (k : Int) = n := of_decide_eq_true h3
      have e : k = n := by omega
      subst e
      simp -failIfUnchanged (disch := first | omega | (simp <;> omega) | fail) only [go_sem, simprocAttr, h3]
      refine wcond_dec (fun h4 => ?_) (fun h4 => ?_)
      · rw [if_pos h4]
        simp -failIfUnchanged (disch := first | omega | (simp <;> omega) | fail) only [go_sem, simprocAttr]
      · rw [if_neg h4]
        simp -failIfUnchanged (disch := first | omega | (simp <;> omega) | fail) only [go_sem, simprocAttr, h3]
    · have h3' : ¬ (k : Int) = n := of_decide_eq_false h3
      simp -failIfUnchanged (disch := first | omega | (simp <;> omega) | fail) only [go_sem, simprocAttr, h3]
      rcases hasL_succ hv k with ⟨e, es⟩ | ⟨r, e, hr, es⟩
      · rw [e]
        simp -failIfUnchanged (disch := first | omega | (simp <;> omega) | fail) only [go_sem, simprocAttr]
        refine lpx_norm ⟨k + 1, by omega, by omega, ?_, by simp -failIfUnchanged (disch := first | omega | (simp <;> omega) | fail) only [go_sem, simprocAttr]⟩
        rw [es, ← hse]
        simp -failIfUnchanged (disch := first | omega | (simp <;> omega) | fail) only [go_sem, simprocAttr]
        try simp
      · have hbr2 : 0 ≤ at0 hs r ∧ at0 hs r ≤ 20 := by rw [hsa]; exact at0_has hv k r
        have hset : hs.set r (at0 hs r + 1) = (hasL b k).set r (at0 (hasL b k) r + 1) ++ List.replicate (5 - b.sh.length) 0 := by
          rw [hsa, hse, List.set_append_left _ _ (by omega)]
        rw [e]
        simp -failIfUnchanged (disch := first | omega | (simp <;> omega) | fail) only [go_sem, simprocAttr, gC_get, gC_set]
        refine lpx_norm ⟨k + 1, by omega, by omega, ?_, by simp -failIfUnchanged (disch := first | omega | (simp <;> omega) | fail) only [go_sem, simprocAttr]⟩
        rw [es, ← hset]
        simp -failIfUnchanged (disch := first | omega | (simp <;> omega) | fail) only [go_sem, simprocAttr]
        try simp

end Go.Proofs.Ytbghdcleoamkiaa

/- The program's remainders: a sort in place. -/
set_option linter.unusedSimpArgs false
set_option linter.unusedVariables false
set_option linter.unnecessarySimpa false
namespace Go.Proofs.Ytbghdcleoamkiaa
open Go Go.V

theorem tmod_nn {a b : Int} (h : 0 ≤ a) : Int.tmod a b = a % b := Int.tmod_eq_emod_of_nonneg h
theorem tdiv_nn {a b : Int} (h : 0 ≤ a) : Int.tdiv a b = a / b := Int.tdiv_eq_ediv_of_nonneg h

theorem mul_bd {f s : Int} (hf : 0 ≤ f ∧ f ≤ 41) (hs : 0 ≤ s ∧ s ≤ 20) : 0 ≤ f * s ∧ f * s ≤ 820 := by
  have a := Int.mul_nonneg hf.1 hs.1
  have b : f * s ≤ 41 * s := Int.mul_le_mul_of_nonneg_right hf.2 hs.1
  omega

/-- Numbers of quarters as the machine has them. -/
abbrev nI (d : List Nat) : List Int := d.map fun k => ((k : Nat) : Int)

theorem nI_get (d : List Nat) (i : Nat) : (nI d)[i]?.getD default = ((nth d i : Nat) : Int) := by
  simp only [nth, List.getElem?_map]
  cases d[i]? <;> rfl
theorem nI_len (d : List Nat) : (nI d).length = d.length := by simp
theorem nI_set (d : List Nat) (i x : Nat) : (nI d).set i ((x : Nat) : Int) = nI (d.set i x) := by simp only [nI, List.map_set]

theorem tidy_ints {xs : List Int} {hp : List (Nat × BX)} : (xs.map AV.int).map (tidy hp) = xs.map .int := by
  rw [List.map_map]
  rfl
attribute [go_sem] tidy_ints

theorem c85 (b : Bx) (hv : BV b) (f : Int) (hf : 0 ≤ f ∧ f ≤ 41) (h0 : 0 < allS b) (i : Nat) (hi : i < b.sh.length) : Ctr Try.prog 85 [.int i, .ref 1 [.agg [.int f]] 0 0, .ref 2 [MB b] 0 0, .ref 1 [.agg [.int (allS b)]] 0 0] (.int (restI b f i)) := by
  refine ctr_of_wp hmix Try.func85 m85 rfl ?_
  unfold v85
  have hs := hv.s0 i hi
  have hm := mul_bd hf hs
  have e1 : w64 (f * (b.sh[i]?.getD default)) = f * at0 b.sh i := w64_id (by show -9223372036854775808 ≤ f * at0 b.sh i ∧ f * at0 b.sh i ≤ 9223372036854775807; omega)
  simp -failIfUnchanged (disch := first | omega | (simp <;> omega) | fail) only [go_sem, simprocAttr, e1, tmod_nn hm.1]
  rfl

abbrev restC (b : Bx) (f : Int) : AV := .clo 85 [] [.ref 1 [.agg [.int f]] 0 0, .ref 2 [MB b] 0 0, .ref 1 [.agg [.int (allS b)]] 0 0]
abbrev cmpC (b : Bx) (f : Int) : List AV := [.ref 1 [.agg [restC b f]] 0 0]

theorem c87 (b : Bx) (hv : BV b) (f : Int) (hf : 0 ≤ f ∧ f ≤ 41) (h0 : 0 < allS b) (i k : Nat) (hi : i < b.sh.length) (hk : k < b.sh.length) : Ctr Try.prog 87 ([.int i, .int k] ++ cmpC b f) (.int (restI b f k - restI b f i)) := by
  refine ctr_of_wp hmix Try.func87 m87 rfl ?_
  unfold v87
  have r1 := rest_bd b f h0 i
  have r2 := rest_bd b f h0 k
  have ha := sum_nonneg hv
  simp -failIfUnchanged (disch := first | omega | (simp <;> omega) | fail) only [go_sem, simprocAttr]
  refine wcall (c85 b hv f hf h0 k hk) ?_
  simp -failIfUnchanged (disch := first | omega | (simp <;> omega) | fail) only [go_sem, simprocAttr]
  refine wcall (c85 b hv f hf h0 i hi) ?_
  simp -failIfUnchanged (disch := first | omega | (simp <;> omega) | fail) only [go_sem, simprocAttr]

def outI (b : Bx) (f : Int) (i : Nat) : List Int := (List.range b.sh.length).map fun j => if j < i then flrI b f j else 0

theorem outI_0 (b : Bx) (f : Int) : outI b f 0 = List.replicate b.sh.length 0 := by
  unfold outI
  apply List.ext_getElem (by simp)
  intro i h1 h2
  simp

theorem outI_n (b : Bx) (f : Int) : outI b f b.sh.length = flrL b f := by
  unfold outI flrL
  exact List.map_congr_left fun i hi => by rw [if_pos (List.mem_range.1 hi)]

theorem outI_len (b : Bx) (f : Int) (i : Nat) : (outI b f i).length = b.sh.length := by simp [outI]

theorem outI_set (b : Bx) (f : Int) (i : Nat) (hi : i < b.sh.length) : (outI b f i).set i (flrI b f i) = outI b f (i + 1) := by
  apply List.ext_getElem (by simp [outI])
  intro j h1 h2
  simp only [outI, List.length_map, List.length_range] at h2
  rw [List.getElem_set]
  by_cases e : i = j
  · subst e
    simp [outI]
  · rw [if_neg e]
    simp only [outI, List.getElem_map, List.getElem_range]
    by_cases h3 : j < i
    · rw [if_pos h3, if_pos (by omega)]
    · rw [if_neg h3, if_neg (by omega)]

theorem shares_mem {b : Bx} (hv : BV b) : b.sh.length ≤ 100 ∧ ∀ x ∈ b.sh, -1000 ≤ x ∧ x ≤ 1000 := by
  have := hv.n5
  refine ⟨by omega, fun x hx => ?_⟩
  obtain ⟨i, hi, rfl⟩ := List.getElem_of_mem hx
  have := hv.s0 i hi
  rw [at0_lt hi] at this
  omega

theorem flrL_mem {b : Bx} (hv : BV b) {f : Int} (hf : 0 ≤ f ∧ f ≤ 41) (h0 : 0 < allS b) : (flrL b f).length ≤ 100 ∧ ∀ x ∈ flrL b f, -1000 ≤ x ∧ x ≤ 1000 := by
  have := hv.n5
  refine ⟨by simp [flrL]; omega, fun x hx => ?_⟩
  simp only [flrL, List.mem_map, List.mem_range] at hx
  obtain ⟨i, hi, rfl⟩ := hx
  have := flr_bd hv hf.1 h0 hi
  omega

theorem nI_range_succ (i : Nat) : nI (List.range i) ++ [(i : Int)] = nI (List.range (i + 1)) := by
  simp only [nI, List.range_succ, List.map_append, List.map_cons, List.map_nil]

theorem c72 (b : Bx) (hv : BV b) (f : Int) (hf : 0 ≤ f ∧ f ≤ 41) : Ctr Try.prog 72 [MB b, .int f] (IS (remL b f)) := by
  refine ctr_of_wp hmix Try.func72 m72 rfl ?_
  unfold v72
  have n5 := hv.n5
  have ha := sum_nonneg hv
  obtain ⟨k1, k2⟩ := shares_mem hv
  simp -failIfUnchanged (disch := first | omega | (simp <;> omega) | fail) only [go_sem, simprocAttr]
  refine wcall (c67 b.sh k1 k2) ?_
  rw [show sumI b.sh = allS b from rfl]
  simp -failIfUnchanged (disch := first | omega | (simp <;> omega) | fail) only [go_sem, simprocAttr]
  refine wcond_dec (fun h0 => ?_) (fun h0 => ?_)
  · simp -failIfUnchanged (disch := first | omega | (simp <;> omega) | fail) only [go_sem, simprocAttr, chunks_ints]
    unfold remL
    rw [if_pos h0]
    simp
    rfl
  · have h0' : 0 < allS b := by omega
    simp -failIfUnchanged (disch := first | omega | (simp <;> omega) | fail) only [go_sem, simprocAttr]
    refine wp_loop' Nat (fun i => ⟨[(2, .ptr 2 0), (3, .ptr 3 0), (5, .bsl 16 0 1 b.sh.length false), (6, .ptr 6 0), (7, .gsl 7 0 i 1 i false), (24, IS b.sh), (25, .int b.sh.length), (26, .int i)],
      [(K 7 0 i, ⟨(nI (List.range i)).map .int, false⟩), (16, ⟨(outI b f i).map .int, false⟩), (6, ⟨[.int (allS b)], false⟩), (3, ⟨[.int f], false⟩), (2, ⟨[IS b.sh, IS b.mo], false⟩)], [], none⟩) (fun i => i ≤ b.sh.length) (fun i => b.sh.length - i) 0 (by simp) (by simp -failIfUnchanged (disch := first | omega | (simp <;> omega) | fail) only [go_sem, simprocAttr]; simp [outI_0]) ?_
    intro i hi
    have hi : i ≤ b.sh.length := hi
    simp -failIfUnchanged (disch := first | omega | (simp <;> omega) | fail) only [go_sem, simprocAttr]
    refine wcond_dec (fun hc => ?_) (fun hc => ?_)
    · have hlt : i < b.sh.length := by omega
      have hs := hv.s0 i hlt
      have hm := mul_bd hf hs
      have hm2 : 0 ≤ f * (b.sh[i]?.getD default) ∧ f * (b.sh[i]?.getD default) ≤ 820 := hm
      have hfl := flr_bd hv hf.1 h0' hlt
      have hfl2 : 0 ≤ f * (b.sh[i]?.getD default) / allS b ∧ f * (b.sh[i]?.getD default) / allS b ≤ f := hfl
      have hol := outI_len b f i
      simp -failIfUnchanged (disch := first | omega | (simp <;> omega) | fail) only [go_sem, simprocAttr, tdiv_nn hm2.1, hol, List.length_range]
      refine ⟨i + 1, by dsimp only; omega, by dsimp only; omega, ?_⟩
      dsimp only
      rw [← outI_set b f i hlt, ← nI_range_succ]
      simp -failIfUnchanged (disch := first | omega | (simp <;> omega) | fail) only [go_sem, simprocAttr]
      try simp
      try rfl
    · have e : i = b.sh.length := by omega
      subst e
      rw [outI_n]
      have hn0 : 0 < b.sh.length := by
        have := left_bd b f h0'
        omega
      generalize hr : restI b f = r
      simp -failIfUnchanged (disch := first | omega | (simp <;> omega) | fail) only [go_sem, simprocAttr]
      refine wcall_in hmix Try.func86 m86 rfl ?_
      unfold v86
      simp -failIfUnchanged (disch := first | omega | (simp <;> omega) | fail) only [go_sem, simprocAttr]
      refine wcall_in hmix Try.func90 m90 rfl ?_
      unfold v90
      simp -failIfUnchanged (disch := first | omega | (simp <;> omega) | fail) only [go_sem, simprocAttr]
      refine wp_loopX Unit (fun _ => ⟨[(0, .gsl 7 0 b.sh.length 1 b.sh.length false), (1, .int b.sh.length), (2, .clo 87 [] (cmpC b f)), (6, .int 20), (7, .int 0), (8, .int 20)],
        [(K 7 0 b.sh.length, ⟨(nI (List.range b.sh.length)).map .int, false⟩), (16, ⟨(flrL b f).map .int, false⟩), (3, ⟨[.int f], true⟩), (10, ⟨[restC b f], true⟩)], [], none⟩) (fun _ => True) (fun _ => 0) () trivial (by simp -failIfUnchanged (disch := first | omega | (simp <;> omega) | fail) only [go_sem, simprocAttr]; try simp) (fun _ => by simp -failIfUnchanged (disch := first | omega | (simp <;> omega) | fail) only [go_sem, simprocAttr]; try simp) ?_
      intro _ _
      simp -failIfUnchanged (disch := first | omega | (simp <;> omega) | fail) only [go_sem, simprocAttr]
      refine wcond_dec (fun hx => ?_) (fun hx => ?_)
      · omega
      simp -failIfUnchanged (disch := first | omega | (simp <;> omega) | fail) only [go_sem, simprocAttr]
      refine wcall_in hmix Try.func91 m91 rfl ?_
      unfold v91
      simp -failIfUnchanged (disch := first | omega | (simp <;> omega) | fail) only [go_sem, simprocAttr]
      -- the insertion
      refine wp_loopX Nat (fun k => ⟨[(0, .gsl 7 0 b.sh.length 1 b.sh.length false), (1, .int 0), (2, .int b.sh.length), (3, .clo 87 [] (cmpC b f)), (8, .int (k + 1 : Nat))],
        [(K 7 0 b.sh.length, ⟨(nI (srt r (List.range b.sh.length) k)).map .int, false⟩), (16, ⟨(flrL b f).map .int, false⟩), (3, ⟨[.int f], true⟩), (10, ⟨[restC b f], true⟩)], [], none⟩) (fun k => k < b.sh.length) (fun k => b.sh.length - k) 0 hn0 (by simp -failIfUnchanged (disch := first | omega | (simp <;> omega) | fail) only [go_sem, simprocAttr]; try simp [srt]) (fun _ => by simp -failIfUnchanged (disch := first | omega | (simp <;> omega) | fail) only [go_sem, simprocAttr]; try simp) ?_
      intro k hk
      have hk : k < b.sh.length := hk
      have hdl : (nI (srt r (List.range b.sh.length) k)).length = b.sh.length := by rw [nI_len, srt_len, List.length_range]
      simp -failIfUnchanged (disch := first | omega | (simp <;> omega) | fail) only [go_sem, simprocAttr]
      refine wcond_dec (fun hx => ?_) (fun hx => ?_)
      · have hk1 : k + 1 < b.sh.length := by omega
        simp -failIfUnchanged (disch := first | omega | (simp <;> omega) | fail) only [go_sem, simprocAttr]
        refine wp_loopX (Nat × List Nat) (fun x => ⟨[(0, .gsl 7 0 b.sh.length 1 b.sh.length false), (1, .int 0), (2, .int b.sh.length), (3, .clo 87 [] (cmpC b f)), (8, .int (k + 1 : Nat)), (9, .int (x.1 : Nat))],
          [(K 7 0 b.sh.length, ⟨(nI x.2).map .int, false⟩), (16, ⟨(flrL b f).map .int, false⟩), (3, ⟨[.int f], true⟩), (10, ⟨[restC b f], true⟩)], [], none⟩)
          (fun x => x.1 ≤ k + 1 ∧ x.2.Perm (List.range b.sh.length) ∧ bub r x.1 x.2 = srt r (List.range b.sh.length) (k + 1)) (fun x => x.1) (k + 1, srt r (List.range b.sh.length) k) ⟨by simp, srt_perm r _ _ (by simp; omega), by rw [srt_succ]⟩ (by simp -failIfUnchanged (disch := first | omega | (simp <;> omega) | fail) only [go_sem, simprocAttr]; try simp) (fun _ => by simp -failIfUnchanged (disch := first | omega | (simp <;> omega) | fail) only [go_sem, simprocAttr]; try simp) ?_
        rintro ⟨j, d⟩ ⟨hj, hp, hb⟩
        dsimp only at hj hp hb ⊢
        have hdn : (nI d).length = b.sh.length := by rw [nI_len, hp.length_eq, List.length_range]
        have hdl2 : d.length = b.sh.length := by rw [← nI_len]; exact hdn
        have hnt : ∀ i, i < b.sh.length → nth d i < b.sh.length := fun i hi => by
          have hm : nth d i ∈ d := by
            unfold nth
            rw [List.getElem?_eq_getElem (by omega)]
            exact List.getElem_mem _
          exact List.mem_range.1 (hp.mem_iff.1 hm)
        simp -failIfUnchanged (disch := first | omega | (simp <;> omega) | fail) only [go_sem, simprocAttr]
        refine WGd_bool (fun h1 => ?_) (fun h1 => ?_)
        · have h1' : (0 : Int) < j := of_decide_eq_true h1
          obtain ⟨m, rfl⟩ : ∃ m, j = m + 1 := ⟨j - 1, by omega⟩
          have c87' := c87 b hv f hf h0' (nth d (m + 1)) (nth d m) (hnt _ (by omega)) (hnt _ (by omega))
          rw [hr] at c87'
          have r1 := rest_bd b f h0' (nth d m)
          have r2 := rest_bd b f h0' (nth d (m + 1))
          rw [hr] at r1 r2
          have e1 : (((m + 1 : Nat) : Int) - 1) = (m : Int) := by omega
          simp -failIfUnchanged (disch := first | omega | (simp <;> omega) | fail) only [go_sem, simprocAttr, h1, e1, nI_get]
          refine wcall c87' ?_
          simp -failIfUnchanged (disch := first | omega | (simp <;> omega) | fail) only [go_sem, simprocAttr]
          refine wcond_dec (fun h2 => ?_) (fun h2 => ?_)
          · have hb' : bub r m (swp d (m + 1)) = srt r (List.range b.sh.length) (k + 1) := by
              rw [← hb]
              show _ = bub r (m + 1) d
              rw [bub, if_pos (by show r (nth d m) < r (nth d (m + 1)); omega)]
            have hsw : ((nI d).set (m + 1) ((nth d m : Nat) : Int)).set m ((nth d (m + 1) : Nat) : Int) = nI (swp d (m + 1)) := by
              rw [nI_set, nI_set]
              rfl
            simp -failIfUnchanged (disch := first | omega | (simp <;> omega) | fail) only [go_sem, simprocAttr, h1, e1, nI_get]
            refine lpx_norm ⟨(m, swp d (m + 1)), ⟨by dsimp only; omega, (swp_perm d m (by omega)).trans hp, hb'⟩, by dsimp only; omega, ?_, by simp -failIfUnchanged (disch := first | omega | (simp <;> omega) | fail) only [go_sem, simprocAttr]⟩
            dsimp only
            rw [← hsw]
            simp -failIfUnchanged (disch := first | omega | (simp <;> omega) | fail) only [go_sem, simprocAttr]
            try simp
          · have hb' : d = srt r (List.range b.sh.length) (k + 1) := by
              rw [← hb]
              show _ = bub r (m + 1) d
              rw [bub, if_neg (by show ¬ r (nth d m) < r (nth d (m + 1)); omega)]
            simp -failIfUnchanged (disch := first | omega | (simp <;> omega) | fail) only [go_sem, simprocAttr]
            refine lpx_norm ⟨k + 1, hk1, by omega, ?_, by simp -failIfUnchanged (disch := first | omega | (simp <;> omega) | fail) only [go_sem, simprocAttr]⟩
            rw [← hb']
            simp -failIfUnchanged (disch := first | omega | (simp <;> omega) | fail) only [go_sem, simprocAttr]
            try simp
        · have h1' : ¬ (0 : Int) < j := of_decide_eq_false h1
          obtain rfl : j = 0 := by omega
          have hb' : d = srt r (List.range b.sh.length) (k + 1) := hb
          simp -failIfUnchanged (disch := first | omega | (simp <;> omega) | fail) only [go_sem, simprocAttr, h1]
          refine lpx_norm ⟨k + 1, hk1, by omega, ?_, by simp -failIfUnchanged (disch := first | omega | (simp <;> omega) | fail) only [go_sem, simprocAttr]⟩
          rw [← hb']
          simp -failIfUnchanged (disch := first | omega | (simp <;> omega) | fail) only [go_sem, simprocAttr]
          try simp
      · have hkn : k = b.sh.length - 1 := by omega
        have hcut : srt r (List.range b.sh.length) k = cutL b f := by
          unfold cutL srtN
          rw [hr, hkn]
        have hcl := cut_len b f
        have hlb := left_bd b f h0'
        obtain ⟨m1, m2⟩ := flrL_mem hv hf h0'
        have hfll : (flrL b f).length = b.sh.length := by simp [flrL]
        rw [hcut]
        simp -failIfUnchanged (disch := first | omega | (simp <;> omega) | fail) only [go_sem, simprocAttr]
        refine wp_loopX Unit (fun _ => ⟨[(0, .gsl 7 0 b.sh.length 1 b.sh.length false), (1, .int b.sh.length), (2, .clo 87 [] (cmpC b f)), (6, .int 20)],
          [(K 7 0 b.sh.length, ⟨(nI (cutL b f)).map .int, false⟩), (16, ⟨(flrL b f).map .int, false⟩), (3, ⟨[.int f], true⟩), (10, ⟨[restC b f], true⟩)], [], none⟩) (fun _ => True) (fun _ => 0) () trivial (by simp -failIfUnchanged (disch := first | omega | (simp <;> omega) | fail) only [go_sem, simprocAttr]; try simp) (fun _ => by simp -failIfUnchanged (disch := first | omega | (simp <;> omega) | fail) only [go_sem, simprocAttr]; try simp) ?_
        intro _ _
        simp -failIfUnchanged (disch := first | omega | (simp <;> omega) | fail) only [go_sem, simprocAttr]
        refine wcond_dec (fun hx2 => ?_) (fun hx2 => ?_)
        · omega
        have hle : (b.sh.length ≤ (nI (cutL b f)).length) = True := eq_true (by rw [nI_len]; omega)
        have hle2 : (b.sh.length ≤ (flrL b f).length) = True := eq_true (by omega)
        have hnl : (nI (cutL b f)).length = b.sh.length := by rw [nI_len]; exact hcl
        simp -failIfUnchanged (disch := first | omega | (simp <;> omega) | fail) only [go_sem, simprocAttr]
        refine wopsN [K 7 0 b.sh.length] ?_
        simp -failIfUnchanged (disch := first | omega | (simp <;> omega) | fail) only [go_sem, simprocAttr, hle, hle2, chunks_ints, hnl, Nat.le_refl]
        refine wcallb (c67 (flrL b f) m1 m2) rfl ?_
        have hleft : w64 (f - sumI (flrL b f)) = leftI b f := w64_id (by
          unfold leftI at hlb
          omega)
        obtain ⟨q, hq⟩ : ∃ q : Nat, leftI b f = q := ⟨(leftI b f).toNat, by omega⟩
        rw [hq] at hleft hlb
        have hqn : q < b.sh.length := by omega
        have htl : ((nI (cutL b f)).take q).length = q := by rw [List.length_take, hnl]; omega
        simp -failIfUnchanged (disch := first | omega | (simp <;> omega) | fail) only [go_sem, simprocAttr, hleft, hnl]
        refine wp_loop' Nat (fun k => ⟨[(5, .bsl 16 0 1 b.sh.length false), (53, .sl 1 (((nI (cutL b f)).take q).map .int) .sh), (54, .int (q : Nat)), (55, .int (k : Nat))],
          [(16, ⟨(remK b f k).map .int, false⟩)], [], none⟩) (fun k => k ≤ q) (fun k => q - k) 0 (by simp) (by simp -failIfUnchanged (disch := first | omega | (simp <;> omega) | fail) only [go_sem, simprocAttr]; simp [remK_0, List.map_take, hcl]; omega) ?_
        intro j hj
        have hj : j ≤ q := hj
        have hrl := remK_len b f j
        simp -failIfUnchanged (disch := first | omega | (simp <;> omega) | fail) only [go_sem, simprocAttr]
        refine wcond_dec (fun h3 => ?_) (fun h3 => ?_)
        · have hjq : j < q := by omega
          have hjv : ((nI (cutL b f)).take q)[j]?.getD default = ((nth (cutL b f) j : Nat) : Int) := by
            rw [List.getElem?_take_of_lt hjq, nI_get]
          have hct : nth (cutL b f) j < b.sh.length := srtN_nth _ _ (by omega)
          have hrk := remK_at b f j hct
          have hfb := flr_bd hv hf.1 h0' hct
          have hrb : 0 ≤ (remK b f j)[nth (cutL b f) j]?.getD default ∧ (remK b f j)[nth (cutL b f) j]?.getD default ≤ 100 := by
            show 0 ≤ at0 _ _ ∧ at0 _ _ ≤ 100
            rw [hrk]
            split <;> omega
          have hset := remK_succ b f j (by omega)
          generalize nth (cutL b f) j = c at *
          simp -failIfUnchanged (disch := first | omega | (simp <;> omega) | fail) only [go_sem, simprocAttr, hjv]
          refine ⟨j + 1, by dsimp only; omega, by dsimp only; omega, ?_⟩
          dsimp only
          rw [hset]
          simp -failIfUnchanged (disch := first | omega | (simp <;> omega) | fail) only [go_sem, simprocAttr]
          try simp
        · have e : j = q := by omega
          subst e
          have hle3 : (b.sh.length ≤ (remK b f j).length) = True := eq_true (by omega)
          simp -failIfUnchanged (disch := first | omega | (simp <;> omega) | fail) only [go_sem, simprocAttr, hle3, chunks_ints]
          unfold remL
          rw [if_neg h0, hq, Int.toNat_natCast]

end Go.Proofs.Ytbghdcleoamkiaa

/- Remainders, Paradox, Differ, Exact of the program; works. -/
set_option linter.unusedSimpArgs false
set_option linter.unusedVariables false
set_option linter.unnecessarySimpa false
namespace Go.Proofs.Ytbghdcleoamkiaa
open Go Go.V

def remR (b : Bx) (f : Int) : AV := let e := askB b (within f 0 40); .tup [IS (if e = 0 then remL b f else []), .int e]

theorem c34 (b : Bx) (f : Int) : Ctr Try.prog 34 [MB b, .int f] (remR b f) := by
  refine ctr_of_wp hmix Try.func34 m34 rfl ?_
  unfold v34 remR
  simp -failIfUnchanged (disch := first | omega | (simp <;> omega) | fail) only [go_sem, simprocAttr]
  refine wcall (c63 f) ?_
  simp -failIfUnchanged (disch := first | omega | (simp <;> omega) | fail) only [go_sem, simprocAttr]
  refine wcall (c62 b _) ?_
  simp -failIfUnchanged (disch := first | omega | (simp <;> omega) | fail) only [go_sem, simprocAttr]
  refine wcond_dec (fun h => ?_) (fun h => ?_)
  · simp -failIfUnchanged (disch := first | omega | (simp <;> omega) | fail) only [go_sem, simprocAttr]
    simp [h]
  · have h' : askB b (within f 0 40) = 0 := by simpa using h
    obtain ⟨h1, h2⟩ := askB_0.1 h'
    rw [within_iff] at h2
    simp -failIfUnchanged (disch := first | omega | (simp <;> omega) | fail) only [go_sem, simprocAttr]
    refine wcall (c72 b (val_of_check h1) f (by omega)) ?_
    simp -failIfUnchanged (disch := first | omega | (simp <;> omega) | fail) only [go_sem, simprocAttr]
    simp [h']

/-- The first number of which something is so. -/
def fst (p : Nat → Bool) (n : Nat) : Option Nat := (List.range n).find? p

theorem fst_hit {p : Nat → Bool} {n i : Nat} (hi : i < n) (hpre : ∀ j, j < i → p j = false) (h : p i = true) : fst p n = some i := by
  unfold fst
  rw [List.find?_eq_some_iff_append]
  refine ⟨h, List.range i, (List.range (n - i)).tail.map (i + ·), ?_, fun x hx => ?_⟩
  · apply List.ext_getElem
    · simp; omega
    · intro j h1 h2
      simp only [List.length_range] at h1
      rcases Nat.lt_trichotomy j i with h3 | h3 | h3
      · rw [List.getElem_append_left (by simpa using h3)]
        simp
      · subst h3
        rw [List.getElem_append_right (by simp)]
        simp
      · rw [List.getElem_append_right (by simp; omega), List.getElem_cons]
        rw [dif_neg (by simp; omega)]
        simp
        omega
  · have := hpre x (List.mem_range.1 hx)
    simp [this]

theorem fst_none {p : Nat → Bool} {n : Nat} (h : ∀ j, j < n → p j = false) : fst p n = none := by
  unfold fst
  rw [List.find?_eq_none]
  intro x hx
  simp [h x (List.mem_range.1 hx)]

def fstR (b : Bx) (p : Nat → Bool) (n : Nat) : AV := if checkB b then (match fst p n with | some k => .tup [.int k, .int 0] | none => .tup [.int 0, .int 3]) else .tup [.int 0, .int 70]

theorem c74 (b : Bx) (n : Nat) (hn : n ≤ 1000) (g : Nat) (caps : List AV) (p : Nat → Bool) (hp : checkB b = true → ∀ k, k < n → Ctr Try.prog g ([.int k] ++ caps) (.bool (p k))) :
    Ctr Try.prog 74 [MB b, .int n, .clo g [] caps] (fstR b p n) := by
  refine ctr_of_wp hmix Try.func74 m74 rfl ?_
  unfold v74 fstR
  simp -failIfUnchanged (disch := first | omega | (simp <;> omega) | fail) only [go_sem, simprocAttr]
  refine wcall (c18 b) ?_
  unfold errM
  cases hc : checkB b with
  | false => simp -failIfUnchanged (disch := first | omega | (simp <;> omega) | fail) only [go_sem, simprocAttr]; try simp
  | true =>
    have hp := hp hc
    simp -failIfUnchanged (disch := first | omega | (simp <;> omega) | fail) only [go_sem, simprocAttr]
    refine wp_loop' Nat (fun i => ⟨[(2, .clo g [] caps), (15, .int n), (16, .int i)], [], [], none⟩) (fun i => i ≤ n ∧ ∀ j, j < i → p j = false) (fun i => n - i) 0 (by simp) (by simp -failIfUnchanged (disch := first | omega | (simp <;> omega) | fail) only [go_sem, simprocAttr]; try simp) ?_
    rintro i ⟨hi, hpre⟩
    simp -failIfUnchanged (disch := first | omega | (simp <;> omega) | fail) only [go_sem, simprocAttr]
    refine wcond_dec (fun h => ?_) (fun h => ?_)
    · have hlt : i < n := by omega
      simp -failIfUnchanged (disch := first | omega | (simp <;> omega) | fail) only [go_sem, simprocAttr]
      refine wcall (hp i hlt) ?_
      simp -failIfUnchanged (disch := first | omega | (simp <;> omega) | fail) only [go_sem, simprocAttr]
      refine wcond_bool (fun hb => ?_) (fun hb => ?_)
      · rw [fst_hit hlt hpre hb]
        simp -failIfUnchanged (disch := first | omega | (simp <;> omega) | fail) only [go_sem, simprocAttr]
      · simp -failIfUnchanged (disch := first | omega | (simp <;> omega) | fail) only [go_sem, simprocAttr]
        refine ⟨i + 1, ⟨by omega, fun j hj => ?_⟩, by dsimp only; omega, ?_⟩
        · rcases Nat.lt_or_ge j i with h1 | h1
          · exact hpre j h1
          · obtain rfl : j = i := by omega
            exact hb
        · simp -failIfUnchanged (disch := first | omega | (simp <;> omega) | fail) only [go_sem, simprocAttr]
          try simp
    · have e : i = n := by omega
      subst e
      rw [fst_none hpre]
      simp -failIfUnchanged (disch := first | omega | (simp <;> omega) | fail) only [go_sem, simprocAttr]

/-- Some quarter has more than of a flow that is greater by one. -/
def parP (b : Bx) (k : Nat) : Bool := (List.range b.sh.length).any fun i => decide (at0 (remL b ((k : Int) + 1)) i < at0 (remL b k) i)
theorem c75 (b : Bx) (hv : BV b) (k : Nat) (hk : k < 40) : Ctr Try.prog 75 [.int k, .ref 2 [MB b] 0 0] (.bool (parP b k)) := by
  refine ctr_of_wp hmix Try.func75 m75 rfl ?_
  unfold v75
  have n5 := hv.n5
  have l1 := remL_len b ((k : Int) + 1)
  have l2 := remL_len b (k : Int)
  simp -failIfUnchanged (disch := first | omega | (simp <;> omega) | fail) only [go_sem, simprocAttr]
  refine wcall (c72 b hv ((k : Int) + 1) (by omega)) ?_
  simp -failIfUnchanged (disch := first | omega | (simp <;> omega) | fail) only [go_sem, simprocAttr]
  refine wcall (c72 b hv (k : Int) (by omega)) ?_
  obtain ⟨A, hA⟩ : ∃ A, remL b ((k : Int) + 1) = A := ⟨_, rfl⟩
  obtain ⟨B, hB⟩ : ∃ B, remL b (k : Int) = B := ⟨_, rfl⟩
  have hP : parP b k = (List.range b.sh.length).any fun i => decide (at0 A i < at0 B i) := by rw [← hA, ← hB]; rfl
  rw [hA] at l1
  rw [hB] at l2
  rw [hP, hA, hB]
  simp -failIfUnchanged (disch := first | omega | (simp <;> omega) | fail) only [go_sem, simprocAttr]
  refine wp_loop' Nat (fun i => ⟨[(4, IS A), (13, IS B), (14, .int B.length), (15, .int i)], [], [], none⟩) (fun i => i ≤ b.sh.length ∧ ∀ j, j < i → decide (at0 A j < at0 B j) = false) (fun i => b.sh.length - i) 0 (by simp) (by simp -failIfUnchanged (disch := first | omega | (simp <;> omega) | fail) only [go_sem, simprocAttr]; try simp) ?_
  rintro i ⟨hi, hpre⟩
  simp -failIfUnchanged (disch := first | omega | (simp <;> omega) | fail) only [go_sem, simprocAttr]
  refine wcond_dec (fun h => ?_) (fun h => ?_)
  · have hlt : i < b.sh.length := by omega
    simp -failIfUnchanged (disch := first | omega | (simp <;> omega) | fail) only [go_sem, simprocAttr]
    refine wcond_dec (fun hb => ?_) (fun hb => ?_)
    · have key : ((List.range b.sh.length).any fun i => decide (at0 A i < at0 B i)) = true := List.any_eq_true.2 ⟨i, List.mem_range.2 hlt, decide_eq_true hb⟩
      rw [key]
      simp -failIfUnchanged (disch := first | omega | (simp <;> omega) | fail) only [go_sem, simprocAttr]
    · simp -failIfUnchanged (disch := first | omega | (simp <;> omega) | fail) only [go_sem, simprocAttr]
      refine ⟨i + 1, ⟨by omega, fun j hj => ?_⟩, by dsimp only; omega, ?_⟩
      · rcases Nat.lt_or_ge j i with h1 | h1
        · exact hpre j h1
        · obtain rfl : j = i := by omega
          exact decide_eq_false hb
      · simp -failIfUnchanged (disch := first | omega | (simp <;> omega) | fail) only [go_sem, simprocAttr]
        try simp
  · have e : i = b.sh.length := by omega
    subst e
    have key : ((List.range b.sh.length).any fun i => decide (at0 A i < at0 B i)) = false := List.any_eq_false.2 fun j hj => by
      rw [hpre j (List.mem_range.1 hj)]
      simp
    rw [key]
    simp -failIfUnchanged (disch := first | omega | (simp <;> omega) | fail) only [go_sem, simprocAttr]

theorem c41 (b : Bx) : Ctr Try.prog 41 [MB b] (fstR b (parP b) 40) := by
  refine ctr_of_wp hmix Try.func41 m41 rfl ?_
  unfold v41
  have hc := c74 b 40 (by omega) 75 [.ref 2 [MB b] 0 0] (parP b) fun hc k hk => c75 b (val_of_check hc) k hk
  simp -failIfUnchanged (disch := first | omega | (simp <;> omega) | fail) only [go_sem, simprocAttr]
  refine wcall hc ?_
  unfold fstR
  cases checkB b with
  | false => simp -failIfUnchanged (disch := first | omega | (simp <;> omega) | fail) only [go_sem, simprocAttr]; try simp
  | true =>
    cases fst (parP b) 40 with
    | none => simp -failIfUnchanged (disch := first | omega | (simp <;> omega) | fail) only [go_sem, simprocAttr]; try simp
    | some k => simp -failIfUnchanged (disch := first | omega | (simp <;> omega) | fail) only [go_sem, simprocAttr]; try simp

/-! ### fractions -/
structure Pr where
  a : Int
  b : Int
  deriving Inhabited, DecidableEq

abbrev PR (p : Pr) : AV := .agg [.int p.a, .int p.b]
abbrev PS (l : List Pr) : AV := .sl 2 (l.map PR) .sh

/-- In lowest terms. -/
def low (n d : Nat) : Pr := ⟨((n / Nat.gcd n d : Nat) : Int), ((d / Nat.gcd n d : Nat) : Int)⟩

theorem gcd_step (a b : Nat) : Nat.gcd b (a % b) = Nat.gcd a b := by
  rw [Nat.gcd_comm a b, Nat.gcd_rec b a, Nat.gcd_comm]

theorem ag54 : aggOf Try.prog 54 = some true := by kernel_rfl
theorem sz54 : szOf Try.prog 54 = some 2 := by kernel_rfl
attribute [go_sem] ag54 sz54

theorem c73 (n d : Nat) (hd : 0 < d) (hn : n < 1000000) (hd2 : d < 1000000) : Ctr Try.prog 73 [.int n, .int d] (PR (low n d)) := by
  refine ctr_of_wp hmix Try.func73 m73 rfl ?_
  unfold v73
  simp -failIfUnchanged (disch := first | omega | (simp <;> omega) | fail) only [go_sem, simprocAttr]
  refine wp_loop' (Nat × Nat) (fun x => ⟨[(0, .int n), (1, .int d), (4, .ptr 4 0), (5, .int x.1), (6, .int x.2)], [(4, ⟨[.int 0, .int 0], false⟩)], [], none⟩)
    (fun x => Nat.gcd x.1 x.2 = Nat.gcd n d) (fun x => x.2) (n, d) rfl (by simp -failIfUnchanged (disch := first | omega | (simp <;> omega) | fail) only [go_sem, simprocAttr]; try simp) ?_
  rintro ⟨a, c⟩ hg
  dsimp only at hg ⊢
  simp -failIfUnchanged (disch := first | omega | (simp <;> omega) | fail) only [go_sem, simprocAttr]
  refine wcond_dec (fun h => ?_) (fun h => ?_)
  · have h0 : 0 < c := by omega
    have hlt : a % c < c := Nat.mod_lt _ h0
    simp -failIfUnchanged (disch := first | omega | (simp <;> omega) | fail) only [go_sem, simprocAttr]
    refine ⟨(c, a % c), by dsimp only; rw [gcd_step, hg], by dsimp only; omega, ?_⟩
    simp -failIfUnchanged (disch := first | omega | (simp <;> omega) | fail) only [go_sem, simprocAttr]
    try simp
  · have h0 : c = 0 := by omega
    subst h0
    rw [Nat.gcd_zero_right] at hg
    have hpos : 0 < a := by
      rw [hg]
      exact Nat.gcd_pos_of_pos_right _ hd
    have e0 : ∀ q : Nat, q < 1000000 → w64 (q : Int) = q := fun q h => w64_id (by omega)
    have e1 := e0 (n / a) (Nat.lt_of_le_of_lt (Nat.div_le_self n a) hn)
    have e2 := e0 (d / a) (Nat.lt_of_le_of_lt (Nat.div_le_self d a) hd2)
    simp -failIfUnchanged (disch := first | omega | (simp <;> omega) | fail) only [go_sem, simprocAttr, e1, e2]
    simp [low, hg]

/-- The exact part of a quarter. -/
def exR (b : Bx) (f : Nat) (i : Nat) : Pr := low (f * (at0 b.sh i).toNat) (max 1 (allS b)).toNat
def exL (b : Bx) (f : Nat) (k : Nat) : List Pr := (List.range k).map (exR b f)
def exaR (b : Bx) (f : Int) : AV := let e := askB b (within f 0 40); .tup [PS (if e = 0 then exL b f.toNat b.sh.length else []), .int e]

theorem exL_succ (b : Bx) (f k : Nat) : exL b f (k + 1) = exL b f k ++ [exR b f k] := by
  unfold exL
  rw [List.range_succ, List.map_append]
  rfl

theorem c39 (b : Bx) (f : Int) : Ctr Try.prog 39 [MB b, .int f] (exaR b f) := by
  refine ctr_of_wp hmix Try.func39 m39 rfl ?_
  unfold v39 exaR
  simp -failIfUnchanged (disch := first | omega | (simp <;> omega) | fail) only [go_sem, simprocAttr]
  refine wcall (c63 f) ?_
  simp -failIfUnchanged (disch := first | omega | (simp <;> omega) | fail) only [go_sem, simprocAttr]
  refine wcall (c62 b _) ?_
  simp -failIfUnchanged (disch := first | omega | (simp <;> omega) | fail) only [go_sem, simprocAttr]
  refine wcond_dec (fun h => ?_) (fun h => ?_)
  · simp -failIfUnchanged (disch := first | omega | (simp <;> omega) | fail) only [go_sem, simprocAttr]
    simp [h]
  · have h' : askB b (within f 0 40) = 0 := by simpa using h
    obtain ⟨h1, h2⟩ := askB_0.1 h'
    rw [within_iff] at h2
    have hv := val_of_check h1
    have ha := sum_nonneg hv
    have n5 := hv.n5
    obtain ⟨k1, k2⟩ := shares_mem hv
    obtain ⟨n, rfl⟩ : ∃ n : Nat, f = n := ⟨f.toNat, by omega⟩
    simp -failIfUnchanged (disch := first | omega | (simp <;> omega) | fail) only [go_sem, simprocAttr]
    refine wp_loop' Nat (fun i => ⟨[(1, .int n), (2, .ptr 2 0), (7, .sl 2 ((exL b n i).map PR) (.own 7)), (18, IS b.sh), (19, .int b.sh.length), (20, .int i)], [(2, ⟨[IS b.sh, IS b.mo], false⟩)], [(7, i)], none⟩) (fun i => i ≤ b.sh.length) (fun i => b.sh.length - i) 0 (by simp) (by simp -failIfUnchanged (disch := first | omega | (simp <;> omega) | fail) only [go_sem, simprocAttr]; try simp [exL]) ?_
    intro i hi
    have hi : i ≤ b.sh.length := hi
    have hel : (exL b n i).length = i := by simp [exL]
    simp -failIfUnchanged (disch := first | omega | (simp <;> omega) | fail) only [go_sem, simprocAttr]
    refine wcond_dec (fun hc => ?_) (fun hc => ?_)
    · have hlt : i < b.sh.length := by omega
      have hs := hv.s0 i hlt
      have hm := mul_bd (f := n) (by omega) hs
      have hm2 : 0 ≤ (n : Int) * (b.sh[i]?.getD default) ∧ (n : Int) * (b.sh[i]?.getD default) ≤ 820 := hm
      obtain ⟨s, hse⟩ : ∃ s : Nat, at0 b.sh i = s := ⟨(at0 b.sh i).toNat, by omega⟩
      obtain ⟨D, hD⟩ : ∃ D : Nat, max 1 (allS b) = D := ⟨(max 1 (allS b)).toNat, by omega⟩
      have hx : exR b n i = low (n * s) D := by unfold exR; rw [hse, hD]; rfl
      have c73' := c73 (n * s) D (by omega) (by rw [hse] at hm; have := hm.2; rw [← Int.natCast_mul] at this; omega) (by omega)
      rw [← hx] at c73'
      have e1 : (n : Int) * (b.sh[i]?.getD default) = ((n * s : Nat) : Int) := by
        rw [Int.natCast_mul, ← hse]
      simp -failIfUnchanged (disch := first | omega | (simp <;> omega) | fail) only [go_sem, simprocAttr]
      refine wcall (c67 b.sh k1 k2) ?_
      rw [show sumI b.sh = allS b from rfl]
      simp -failIfUnchanged (disch := first | omega | (simp <;> omega) | fail) only [go_sem, simprocAttr, hD, e1]
      refine wcall c73' ?_
      simp -failIfUnchanged (disch := first | omega | (simp <;> omega) | fail) only [go_sem, simprocAttr, hel]
      refine ⟨i + 1, by dsimp only; omega, by dsimp only; omega, ?_⟩
      dsimp only
      rw [exL_succ]
      simp -failIfUnchanged (disch := first | omega | (simp <;> omega) | fail) only [go_sem, simprocAttr]
      simp [hel]
    · have e : i = b.sh.length := by omega
      subst e
      simp -failIfUnchanged (disch := first | omega | (simp <;> omega) | fail) only [go_sem, simprocAttr]
      simp [h']

theorem c49 (a b : List Pr) (ha : a.length < 4294967296) : Ctr Try.prog 49 [PS a, PS b] (.bool (decide (a = b))) := by
  refine ctr_of_wp hmix Try.func49 m49 rfl ?_
  unfold v49
  simp -failIfUnchanged (disch := first | omega | (simp <;> omega) | fail) only [go_sem, simprocAttr]
  refine wcond_dec (fun h => ?_) (fun h => ?_)
  · simp -failIfUnchanged (disch := first | omega | (simp <;> omega) | fail) only [go_sem, simprocAttr]
    have : a ≠ b := fun e => by subst e; simp at h
    simp [this]
  · simp -failIfUnchanged (disch := first | omega | (simp <;> omega) | fail) only [go_sem, simprocAttr]
    refine wp_loop' Nat (fun i => ⟨[(0, PS a), (1, PS b), (5, .int i)], [], [], none⟩) (fun i => i ≤ a.length ∧ a.take i = b.take i) (fun i => a.length - i) 0 (by simp) (by simp -failIfUnchanged (disch := first | omega | (simp <;> omega) | fail) only [go_sem, simprocAttr]; try rfl) ?_
    rintro i ⟨hi, hpre⟩
    simp -failIfUnchanged (disch := first | omega | (simp <;> omega) | fail) only [go_sem, simprocAttr]
    have hl : a.length = b.length := by omega
    refine wcond_dec (fun h => ?_) (fun h => ?_)
    · have hlt : i < a.length := by omega
      have e1 : a[i]? = some a[i] := List.getElem?_eq_getElem (by omega)
      have e2 : b[i]? = some b[i] := List.getElem?_eq_getElem (by omega)
      simp -failIfUnchanged (disch := first | omega | (simp <;> omega) | fail) only [go_sem, simprocAttr]
      rw [e1, e2]
      simp -failIfUnchanged (disch := first | omega | (simp <;> omega) | fail) only [go_sem, simprocAttr, wbin_sne2]
      refine wcond_dec (fun h => ?_) (fun h => ?_)
      · simp -failIfUnchanged (disch := first | omega | (simp <;> omega) | fail) only [go_sem, simprocAttr]
        have : a ≠ b := fun e => by subst e; simp at h
        simp [this]
      · simp -failIfUnchanged (disch := first | omega | (simp <;> omega) | fail) only [go_sem, simprocAttr]
        refine ⟨i + 1, ⟨by omega, ?_⟩, by dsimp only; omega, ?_⟩
        · rw [List.take_add_one, List.take_add_one, hpre, e1, e2]
          simp only [Decidable.not_not, Option.getD_some] at h
          have : a[i] = b[i] := by
            obtain ⟨x1, x2⟩ := h
            cases ha : a[i]
            cases hb : b[i]
            rw [ha, hb] at x1 x2
            simp only at x1 x2
            rw [x1, x2]
          rw [this]
        · simp -failIfUnchanged (disch := first | omega | (simp <;> omega) | fail) only [go_sem, simprocAttr]
          simp
    · simp -failIfUnchanged (disch := first | omega | (simp <;> omega) | fail) only [go_sem, simprocAttr]
      have e : i = a.length := by omega
      have : a = b := by
        rw [e, List.take_length, hl, List.take_length] at hpre
        exact hpre
      simp [this]

def bxM : Bx := ⟨[5, 3, 1], [9, 9, 9]⟩
def bxN : Bx := ⟨[5, 3, 1], [2, 1, 0]⟩

theorem c59 : Ctr Try.prog 59 [] (.tup [MB bxM, MB bxN]) := by
  refine ctr_of_wp hmix Try.func59 m59 rfl ?_
  unfold v59
  simp -failIfUnchanged (disch := first | omega | (simp <;> omega) | fail) only [go_sem, simprocAttr]
  simp [bxM, bxN]

theorem c16 : Ctr Try.prog 16 [] (.bool true) := by
  refine ctr_of_wp hmix Try.func16 m16 rfl ?_
  unfold v16
  simp -failIfUnchanged (disch := first | omega | (simp <;> omega) | fail) only [go_sem, simprocAttr]
  refine wcall c59 ?_
  have k1 : gauR bxM 6 = .tup [IS [3, 2, 1], .int 0] := by
    have e1 : askB bxM (within 6 0 40) = 0 := by decide
    have e2 : hasL bxM (6 : Int).toNat = [3, 2, 1] := by decide
    simp only [gauR, e1, e2, if_true]
  have k2 : ovrR bxN 6 = .tup [.int 3, .int 0] := by
    have e1 : askB bxN (within 6 0 40) = 0 := by decide
    have e2 : (6 : Int) - sumI (hasL bxN (6 : Int).toNat) = 3 := by decide
    simp only [ovrR, e1, e2, if_true]
  have k3 : trnR bxM 5 = .tup [.int 2, .int 0] := by
    have e1 : askB bxM (within 5 0 39) = 0 := by decide
    have e2 : nxt bxM (hasL bxM (5 : Int).toNat) = 2 := by decide
    simp only [trnR, e1, e2, if_true]
    rfl
  have k4 : exaR bxM 4 = .tup [PS [⟨20, 9⟩, ⟨4, 3⟩, ⟨4, 9⟩], .int 0] := by
    have e1 : askB bxM (within 4 0 40) = 0 := by decide
    have e2 : exL bxM (4 : Int).toNat bxM.sh.length = [⟨20, 9⟩, ⟨4, 3⟩, ⟨4, 9⟩] := by decide
    simp only [exaR, e1, e2, if_true]
  have k5 : remR bxM 4 = .tup [IS [2, 1, 1], .int 0] := by
    have e1 : askB bxM (within 4 0 40) = 0 := by decide
    have e2 : remL bxM 4 = [2, 1, 1] := by decide
    simp only [remR, e1, e2, if_true]
  have k6 : fstR bxM (parP bxM) 40 = .tup [.int 4, .int 0] := by
    have e1 : checkB bxM = true := by decide
    have e2 : fst (parP bxM) 40 = some 4 := by decide
    simp only [fstR, e1, e2, if_true]
    rfl
  have c1 := c20 bxM 6
  have c2 := c22 bxN 6
  have c3 := c24 bxM 5
  have c4 := c39 bxM 4
  have c5 := c34 bxM 4
  have c6 := c41 bxM
  rw [k1] at c1
  rw [k2] at c2
  rw [k3] at c3
  rw [k4] at c4
  rw [k5] at c5
  rw [k6] at c6
  simp -failIfUnchanged (disch := first | omega | (simp <;> omega) | fail) only [go_sem, simprocAttr]
  refine wcall c1 ?_
  simp -failIfUnchanged (disch := first | omega | (simp <;> omega) | fail) only [go_sem, simprocAttr]
  refine wcall c2 ?_
  simp -failIfUnchanged (disch := first | omega | (simp <;> omega) | fail) only [go_sem, simprocAttr]
  refine wcall c3 ?_
  simp -failIfUnchanged (disch := first | omega | (simp <;> omega) | fail) only [go_sem, simprocAttr]
  refine wcall c4 ?_
  simp -failIfUnchanged (disch := first | omega | (simp <;> omega) | fail) only [go_sem, simprocAttr]
  refine wcall c5 ?_
  simp -failIfUnchanged (disch := first | omega | (simp <;> omega) | fail) only [go_sem, simprocAttr]
  refine wcall c6 ?_
  simp -failIfUnchanged (disch := first | omega | (simp <;> omega) | fail) only [go_sem, simprocAttr]
  refine wcall (c26 [3, 2, 1] [3, 2, 1] (by decide)) ?_
  simp -failIfUnchanged (disch := first | omega | (simp <;> omega) | fail) only [go_sem, simprocAttr]
  refine wcall (c49 [⟨20, 9⟩, ⟨4, 3⟩, ⟨4, 9⟩] [⟨20, 9⟩, ⟨4, 3⟩, ⟨4, 9⟩] (by decide)) ?_
  simp -failIfUnchanged (disch := first | omega | (simp <;> omega) | fail) only [go_sem, simprocAttr]
  refine wcall (c26 [2, 1, 1] [2, 1, 1] (by decide)) ?_
  simp -failIfUnchanged (disch := first | omega | (simp <;> omega) | fail) only [go_sem, simprocAttr]

end Go.Proofs.Ytbghdcleoamkiaa

/- MouthsGauges, MouthsAll, MouthsWorth. -/
set_option linter.unusedSimpArgs false
set_option linter.unusedVariables false
set_option linter.unnecessarySimpa false
namespace Go.Proofs.Ytbghdcleoamkiaa
open Go Go.V

theorem gauR_ok {b : Bx} (hv : BV b) {n : Nat} (hn : n ≤ 40) : gauR b n = .tup [IS (hasL b n), .int 0] := by
  have e : askB b (within (n : Int) 0 40) = 0 := askB_0.2 ⟨check_of_val hv, within_iff.2 (by omega)⟩
  simp only [gauR, e, if_true, Int.toNat_natCast]

theorem c29 (b : Bx) (hv : BV b) (n : Nat) (hn : n ≤ 40) : Ctr Try.prog 29 [MB b, .int n] (.tup [IS (hasL b n), .bool true]) := by
  refine ctr_of_wp hmix Try.func29 m29 rfl ?_
  unfold v29
  have c20' := c20 b n
  rw [gauR_ok hv hn] at c20'
  have hg := gd_has hv n
  have hl := hasL_len hv n
  have hml := hv.len
  have n5 := hv.n5
  generalize hasL b n = h at *
  simp -failIfUnchanged (disch := first | omega | (simp <;> omega) | fail) only [go_sem, simprocAttr]
  refine wcall c20' ?_
  have e1 : decide (¬ (h.length : Int) = b.sh.length) = false := by simp; omega
  simp -failIfUnchanged (disch := first | omega | (simp <;> omega) | fail) only [go_sem, simprocAttr, e1]
  refine wp_loop' Nat (fun i => ⟨[(2, .ptr 2 0), (6, IS h), (8, .int i)], [(2, ⟨[IS b.sh, IS b.mo], false⟩)], [], none⟩) (fun i => i ≤ b.sh.length) (fun i => b.sh.length - i) 0 (by simp) (by simp -failIfUnchanged (disch := first | omega | (simp <;> omega) | fail) only [go_sem, simprocAttr]; try simp) ?_
  intro i hi
  have hi : i ≤ b.sh.length := hi
  simp -failIfUnchanged (disch := first | omega | (simp <;> omega) | fail) only [go_sem, simprocAttr]
  refine wcond_dec (fun hc => ?_) (fun hc => ?_)
  · have hlt : i < b.sh.length := by omega
    have h1 := hg.lo i hlt
    have h2 := hg.no i hlt
    have e2 : within (h[i]?.getD default) 0 (b.mo[i]?.getD default) = true := within_iff.2 h1
    simp -failIfUnchanged (disch := first | omega | (simp <;> omega) | fail) only [go_sem, simprocAttr]
    refine wcall (c35 _ _ _) ?_
    rw [e2]
    simp -failIfUnchanged (disch := first | omega | (simp <;> omega) | fail) only [go_sem, simprocAttr]
    refine WGd_bool (fun h3 => ?_) (fun h3 => ?_)
    · have e3 : h[i]?.getD default = 0 := h2 (of_decide_eq_true h3)
      have e4 : decide (0 < h[i]?.getD default) = false := by rw [e3]; rfl
      simp -failIfUnchanged (disch := first | omega | (simp <;> omega) | fail) only [go_sem, simprocAttr, h3, e4]
      refine ⟨i + 1, by dsimp only; omega, by dsimp only; omega, ?_⟩
      simp -failIfUnchanged (disch := first | omega | (simp <;> omega) | fail) only [go_sem, simprocAttr]
      try simp
    · simp -failIfUnchanged (disch := first | omega | (simp <;> omega) | fail) only [go_sem, simprocAttr, h3]
      refine ⟨i + 1, by dsimp only; omega, by dsimp only; omega, ?_⟩
      simp -failIfUnchanged (disch := first | omega | (simp <;> omega) | fail) only [go_sem, simprocAttr]
      try simp
  · simp -failIfUnchanged (disch := first | omega | (simp <;> omega) | fail) only [go_sem, simprocAttr]

/-- What both say of gauges. -/
theorem gau_ex (b : Bx) (f : Int) : ∃ (l : List Int) (e : Int), gauR b f = .tup [IS l, .int e] ∧ l.length < 100 := by
  unfold gauR
  refine ⟨_, _, rfl, ?_⟩
  split
  · rename_i h
    have hv := val_of_check (askB_0.1 h).1
    have := hasL_len hv f.toNat
    have := hv.n5
    omega
  · simp
theorem ovr_ex (b : Bx) (f : Int) : ∃ (l : Int) (e : Int), ovrR b f = .tup [.int l, .int e] := ⟨_, _, rfl⟩
theorem trn_ex (b : Bx) (f : Int) : ∃ (l : Int) (e : Int), trnR b f = .tup [.int l, .int e] := by
  unfold trnR
  dsimp only
  split
  · split
    · exact ⟨_, _, rfl⟩
    · exact ⟨_, _, rfl⟩
  · exact ⟨_, _, rfl⟩

theorem far_false {b : Bx} (h : farB b = false) : b.sh.length ≤ 40 ∧ b.mo.length ≤ 40 := by
  simp only [farB, Bool.or_eq_false_iff, decide_eq_false_iff_not] at h
  omega

theorem c3 (b : Bx) (f g : Int) : Ctr Try.prog 3 [MB b, .int f, .int g] (.bool true) := by
  refine ctr_of_wp hmix Try.func3 m3 rfl ?_
  unfold v3
  simp -failIfUnchanged (disch := first | omega | (simp <;> omega) | fail) only [go_sem, simprocAttr]
  refine wcall (c15 b) ?_
  cases hf : farB b with
  | true =>
    simp -failIfUnchanged (disch := first | omega | (simp <;> omega) | fail) only [go_sem, simprocAttr]
    refine wcall c16 ?_
    simp -failIfUnchanged (disch := first | omega | (simp <;> omega) | fail) only [go_sem, simprocAttr]
  | false =>
    obtain ⟨h1, h2⟩ := far_false hf
    obtain ⟨l, e, hl, hll⟩ := gau_ex b f
    obtain ⟨m, e2, hm⟩ := ovr_ex b f
    obtain ⟨n, e3, hn⟩ := trn_ex b g
    have a1 := c20 b f
    have a2 := c21 b f
    have a3 := c22 b f
    have a4 := c23 b f
    have a5 := c24 b g
    have a6 := c25 b g
    rw [hl] at a1 a2
    rw [hm] at a3 a4
    rw [hn] at a5 a6
    simp -failIfUnchanged (disch := first | omega | (simp <;> omega) | fail) only [go_sem, simprocAttr]
    refine wcall (c17 b (by omega) (by omega)) ?_
    simp -failIfUnchanged (disch := first | omega | (simp <;> omega) | fail) only [go_sem, simprocAttr]
    refine wcall (c18 b) ?_
    simp -failIfUnchanged (disch := first | omega | (simp <;> omega) | fail) only [go_sem, simprocAttr]
    refine wcall (c19 b) ?_
    simp -failIfUnchanged (disch := first | omega | (simp <;> omega) | fail) only [go_sem, simprocAttr, eq_self, not_true_eq_false]
    refine wcall a1 ?_
    simp -failIfUnchanged (disch := first | omega | (simp <;> omega) | fail) only [go_sem, simprocAttr]
    refine wcall a2 ?_
    simp -failIfUnchanged (disch := first | omega | (simp <;> omega) | fail) only [go_sem, simprocAttr]
    refine wcall a3 ?_
    simp -failIfUnchanged (disch := first | omega | (simp <;> omega) | fail) only [go_sem, simprocAttr]
    refine wcall a4 ?_
    simp -failIfUnchanged (disch := first | omega | (simp <;> omega) | fail) only [go_sem, simprocAttr]
    refine wcall a5 ?_
    simp -failIfUnchanged (disch := first | omega | (simp <;> omega) | fail) only [go_sem, simprocAttr]
    refine wcall a6 ?_
    simp -failIfUnchanged (disch := first | omega | (simp <;> omega) | fail) only [go_sem, simprocAttr]
    refine wcall (c26 l l (by omega)) ?_
    simp -failIfUnchanged (disch := first | omega | (simp <;> omega) | fail) only [go_sem, simprocAttr, eq_self]
    refine wcall (c27 b b (by omega) (by omega)) ?_
    simp -failIfUnchanged (disch := first | omega | (simp <;> omega) | fail) only [go_sem, simprocAttr, eq_self]
    refine wcall c16 ?_
    simp -failIfUnchanged (disch := first | omega | (simp <;> omega) | fail) only [go_sem, simprocAttr]

end Go.Proofs.Ytbghdcleoamkiaa

/- A row's arguments: a box, integers, a list of integers. -/
set_option linter.unusedSimpArgs false
set_option linter.unusedVariables false
set_option linter.unnecessarySimpa false
namespace Go.Proofs.Ytbghdcleoamkiaa
open Go Go.V

theorem map_choose {α β γ : Type} {F : α → γ} {G : β → γ} {Q : β → Prop} : ∀ (es : List α), (∀ x ∈ es, ∃ s, F x = G s ∧ Q s) → ∃ l : List β, es.map F = l.map G ∧ l.length = es.length ∧ ∀ s ∈ l, Q s
  | [], _ => ⟨[], rfl, rfl, by simp⟩
  | x :: r, h => by
    obtain ⟨s, h1, h2⟩ := h x (by simp)
    obtain ⟨l, h3, h4, h5⟩ := map_choose r fun y hy => h y (by simp [hy])
    refine ⟨s :: l, by simp [h1, h3], by simp [h4], ?_⟩
    intro t ht
    rcases List.mem_cons.1 ht with rfl | ht
    · exact h2
    · exact h5 t ht

theorem ty_is {cs : List AV} (h : Ty (.sl .int) cs) : ∃ l : List Int, cs = [IS l] ∧ l.length < 9223372036854775808 := by
  rw [Ty] at h
  obtain ⟨es, rfl, h1, h2⟩ := h
  obtain ⟨l, h3, h4, _⟩ := map_choose (F := fun x => if TC.isSt .int then AV.agg x else x[0]?.getD .und) (G := AV.int) (Q := fun _ => True) es (fun x hx => by
    have := h2 x hx
    rw [Ty] at this
    obtain ⟨n, _, rfl⟩ := this
    exact ⟨n, rfl, trivial⟩)
  refine ⟨l, ?_, by omega⟩
  rw [h3]
  rfl

theorem ty_box {av : AV} (h : TyV (.st [.sl .int, .sl .int]) av) : ∃ b : Bx, av = MB b := by
  obtain ⟨cs, rfl, h⟩ := h
  simp only [TyL] at h
  obtain ⟨a, x, rfl, ha, b, y, rfl, hb, rfl⟩ := h
  obtain ⟨l, rfl, _⟩ := ty_is ha
  obtain ⟨m, rfl, _⟩ := ty_is hb
  exact ⟨⟨l, m⟩, rfl⟩

theorem ty_four {av : AV} (h : TyV (.st [.int, .int, .int, .int]) av) : ∃ q f o g : Int, av = .agg [.int q, .int f, .int o, .int g] := by
  obtain ⟨cs, rfl, h⟩ := h
  simp only [TyL] at h
  obtain ⟨a, x, rfl, ha, b, y, rfl, hb, c, z, rfl, hc, d, u, rfl, hd, rfl⟩ := h
  rw [Ty] at ha hb hc hd
  obtain ⟨n, _, rfl⟩ := ha
  obtain ⟨m, _, rfl⟩ := hb
  obtain ⟨k, _, rfl⟩ := hc
  obtain ⟨j, _, rfl⟩ := hd
  exact ⟨n, m, k, j, rfl⟩

theorem laidOutP : laidOutB Try.prog = true := by kernel_rfl

end Go.Proofs.Ytbghdcleoamkiaa

/- Shared, Wider: a box in which one number is another one. -/
set_option linter.unusedSimpArgs false
set_option linter.unusedVariables false
set_option linter.unnecessarySimpa false
namespace Go.Proofs.Ytbghdcleoamkiaa
open Go Go.V

theorem flat_ints (xs : List Int) : flat (xs.map AV.int) = xs.map .int := by
  induction xs with
  | nil => rfl
  | cons x r ih => simp only [List.map_cons, flat, cells_int, ih]; rfl
attribute [go_sem] flat_ints

def sharedB (b : Bx) (q : Nat) (s : Int) : Bx := ⟨b.sh.set q s, b.mo⟩
def widerB (b : Bx) (q : Nat) (m : Int) : Bx := ⟨b.sh, b.mo.set q m⟩

theorem c36 (b : Bx) (hv : BV b) (q : Nat) (s : Int) (hq : q < b.sh.length) : Ctr Try.prog 36 [MB b, .int q, .int s] (MB (sharedB b q s)) := by
  refine ctr_of_wp hmix Try.func36 m36g rfl ?_
  unfold v36g
  have n5 := hv.n5
  have hml := hv.len
  simp -failIfUnchanged (disch := first | omega | (simp <;> omega) | fail) only [go_sem, simprocAttr]
  refine wcall_in hmix Try.func17 m17g rfl ?_
  unfold v17g
  simp -failIfUnchanged (disch := first | omega | (simp <;> omega) | fail) only [go_sem, simprocAttr]
  refine wopsN [K 1 0 0, K 2 0 0] ?_
  simp -failIfUnchanged (disch := first | omega | (simp <;> omega) | fail) only [go_sem, simprocAttr, chunks_ints, List.length_set, Nat.le_refl]
  rfl

theorem c37 (b : Bx) (hv : BV b) (q : Nat) (s : Int) (hq : q < b.sh.length) : Ctr Try.prog 37 [MB b, .int q, .int s] (MB (widerB b q s)) := by
  refine ctr_of_wp hmix Try.func37 m37g rfl ?_
  unfold v37g
  have n5 := hv.n5
  have hml := hv.len
  simp -failIfUnchanged (disch := first | omega | (simp <;> omega) | fail) only [go_sem, simprocAttr]
  refine wcall_in hmix Try.func17 m17g rfl ?_
  unfold v17g
  simp -failIfUnchanged (disch := first | omega | (simp <;> omega) | fail) only [go_sem, simprocAttr]
  refine wopsN [K 1 0 0, K 2 0 0] ?_
  simp -failIfUnchanged (disch := first | omega | (simp <;> omega) | fail) only [go_sem, simprocAttr, chunks_ints, List.length_set, Nat.le_refl]
  rfl

end Go.Proofs.Ytbghdcleoamkiaa

/- MouthsAll, MouthsWorth, MouthsAlike. -/
set_option linter.unusedSimpArgs false
set_option linter.unusedVariables false
set_option linter.unnecessarySimpa false
namespace Go.Proofs.Ytbghdcleoamkiaa
open Go Go.V

theorem ready_iff {b : Bx} {f : Int} (h : (checkB b && within f 0 40) = true) : BV b ∧ ∃ n : Nat, f = n ∧ n ≤ 40 := by
  rw [Bool.and_eq_true, within_iff] at h
  exact ⟨val_of_check h.1, f.toNat, by omega, by omega⟩

theorem quarter_iff {b : Bx} (hv : BV b) {q : Int} (h : within q 0 (w64 ((b.sh.length : Int) - 1)) = true) : ∃ n : Nat, q = n ∧ n < b.sh.length := by
  have := hv.n5
  rw [w64_id (by omega), within_iff] at h
  exact ⟨q.toNat, by omega, by omega⟩

theorem quarter_is {b : Bx} (hv : BV b) {n : Nat} (h : n < b.sh.length) : within (n : Int) 0 ((b.sh.length : Int) - 1) = true ∧ within (n : Int) 0 (w64 ((b.sh.length : Int) - 1)) = true := by
  have := hv.n5
  rw [w64_id (by omega)]
  have : within (n : Int) 0 ((b.sh.length : Int) - 1) = true := within_iff.2 (by omega)
  exact ⟨this, this⟩

theorem ovrR_ok {b : Bx} (hv : BV b) {n : Nat} (hn : n ≤ 40) : ovrR b n = .tup [.int (n - sumI (hasL b n)), .int 0] := by
  have e : askB b (within (n : Int) 0 40) = 0 := askB_0.2 ⟨check_of_val hv, within_iff.2 (by omega)⟩
  simp only [ovrR, e, if_true, Int.toNat_natCast]

theorem trnR_ok {b : Bx} (hv : BV b) {n : Nat} (hn : n ≤ 39) : trnR b n = if 0 ≤ nxt b (hasL b n) then .tup [.int (nxt b (hasL b n)), .int 0] else .tup [.int 0, .int 3] := by
  have e : askB b (within (n : Int) 0 39) = 0 := askB_0.2 ⟨check_of_val hv, within_iff.2 (by omega)⟩
  simp only [trnR, e, if_true, Int.toNat_natCast]

/-- Whether one of the first quarters can take one more. -/
def roomB (b : Bx) (h : List Int) (k : Nat) : Bool := (List.range k).any fun i => decide (0 < at0 b.sh i) && decide (at0 h i < at0 b.mo i)

theorem roomB_succ (b : Bx) (h : List Int) (k : Nat) : roomB b h (k + 1) = (roomB b h k || (decide (0 < at0 b.sh k) && decide (at0 h k < at0 b.mo k))) := by
  unfold roomB
  rw [List.range_succ, List.any_append]
  simp

theorem c4 (b : Bx) (f : Int) : Ctr Try.prog 4 [MB b, .int f] (.bool true) := by
  refine ctr_of_wp hmix Try.func4 m4 rfl ?_
  unfold v4
  simp -failIfUnchanged (disch := first | omega | (simp <;> omega) | fail) only [go_sem, simprocAttr]
  refine wcall (c28 b f) ?_
  cases hr : (checkB b && within f 0 40) with
  | false =>
    simp -failIfUnchanged (disch := first | omega | (simp <;> omega) | fail) only [go_sem, simprocAttr]
    refine wcall c16 ?_
    simp -failIfUnchanged (disch := first | omega | (simp <;> omega) | fail) only [go_sem, simprocAttr]
  | true =>
    obtain ⟨hv, n, rfl, hn⟩ := ready_iff hr
    have n5 := hv.n5
    have hml := hv.len
    simp -failIfUnchanged (disch := first | omega | (simp <;> omega) | fail) only [go_sem, simprocAttr]
    refine wcond_dec (fun h40 => ?_) (fun h40 => ?_)
    · simp -failIfUnchanged (disch := first | omega | (simp <;> omega) | fail) only [go_sem, simprocAttr]
      refine wcall c16 ?_
      simp -failIfUnchanged (disch := first | omega | (simp <;> omega) | fail) only [go_sem, simprocAttr]
    · have hn39 : n ≤ 39 := by omega
      have hg := gd_has hv n
      have hl := hasL_len hv n
      have hl1 := hasL_len hv (n + 1)
      have a3 := c22 b n
      have a5 := c24 b n
      rw [ovrR_ok hv hn] at a3
      rw [trnR_ok hv hn39] at a5
      have hsum := sum_has hv n
      obtain ⟨m1, m2⟩ := has_mem hv n
      have e1 : decide ((n : Int) - sumI (hasL b n) < 0) = false := by simp; omega
      have e2 : decide ((n : Int) < (n : Int) - sumI (hasL b n)) = false := by simp; omega
      have e3 : decide (¬ (sumI (hasL b n) + ((n : Int) - sumI (hasL b n)) = n)) = false := by simp; omega
      have key : ∃ (q e : Int), (if 0 ≤ nxt b (hasL b n) then AV.tup [.int (nxt b (hasL b n)), .int 0] else .tup [.int 0, .int 3]) = .tup [.int q, .int e] ∧ (decide (e = 0) || decide (e = 3)) = true ∧ (roomB b (hasL b n) b.sh.length == decide (e = 0)) = true ∧
          (e = 0 → ∃ r : Nat, q = r ∧ r < b.sh.length) ∧ ∀ i, i < b.sh.length → at0 (hasL b (n + 1)) i = at0 (hasL b n) i + if e = 0 ∧ (i : Int) = q then 1 else 0 := by
        rcases nxt_spec hv hg with ⟨e, hcl⟩ | ⟨r, e, hr, ho, _⟩
        · refine ⟨0, 3, by rw [e, if_neg (by omega)], by decide, ?_, fun h => by omega, fun i hi => ?_⟩
          · have : roomB b (hasL b n) b.sh.length = false := by
              simp only [roomB, List.any_eq_false, List.mem_range, Bool.and_eq_true, decide_eq_true_eq]
              intro i hi h
              exact hcl i hi ⟨by omega, h.2⟩
            rw [this]; rfl
          · show at0 (inc _ _) i = _
            rw [e, inc_neg]
            simp
        · refine ⟨r, 0, by rw [e, if_pos (by omega)], by decide, ?_, fun _ => ⟨r, rfl, hr⟩, fun i hi => ?_⟩
          · have hs := hv.s0 r hr
            have : roomB b (hasL b n) b.sh.length = true := by
              simp only [roomB, List.any_eq_true, List.mem_range, Bool.and_eq_true, decide_eq_true_eq]
              exact ⟨r, hr, by have := ho.1; omega, ho.2⟩
            rw [this]; rfl
          · show at0 (inc _ _) i = _
            rw [e, inc_at hl hr]
            by_cases h : r = i
            · subst h
              rw [if_pos rfl, if_pos ⟨rfl, rfl⟩]
            · rw [if_neg h, if_neg (by omega)]
              omega
      obtain ⟨q, e, hqe, k1, k2, k3, k4⟩ := key
      rw [hqe] at a5
      have bd0 := fun i => at0_has hv n i
      have a0 := c29 b hv n hn
      have a1 := c29 b hv (n + 1) (by omega)
      generalize hasL b n = h at *
      generalize hasL b (n + 1) = k at *
      simp -failIfUnchanged (disch := first | omega | (simp <;> omega) | fail) only [go_sem, simprocAttr]
      refine wcall a0 ?_
      simp -failIfUnchanged (disch := first | omega | (simp <;> omega) | fail) only [go_sem, simprocAttr]
      refine wcall a1 ?_
      simp -failIfUnchanged (disch := first | omega | (simp <;> omega) | fail) only [go_sem, simprocAttr]
      refine wcall a3 ?_
      simp -failIfUnchanged (disch := first | omega | (simp <;> omega) | fail) only [go_sem, simprocAttr]
      refine wcall a5 ?_
      simp -failIfUnchanged (disch := first | omega | (simp <;> omega) | fail) only [go_sem, simprocAttr]
      refine wcall (c30 e) ?_
      simp -failIfUnchanged (disch := first | omega | (simp <;> omega) | fail) only [go_sem, simprocAttr, k1, e1, e2]
      refine wcall (c31 h m1 m2) ?_
      simp -failIfUnchanged (disch := first | omega | (simp <;> omega) | fail) only [go_sem, simprocAttr, e3]
      refine wp_loop' Nat (fun i => ⟨[(2, .ptr 2 0), (5, IS h), (7, IS k), (11, .int q), (12, .int e), (13, .bool (roomB b h i)), (14, .int i)], [(2, ⟨[IS b.sh, IS b.mo], false⟩)], [], none⟩) (fun i => i ≤ b.sh.length) (fun i => b.sh.length - i) 0 (by simp) (by simp -failIfUnchanged (disch := first | omega | (simp <;> omega) | fail) only [go_sem, simprocAttr]; simp [roomB]) ?_
      intro i hi
      have hi : i ≤ b.sh.length := hi
      simp -failIfUnchanged (disch := first | omega | (simp <;> omega) | fail) only [go_sem, simprocAttr]
      refine wcond_dec (fun hc => ?_) (fun hc => ?_)
      · have hlt : i < b.sh.length := by omega
        have hrs := roomB_succ b h i
        have next : ∀ (x : Bool), x = roomB b h (i + 1) → ∃ y, (fun i => i ≤ b.sh.length) y ∧ b.sh.length - y < b.sh.length - i ∧ leS ⟨[(2, .ptr 2 0), (5, IS h), (7, IS k), (11, .int q), (12, .int e), (13, .bool x), (14, .int ((i : Int) + 1))], [(2, ⟨[IS b.sh, IS b.mo], false⟩)], [], none⟩ ((fun i : Nat => (⟨[(2, .ptr 2 0), (5, IS h), (7, IS k), (11, .int q), (12, .int e), (13, .bool (roomB b h i)), (14, .int i)], [(2, ⟨[IS b.sh, IS b.mo], false⟩)], [], none⟩ : AS)) y) := by
          intro x hx
          refine ⟨i + 1, by dsimp only; omega, by omega, ?_⟩
          simp -failIfUnchanged (disch := first | omega | (simp <;> omega) | fail) only [go_sem, simprocAttr]
          simp [hx]
        cases hb : roomB b h i with
        | true =>
          rw [hb, Bool.true_or] at hrs
          simp -failIfUnchanged (disch := first | omega | (simp <;> omega) | fail) only [go_sem, simprocAttr]
          exact next true hrs.symm
        | false =>
          rw [hb, Bool.false_or] at hrs
          simp -failIfUnchanged (disch := first | omega | (simp <;> omega) | fail) only [go_sem, simprocAttr]
          refine WGd_bool (fun h3 => ?_) (fun h3 => ?_)
          · have h3' : decide (0 < at0 b.sh i) = true := h3
            rw [h3', Bool.true_and] at hrs
            simp -failIfUnchanged (disch := first | omega | (simp <;> omega) | fail) only [go_sem, simprocAttr, h3]
            exact next _ hrs.symm
          · have h3' : decide (0 < at0 b.sh i) = false := h3
            rw [h3', Bool.false_and] at hrs
            simp -failIfUnchanged (disch := first | omega | (simp <;> omega) | fail) only [go_sem, simprocAttr, h3]
            exact next _ hrs.symm
      · have ei : i = b.sh.length := by omega
        subst ei
        simp -failIfUnchanged (disch := first | omega | (simp <;> omega) | fail) only [go_sem, simprocAttr, k2]
        refine WGd_bool (fun h5 => ?_) (fun h5 => ?_)
        · obtain ⟨r, hqr, hrn⟩ := k3 (of_decide_eq_true h5)
          obtain ⟨q1, q2⟩ := quarter_is hv hrn
          rw [← hqr] at q1 q2
          simp -failIfUnchanged (disch := first | omega | (simp <;> omega) | fail) only [go_sem, simprocAttr, h5]
          refine wcall (c32 b q) ?_
          rw [q2]
          simp -failIfUnchanged (disch := first | omega | (simp <;> omega) | fail) only [go_sem, simprocAttr]
          refine wp_loop' Nat (fun i => ⟨[(5, IS h), (7, IS k), (11, .int q), (12, .int e), (15, .int i)], [], [], none⟩) (fun i => i ≤ b.sh.length) (fun i => b.sh.length - i) 0 (by simp) (by simp -failIfUnchanged (disch := first | omega | (simp <;> omega) | fail) only [go_sem, simprocAttr]; try simp) ?_
          intro i hi
          have hi : i ≤ b.sh.length := hi
          simp -failIfUnchanged (disch := first | omega | (simp <;> omega) | fail) only [go_sem, simprocAttr]
          refine wcond_dec (fun hc => ?_) (fun hc => ?_)
          · have hlt : i < b.sh.length := by omega
            have hk4 := k4 i hlt
            have hb0 : 0 ≤ h[i]?.getD default ∧ h[i]?.getD default ≤ 20 := bd0 i
            simp -failIfUnchanged (disch := first | omega | (simp <;> omega) | fail) only [go_sem, simprocAttr]
            refine WGd_bool (fun h6 => ?_) (fun h6 => ?_)
            · have h6' : e = 0 := of_decide_eq_true h6
              by_cases h7 : (i : Int) = q
              · rw [if_pos ⟨h6', h7⟩] at hk4
                have h7' : decide ((i : Int) = q) = true := decide_eq_true h7
                have e9 : decide (¬ (k[i]?.getD default = h[i]?.getD default + 1)) = false := decide_eq_false (fun hh => hh hk4)
                simp -failIfUnchanged (disch := first | omega | (simp <;> omega) | fail) only [go_sem, simprocAttr, h6, h7', e9]
                refine ⟨i + 1, by dsimp only; omega, by dsimp only; omega, ?_⟩
                simp -failIfUnchanged (disch := first | omega | (simp <;> omega) | fail) only [go_sem, simprocAttr]
                try simp
              · rw [if_neg (fun hh => h7 hh.2), Int.add_zero] at hk4
                have h7' : decide ((i : Int) = q) = false := decide_eq_false h7
                have e9 : decide (¬ (k[i]?.getD default = h[i]?.getD default)) = false := decide_eq_false (fun hh => hh hk4)
                simp -failIfUnchanged (disch := first | omega | (simp <;> omega) | fail) only [go_sem, simprocAttr, h6, h7', e9]
                refine ⟨i + 1, by dsimp only; omega, by dsimp only; omega, ?_⟩
                simp -failIfUnchanged (disch := first | omega | (simp <;> omega) | fail) only [go_sem, simprocAttr]
                try simp
            · have h6' : ¬ e = 0 := of_decide_eq_false h6
              rw [if_neg (fun hh => h6' hh.1), Int.add_zero] at hk4
              have e9 : decide (¬ (k[i]?.getD default = h[i]?.getD default)) = false := decide_eq_false (fun hh => hh hk4)
              simp -failIfUnchanged (disch := first | omega | (simp <;> omega) | fail) only [go_sem, simprocAttr, h6, e9]
              refine ⟨i + 1, by dsimp only; omega, by dsimp only; omega, ?_⟩
              simp -failIfUnchanged (disch := first | omega | (simp <;> omega) | fail) only [go_sem, simprocAttr]
              try simp
          · simp -failIfUnchanged (disch := first | omega | (simp <;> omega) | fail) only [go_sem, simprocAttr]
            refine wcall c16 ?_
            simp -failIfUnchanged (disch := first | omega | (simp <;> omega) | fail) only [go_sem, simprocAttr]
        · simp -failIfUnchanged (disch := first | omega | (simp <;> omega) | fail) only [go_sem, simprocAttr, h5]
          refine wp_loop' Nat (fun i => ⟨[(5, IS h), (7, IS k), (11, .int q), (12, .int e), (15, .int i)], [], [], none⟩) (fun i => i ≤ b.sh.length) (fun i => b.sh.length - i) 0 (by simp) (by simp -failIfUnchanged (disch := first | omega | (simp <;> omega) | fail) only [go_sem, simprocAttr]; try simp) ?_
          intro i hi
          have hi : i ≤ b.sh.length := hi
          simp -failIfUnchanged (disch := first | omega | (simp <;> omega) | fail) only [go_sem, simprocAttr]
          refine wcond_dec (fun hc => ?_) (fun hc => ?_)
          · have hlt : i < b.sh.length := by omega
            have hk4 := k4 i hlt
            have hb0 : 0 ≤ h[i]?.getD default ∧ h[i]?.getD default ≤ 20 := bd0 i
            simp -failIfUnchanged (disch := first | omega | (simp <;> omega) | fail) only [go_sem, simprocAttr]
            refine WGd_bool (fun h6 => ?_) (fun h6 => ?_)
            · have h6' : e = 0 := of_decide_eq_true h6
              by_cases h7 : (i : Int) = q
              · rw [if_pos ⟨h6', h7⟩] at hk4
                have h7' : decide ((i : Int) = q) = true := decide_eq_true h7
                have e9 : decide (¬ (k[i]?.getD default = h[i]?.getD default + 1)) = false := decide_eq_false (fun hh => hh hk4)
                simp -failIfUnchanged (disch := first | omega | (simp <;> omega) | fail) only [go_sem, simprocAttr, h6, h7', e9]
                refine ⟨i + 1, by dsimp only; omega, by dsimp only; omega, ?_⟩
                simp -failIfUnchanged (disch := first | omega | (simp <;> omega) | fail) only [go_sem, simprocAttr]
                try simp
              · rw [if_neg (fun hh => h7 hh.2), Int.add_zero] at hk4
                have h7' : decide ((i : Int) = q) = false := decide_eq_false h7
                have e9 : decide (¬ (k[i]?.getD default = h[i]?.getD default)) = false := decide_eq_false (fun hh => hh hk4)
                simp -failIfUnchanged (disch := first | omega | (simp <;> omega) | fail) only [go_sem, simprocAttr, h6, h7', e9]
                refine ⟨i + 1, by dsimp only; omega, by dsimp only; omega, ?_⟩
                simp -failIfUnchanged (disch := first | omega | (simp <;> omega) | fail) only [go_sem, simprocAttr]
                try simp
            · have h6' : ¬ e = 0 := of_decide_eq_false h6
              rw [if_neg (fun hh => h6' hh.1), Int.add_zero] at hk4
              have e9 : decide (¬ (k[i]?.getD default = h[i]?.getD default)) = false := decide_eq_false (fun hh => hh hk4)
              simp -failIfUnchanged (disch := first | omega | (simp <;> omega) | fail) only [go_sem, simprocAttr, h6, e9]
              refine ⟨i + 1, by dsimp only; omega, by dsimp only; omega, ?_⟩
              simp -failIfUnchanged (disch := first | omega | (simp <;> omega) | fail) only [go_sem, simprocAttr]
              try simp
          · simp -failIfUnchanged (disch := first | omega | (simp <;> omega) | fail) only [go_sem, simprocAttr]
            refine wcall c16 ?_
            simp -failIfUnchanged (disch := first | omega | (simp <;> omega) | fail) only [go_sem, simprocAttr]

end Go.Proofs.Ytbghdcleoamkiaa

/- MouthsWorth, MouthsAlike. -/
set_option linter.unusedSimpArgs false
set_option linter.unusedVariables false
set_option linter.unnecessarySimpa false
namespace Go.Proofs.Ytbghdcleoamkiaa
open Go Go.V

theorem c5 (b : Bx) (f q fl o g : Int) : Ctr Try.prog 5 [MB b, .int f, .agg [.int q, .int fl, .int o, .int g]] (.bool true) := by
  refine ctr_of_wp hmix Try.func5 m5 rfl ?_
  unfold v5
  simp -failIfUnchanged (disch := first | omega | (simp <;> omega) | fail) only [go_sem, simprocAttr]
  refine wcall (c28 b f) ?_
  cases hr : (checkB b && within f 0 40) with
  | false =>
    simp -failIfUnchanged (disch := first | omega | (simp <;> omega) | fail) only [go_sem, simprocAttr]
    refine wcall c16 ?_
    simp -failIfUnchanged (disch := first | omega | (simp <;> omega) | fail) only [go_sem, simprocAttr]
  | true =>
    obtain ⟨hv, n, rfl, hn⟩ := ready_iff hr
    have n5 := hv.n5
    have hml := hv.len
    simp -failIfUnchanged (disch := first | omega | (simp <;> omega) | fail) only [go_sem, simprocAttr]
    refine wcall (c32 b q) ?_
    cases hq : within q 0 (w64 ((b.sh.length : Int) - 1)) with
    | false =>
      simp -failIfUnchanged (disch := first | omega | (simp <;> omega) | fail) only [go_sem, simprocAttr]
      refine wcall c16 ?_
      simp -failIfUnchanged (disch := first | omega | (simp <;> omega) | fail) only [go_sem, simprocAttr]
    | true =>
      simp -failIfUnchanged (disch := first | omega | (simp <;> omega) | fail) only [go_sem, simprocAttr]
      refine wcall (c32 b o) ?_
      cases ho : within o 0 (w64 ((b.sh.length : Int) - 1)) with
      | false =>
        simp -failIfUnchanged (disch := first | omega | (simp <;> omega) | fail) only [go_sem, simprocAttr]
        refine wcall c16 ?_
        simp -failIfUnchanged (disch := first | omega | (simp <;> omega) | fail) only [go_sem, simprocAttr]
      | true =>
        obtain ⟨Q, rfl, hQ⟩ := quarter_iff hv hq
        obtain ⟨O, rfl, hO⟩ := quarter_iff hv ho
        have hg := gd_has hv n
        have hl := hasL_len hv n
        have hsq := hv.s0 Q hQ
        have hso := hv.s0 O hO
        have hbq : 0 ≤ (hasL b n)[Q]?.getD default ∧ (hasL b n)[Q]?.getD default ≤ 20 := at0_has hv n Q
        have hbo : 0 ≤ (hasL b n)[O]?.getD default ∧ (hasL b n)[O]?.getD default ≤ 20 := at0_has hv n O
        have hlo := (hg.lo O hO).2
        have a1 := c29 b hv n hn
        have hw := worth hg hQ hO
        generalize hasL b n = h at *
        simp -failIfUnchanged (disch := first | omega | (simp <;> omega) | fail) only [go_sem, simprocAttr]
        refine wcall a1 ?_
        simp -failIfUnchanged (disch := first | omega | (simp <;> omega) | fail) only [go_sem, simprocAttr]
        refine WGd_bool (fun h1 => ?_) (fun h1 => ?_)
        · simp -failIfUnchanged (disch := first | omega | (simp <;> omega) | fail) only [go_sem, simprocAttr, h1]
          refine WGd_bool (fun h2 => ?_) (fun h2 => ?_)
          · have h2' : ¬ h[Q]?.getD default = 0 := of_decide_eq_false h2
            simp -failIfUnchanged (disch := first | omega | (simp <;> omega) | fail) only [go_sem, simprocAttr, h2]
            refine wcond_dec (fun h3 => ?_) (fun h3 => ?_)
            · simp -failIfUnchanged (disch := first | omega | (simp <;> omega) | fail) only [go_sem, simprocAttr]
              refine wcall c16 ?_
              simp -failIfUnchanged (disch := first | omega | (simp <;> omega) | fail) only [go_sem, simprocAttr]
            · have h3' : ¬ at0 h O = at0 b.mo O := h3
              have h2'' : ¬ at0 h Q = 0 := h2'
              have hw2 := hw (by show 0 < h[Q]?.getD default; omega) (by omega) hsq.1
              have p1 := prod_bd hsq (h := at0 h O) ⟨hbo.1, Int.le_trans hbo.2 (by decide)⟩
              have p2 : at0 b.sh O * (2 * at0 h Q - 1) ≤ 5000 := Int.le_trans hw2 p1.2
              have p3 : 0 ≤ at0 b.sh O * (2 * at0 h Q - 1) := Int.mul_nonneg hso.1 (by show 0 ≤ 2 * h[Q]?.getD default - 1; omega)
              have e1 : w64 (at0 b.sh Q * (2 * at0 h O + 1)) = at0 b.sh Q * (2 * at0 h O + 1) := w64_id (by omega)
              have e2 : w64 (at0 b.sh O * (2 * at0 h Q - 1)) = at0 b.sh O * (2 * at0 h Q - 1) := w64_id (by omega)
              have c33' := c33 (at0 b.sh Q) (2 * at0 h Q - 1) (at0 b.sh O) (2 * at0 h O + 1)
              rw [e1, e2, show decide (at0 b.sh Q * (2 * at0 h O + 1) < at0 b.sh O * (2 * at0 h Q - 1)) = false from decide_eq_false (by omega)] at c33'
              simp -failIfUnchanged (disch := first | omega | (simp <;> omega) | fail) only [go_sem, simprocAttr]
              refine wcall c33' ?_
              simp -failIfUnchanged (disch := first | omega | (simp <;> omega) | fail) only [go_sem, simprocAttr]
              refine wcall c16 ?_
              simp -failIfUnchanged (disch := first | omega | (simp <;> omega) | fail) only [go_sem, simprocAttr]
          · simp -failIfUnchanged (disch := first | omega | (simp <;> omega) | fail) only [go_sem, simprocAttr, h2]
            refine wcall c16 ?_
            simp -failIfUnchanged (disch := first | omega | (simp <;> omega) | fail) only [go_sem, simprocAttr]
        · simp -failIfUnchanged (disch := first | omega | (simp <;> omega) | fail) only [go_sem, simprocAttr, h1]
          refine wcall c16 ?_
          simp -failIfUnchanged (disch := first | omega | (simp <;> omega) | fail) only [go_sem, simprocAttr]

theorem shared_val {b : Bx} (hv : BV b) (q : Nat) {s : Int} (hs : 0 ≤ s ∧ s ≤ 20) : BV (sharedB b q s) := by
  refine ⟨by simp [sharedB]; exact hv.n5, by simp [sharedB]; exact hv.len, fun i hi => ?_, fun i hi => ?_⟩
  · have hi : i < b.sh.length := by simpa [sharedB] using hi
    show 0 ≤ at0 (b.sh.set q s) i ∧ at0 (b.sh.set q s) i ≤ 20
    rcases Nat.lt_or_ge q b.sh.length with h | h
    · rw [at0_set h]
      split
      · exact hs
      · exact hv.s0 i hi
    · rw [List.set_eq_of_length_le h]
      exact hv.s0 i hi
  · have hi : i < b.sh.length := by simpa [sharedB] using hi
    exact hv.m0 i hi

theorem wider_val {b : Bx} (hv : BV b) (q : Nat) {m : Int} (hm : 0 ≤ m ∧ m ≤ 20) : BV (widerB b q m) := by
  have hl := hv.len
  refine ⟨hv.n5, by simp [widerB]; exact hl, hv.s0, fun i hi => ?_⟩
  have hi : i < b.sh.length := hi
  show 0 ≤ at0 (b.mo.set q m) i ∧ at0 (b.mo.set q m) i ≤ 20
  rcases Nat.lt_or_ge q b.mo.length with h | h
  · rw [at0_set h]
    split
    · exact hm
    · exact hv.m0 i hi
  · rw [List.set_eq_of_length_le h]
    exact hv.m0 i hi

theorem remR_ok {b : Bx} (hv : BV b) {n : Nat} (hn : n ≤ 40) : remR b n = .tup [IS (remL b n), .int 0] := by
  have e : askB b (within (n : Int) 0 40) = 0 := askB_0.2 ⟨check_of_val hv, within_iff.2 (by omega)⟩
  simp only [remR, e, if_true]

end Go.Proofs.Ytbghdcleoamkiaa

/- MouthsMosts. -/
set_option linter.unusedSimpArgs false
set_option linter.unusedVariables false
set_option linter.unnecessarySimpa false
namespace Go.Proofs.Ytbghdcleoamkiaa
open Go Go.V

def wmI (b : Bx) (i : Nat) : List Int := (List.range b.sh.length).map fun j => if j < i then 20 else at0 b.mo j

theorem wmI_0 {b : Bx} (hl : b.mo.length = b.sh.length) : wmI b 0 = b.mo := by
  unfold wmI
  rw [← hl]
  simp only [Nat.not_lt_zero, if_false]
  exact list_rmap b.mo
theorem wmI_len (b : Bx) (i : Nat) : (wmI b i).length = b.sh.length := by simp [wmI]
theorem wmI_set (b : Bx) (i : Nat) (hi : i < b.sh.length) : (wmI b i).set i 20 = wmI b (i + 1) := by
  apply List.ext_getElem (by simp [wmI])
  intro j h1 h2
  simp only [wmI, List.length_map, List.length_range] at h2
  rw [List.getElem_set]
  by_cases e : i = j
  · subst e
    simp [wmI]
  · rw [if_neg e]
    simp only [wmI, List.getElem_map, List.getElem_range]
    by_cases h3 : j < i
    · rw [if_pos h3, if_pos (by omega)]
    · rw [if_neg h3, if_neg (by omega)]

def wideB (b : Bx) : Bx := ⟨b.sh, wmI b b.sh.length⟩

theorem wide_val {b : Bx} (hv : BV b) : BV (wideB b) := by
  refine ⟨hv.n5, wmI_len _ _, hv.s0, fun i hi => ?_⟩
  have hi : i < b.sh.length := hi
  show 0 ≤ at0 (wmI b b.sh.length) i ∧ at0 (wmI b b.sh.length) i ≤ 20
  unfold wmI
  rw [at0_rmap _ hi, if_pos hi]
  decide

def fullB (b : Bx) (h : List Int) (k : Nat) : Bool := (List.range k).any fun i => decide (at0 h i = at0 b.mo i)
theorem fullB_succ (b : Bx) (h : List Int) (k : Nat) : fullB b h (k + 1) = (fullB b h k || decide (at0 h k = at0 b.mo k)) := by
  unfold fullB
  rw [List.range_succ, List.any_append]
  simp

theorem c7 (b : Bx) (f q fl o g : Int) : Ctr Try.prog 7 [MB b, .int f, .agg [.int q, .int fl, .int o, .int g]] (.bool true) := by
  refine ctr_of_wp hmix Try.func7 m7g rfl ?_
  unfold v7g
  simp -failIfUnchanged (disch := first | omega | (simp <;> omega) | fail) only [go_sem, simprocAttr]
  refine wcall (c28 b f) ?_
  cases hr : (checkB b && within f 0 40) with
  | false =>
    simp -failIfUnchanged (disch := first | omega | (simp <;> omega) | fail) only [go_sem, simprocAttr]
    refine wcall c16 ?_
    simp -failIfUnchanged (disch := first | omega | (simp <;> omega) | fail) only [go_sem, simprocAttr]
  | true =>
    obtain ⟨hv, n, rfl, hn⟩ := ready_iff hr
    have n5 := hv.n5
    have hml := hv.len
    simp -failIfUnchanged (disch := first | omega | (simp <;> omega) | fail) only [go_sem, simprocAttr]
    refine wcall (c32 b q) ?_
    cases hq : within q 0 (w64 ((b.sh.length : Int) - 1)) with
    | false =>
      simp -failIfUnchanged (disch := first | omega | (simp <;> omega) | fail) only [go_sem, simprocAttr]
      refine wcall c16 ?_
      simp -failIfUnchanged (disch := first | omega | (simp <;> omega) | fail) only [go_sem, simprocAttr]
    | true =>
      obtain ⟨Q, rfl, hQ⟩ := quarter_iff hv hq
      simp -failIfUnchanged (disch := first | omega | (simp <;> omega) | fail) only [go_sem, simprocAttr]
      refine wcall (c35 _ _ _) ?_
      cases hw : within g (b.mo[Q]?.getD default) 20 with
      | false =>
        simp -failIfUnchanged (disch := first | omega | (simp <;> omega) | fail) only [go_sem, simprocAttr]
        refine wcall c16 ?_
        simp -failIfUnchanged (disch := first | omega | (simp <;> omega) | fail) only [go_sem, simprocAttr]
      | true =>
        have hw2 : at0 b.mo Q ≤ g ∧ g ≤ 20 := within_iff.1 hw
        have hmq := hv.m0 Q hQ
        have hv1 := wider_val hv Q (m := g) (by omega)
        have k37 := c37 b hv Q g hQ
        have hm : Mre b (widerB b Q g) Q := by
          refine ⟨hQ, rfl, Int.le_refl _, ?_, fun i _ => rfl, fun i hi => ?_⟩
          · show at0 b.mo Q ≤ at0 (b.mo.set Q g) Q
            rw [at0_set (by omega), if_pos rfl]
            exact hw2.1
          · show at0 (b.mo.set Q g) i = at0 b.mo i
            rw [at0_set (by omega), if_neg (by omega)]
        have m1 := more_own hv hv1 hm n
        have m2 := fun {i} (hi : i < b.sh.length) (hne : i ≠ Q) => more_other hv hv1 hm n hi hne
        have hlw : (widerB b Q g).sh.length = b.sh.length := rfl
        have hl := hasL_len hv n
        have hl1 := hasL_len hv1 n
        have a1 := c29 b hv n hn
        have a2 := c29 _ hv1 n hn
        have hv2 := wide_val hv
        have a3 := c29 _ hv2 n hn
        have hl2 := hasL_len hv2 n
        have hwide : fullB b (hasL b n) b.sh.length = false → hasL (wideB b) n = hasL b n := by
          intro hf
          refine has_wide (b' := wideB b) hv rfl (fun i => rfl) (fun i hi => ?_) n (fun i hi => ?_)
          · show at0 b.mo i ≤ at0 (wmI b b.sh.length) i
            unfold wmI
            rw [at0_rmap _ hi, if_pos hi]
            exact (hv.m0 i hi).2
          · simp only [fullB, List.any_eq_false, List.mem_range, decide_eq_true_eq] at hf
            exact hf i hi
        rw [hlw] at hl1
        have a3' : Ctr Try.prog 29 [.agg [IS b.sh, IS (wmI b b.sh.length)], .int n] (.tup [IS (hasL (wideB b) n), .bool true]) := a3
        generalize hasL (wideB b) n = hw3 at *
        generalize widerB b Q g = W at *
        generalize hasL b n = h at *
        generalize hasL W n = k at *
        have hl2 : hw3.length = b.sh.length := hl2
        have e1 : decide (k[Q]?.getD default < h[Q]?.getD default) = false := decide_eq_false (by show ¬ at0 k Q < at0 h Q; omega)
        simp -failIfUnchanged (disch := first | omega | (simp <;> omega) | fail) only [go_sem, simprocAttr]
        refine wcall a1 ?_
        simp -failIfUnchanged (disch := first | omega | (simp <;> omega) | fail) only [go_sem, simprocAttr]
        refine wcall k37 ?_
        simp -failIfUnchanged (disch := first | omega | (simp <;> omega) | fail) only [go_sem, simprocAttr]
        refine wcall a2 ?_
        simp -failIfUnchanged (disch := first | omega | (simp <;> omega) | fail) only [go_sem, simprocAttr, e1]
        refine wcall_in hmix Try.func17 m17g rfl ?_
        unfold v17g
        simp -failIfUnchanged (disch := first | omega | (simp <;> omega) | fail) only [go_sem, simprocAttr]
        refine wp_loop' Nat (fun i => ⟨[(1, .int n), (3, .ptr 3 0), (5, .ptr 5 0), (7, IS h), (9, IS k), (11, .bool (fullB b h i)), (12, .ptr 12 0), (13, .int i)],
          [(12, ⟨[.gsl 1 0 0 1 b.sh.length false, .gsl 2 0 0 1 b.mo.length false], false⟩), (K 2 0 0, ⟨(wmI b i).map .int, false⟩), (K 1 0 0, ⟨b.sh.map .int, false⟩), (5, ⟨[.int (Q : Nat), .int fl, .int o, .int g], false⟩), (3, ⟨[IS b.sh, IS b.mo], false⟩)], [], none⟩) (fun i => i ≤ b.sh.length) (fun i => b.sh.length - i) 0 (by simp) (by simp -failIfUnchanged (disch := first | omega | (simp <;> omega) | fail) only [go_sem, simprocAttr]; simp [fullB, wmI_0 hml]) ?_
        intro i hi
        have hi : i ≤ b.sh.length := hi
        have hwl := wmI_len b i
        simp -failIfUnchanged (disch := first | omega | (simp <;> omega) | fail) only [go_sem, simprocAttr]
        refine wcond_dec (fun hc => ?_) (fun hc => ?_)
        · have hlt : i < b.sh.length := by omega
          have hfs := fullB_succ b h i
          have next : ∀ (x : Bool), x = fullB b h (i + 1) → ∃ y, (fun i => i ≤ b.sh.length) y ∧ b.sh.length - y < b.sh.length - i ∧ leS ⟨[(1, .int n), (3, .ptr 3 0), (5, .ptr 5 0), (7, IS h), (9, IS k), (11, .bool x), (12, .ptr 12 0), (13, .int ((i : Int) + 1))],
              [(12, ⟨[.gsl 1 0 0 1 b.sh.length false, .gsl 2 0 0 1 b.mo.length false], false⟩), (K 2 0 0, ⟨((wmI b i).set i 20).map .int, false⟩), (K 1 0 0, ⟨b.sh.map .int, false⟩), (5, ⟨[.int (Q : Nat), .int fl, .int o, .int g], false⟩), (3, ⟨[IS b.sh, IS b.mo], false⟩)], [], none⟩
              ((fun i : Nat => (⟨[(1, .int n), (3, .ptr 3 0), (5, .ptr 5 0), (7, IS h), (9, IS k), (11, .bool (fullB b h i)), (12, .ptr 12 0), (13, .int i)],
              [(12, ⟨[.gsl 1 0 0 1 b.sh.length false, .gsl 2 0 0 1 b.mo.length false], false⟩), (K 2 0 0, ⟨(wmI b i).map .int, false⟩), (K 1 0 0, ⟨b.sh.map .int, false⟩), (5, ⟨[.int (Q : Nat), .int fl, .int o, .int g], false⟩), (3, ⟨[IS b.sh, IS b.mo], false⟩)], [], none⟩ : AS)) y) := by
            intro x hx
            refine ⟨i + 1, by dsimp only; omega, by omega, ?_⟩
            dsimp only
            rw [wmI_set b i hlt, ← hx]
            simp -failIfUnchanged (disch := first | omega | (simp <;> omega) | fail) only [go_sem, simprocAttr]
            try simp
          simp -failIfUnchanged (disch := first | omega | (simp <;> omega) | fail) only [go_sem, simprocAttr]
          refine WGd_bool (fun h3 => ?_) (fun h3 => ?_)
          · have h3' : ¬ (i : Int) = Q := by simpa using h3
            have e2 : decide (h[i]?.getD default < k[i]?.getD default) = false := decide_eq_false (by
              have := m2 hlt (show i ≠ Q by omega)
              show ¬ at0 h i < at0 k i
              omega)
            simp -failIfUnchanged (disch := first | omega | (simp <;> omega) | fail) only [go_sem, simprocAttr, h3, e2]
            cases hb : fullB b h i with
            | true =>
              rw [hb, Bool.true_or] at hfs
              simp -failIfUnchanged (disch := first | omega | (simp <;> omega) | fail) only [go_sem, simprocAttr]
              exact next true hfs.symm
            | false =>
              rw [hb, Bool.false_or] at hfs
              simp -failIfUnchanged (disch := first | omega | (simp <;> omega) | fail) only [go_sem, simprocAttr]
              exact next _ hfs.symm
          · simp -failIfUnchanged (disch := first | omega | (simp <;> omega) | fail) only [go_sem, simprocAttr, h3]
            cases hb : fullB b h i with
            | true =>
              rw [hb, Bool.true_or] at hfs
              simp -failIfUnchanged (disch := first | omega | (simp <;> omega) | fail) only [go_sem, simprocAttr]
              exact next true hfs.symm
            | false =>
              rw [hb, Bool.false_or] at hfs
              simp -failIfUnchanged (disch := first | omega | (simp <;> omega) | fail) only [go_sem, simprocAttr]
              exact next _ hfs.symm
        · have e : i = b.sh.length := by omega
          subst e
          simp -failIfUnchanged (disch := first | omega | (simp <;> omega) | fail) only [go_sem, simprocAttr]
          refine wopsN [K 1 0 0, K 2 0 0] ?_
          simp -failIfUnchanged (disch := first | omega | (simp <;> omega) | fail) only [go_sem, simprocAttr, chunks_ints, Nat.le_refl, hwl, hml]
          refine wcall a3' ?_
          simp -failIfUnchanged (disch := first | omega | (simp <;> omega) | fail) only [go_sem, simprocAttr]
          cases hb : fullB b h b.sh.length with
          | true =>
            simp -failIfUnchanged (disch := first | omega | (simp <;> omega) | fail) only [go_sem, simprocAttr]
            refine wcall c16 ?_
            simp -failIfUnchanged (disch := first | omega | (simp <;> omega) | fail) only [go_sem, simprocAttr]
          | false =>
            have e3 := hwide hb
            simp -failIfUnchanged (disch := first | omega | (simp <;> omega) | fail) only [go_sem, simprocAttr]
            refine wcall (c26 hw3 h (by omega)) ?_
            have e4 : decide (hw3 = h) = true := decide_eq_true e3
            simp -failIfUnchanged (disch := first | omega | (simp <;> omega) | fail) only [go_sem, simprocAttr, e4]
            refine wcall c16 ?_
            simp -failIfUnchanged (disch := first | omega | (simp <;> omega) | fail) only [go_sem, simprocAttr]

end Go.Proofs.Ytbghdcleoamkiaa
